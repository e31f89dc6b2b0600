/- Own texts, put together by wip/bundle.py: Base, Data, Own, Clones, Mk, Sep, Slices, Slices2, Book, Book2, Lock, Coin, Tx, Block, Draw, Draw2, Types, OwnSet, Row, Append, Row2, Concat, Book3, BookLaw, Tree, Tree2, TreeLaw, Reverse, Path, Path2, Fork, ForkLaw, Opens. -/
import Derived.WalkKit
import Derived.WalkLawsBesides
import Derived.BigQuiet
import Derived.Deep.QuietTactic
import Derived.Deep.DeepFit
import Derived.Deep.LoopGhost
import Derived.Lib.Hide
import Derived.Test.YtgkfhlnklienoaaGreatDoorProg
import Derived.Maps.AppendAt
import Derived.Lib.SliceRun
import Derived.Deep.MidRow
import Derived.Great.BuildSlice
import Derived.OwnWalk
import Derived.BigFrame
import Derived.Maps.OwnOps
import Derived.Maps.Views
import Derived.Deep.Quiet
import Derived.OrdersHeld
import Derived.KernelRfl
import Derived.Lib.AppendZerosOnto
import Derived.Test.YtgkfhlnklienoaaGreatDoorShelf
import Derived.ProofKit
import Derived.Deep.Slices
set_option linter.unusedVariables false
set_option linter.unusedSimpArgs false
namespace Go.Proofs.YtgkfhlnklienoaaGreatDoor
section
open Go.RowKit
theorem zi {k:IntKind} {a b:Int} (h:a=b):Ending.returned (.int k a) = .returned (.int k b):=by rw [h]
theorem z03 {a b:Bool} (h:a=b):Ending.returned (.bool a) = .returned (.bool b):=by rw [h]
theorem z5q {k l:IntKind} {a b c d:Int} (h:a=b) (h':c=d):Ending.returned (.tuple #[.int k a,.int l c]) = .returned (.tuple #[.int k b,.int l d]):=by rw [h,h']
def Lt (B:Nat):Nat→Prop:=fun b=>b<B
def Agree (F:Nat→Prop) (w w':World):Prop:=∀ b,F b→w'.heap[b]? = w.heap[b]?
theorem Agree.cell {F:Nat→Prop} {w w':World} (h:Agree F w w') {p:Addr} (hp:F p.block):w'.cell? p=w.cell? p:=World.cell?_of_block (w:=w) (h p.block hp)
theorem Agree.below {B:Nat} {w w':World} (h:Below B w w'):Agree (Lt B) w w':=fun b hb=>h.block b hb
theorem Agree.mono {F F':Nat→Prop} {w w':World} (h:Agree F w w') (hF:∀ b,F' b→F b):Agree F' w w':=fun b hb=>h b (hF b hb)
theorem Agree.trans {F:Nat→Prop} {w w' w'':World} (h:Agree F w w') (h':Agree F w' w''):Agree F w w'':=fun b hb=>(h' b hb).trans (h b hb)
structure Sh (α:Type) where
 size:Nat
 rep:World→(Nat→Prop)→α→List Value→Prop
 len:∀ {w F x cs},rep w F x cs→cs.length=size
 keep:∀ {w w':World} {F x cs},Agree F w w'→rep w F x cs→rep w' F x cs
 more:∀ {w F F' x cs},(∀ b,F b→F' b)→rep w F x cs→rep w F' x cs
def Rds {α:Type} (S:Sh α) (w:World) (F:Nat→Prop) (xs:List α) (A:Option Addr) (n c:Nat):Prop :=
 xs.length=n∧n≤c∧c≤9223372036854775807∧(0<n→∃ b off,A=some ⟨b,off,none⟩∧F b ∧
  ∀ i (hi:i<xs.length),∃ cs,S.rep w F xs[i] cs∧∀ j v,cs[j]? = some v→w.cell? ⟨b,off+i * S.size+j,none⟩=some v)
theorem Rds.keep {α:Type} {S:Sh α} {w w':World} {F:Nat→Prop} {xs:List α} {A:Option Addr} {n c:Nat} (ha:Agree F w w') (h:Rds S w F xs A n c):Rds S w' F xs A n c :=
 ⟨h.1,h.2.1,h.2.2.1,fun hn=>by
  obtain ⟨b,off,e,hF,hc⟩:=h.2.2.2 hn
  refine ⟨b,off,e,hF,fun i hi=>?_⟩
  obtain ⟨cs,hr,hv⟩:=hc i hi
  exact ⟨cs,S.keep ha hr,fun j v hj=>(ha.cell (p:=⟨b,_,none⟩) hF).trans (hv j v hj)⟩⟩
theorem Rds.more {α:Type} {S:Sh α} {w:World} {F F':Nat→Prop} {xs:List α} {A:Option Addr} {n c:Nat} (hF':∀ b,F b→F' b) (h:Rds S w F xs A n c):Rds S w F' xs A n c :=
 ⟨h.1,h.2.1,h.2.2.1,fun hn=>by
  obtain ⟨b,off,e,hF,hc⟩:=h.2.2.2 hn
  refine ⟨b,off,e,hF' b hF,fun i hi=>?_⟩
  obtain ⟨cs,hr,hv⟩:=hc i hi
  exact ⟨cs,S.more hF' hr,hv⟩⟩
theorem Rds.take {α:Type} {S:Sh α} {w:World} {F:Nat→Prop} {xs:List α} {A:Option Addr} {n c k:Nat} (h:Rds S w F xs A n c) (hk:k≤n):Rds S w F (xs.take k) A k c:=by
 obtain ⟨h1,h2,h3,h4⟩:=h
 refine ⟨by rw [List.length_take,h1];omega,by omega,h3,fun hn=>?_⟩
 obtain ⟨b,off,e,hF,hc⟩:=h4 (by omega)
 refine ⟨b,off,e,hF,fun i hi=>?_⟩
 rw [List.length_take] at hi
 obtain ⟨cs,hr,hv⟩:=hc i (by omega)
 exact ⟨cs,by rw [List.getElem_take];exact hr,hv⟩
theorem Rds.nil {α:Type} (S:Sh α) (w:World) (F:Nat→Prop):Rds S w F [] none 0 0:=⟨rfl,by omega,by omega,fun h=>by omega⟩
theorem Rds.at_ {α:Type} {S:Sh α} {w:World} {F:Nat→Prop} {xs:List α} {A:Option Addr} {n c k:Nat} (h:Rds S w F xs A n c) (hk:k<n) :
  ∃ b off x cs,A=some ⟨b,off,none⟩∧F b∧xs[k]? = some x∧S.rep w F x cs∧∀ j v,cs[j]? = some v→w.cell? ⟨b,off+k * S.size+j,none⟩=some v:=by
 obtain ⟨b,off,e,hF,hc⟩:=h.2.2.2 (by omega)
 have hl:k<xs.length:=by have:=h.1;omega
 obtain ⟨cs,hr,hv⟩:=hc k hl
 exact ⟨b,off,xs[k],cs,e,hF,List.getElem?_eq_getElem hl,hr,hv⟩
def z0h {α:Type} (S:Sh α):Sh (List α):={
 size:=1
 rep w F xs cs:=∃ A n c,cs=[.slice A n c]∧Rds S w F xs A n c
 len:=by rintro w F x cs ⟨A,n,c,rfl,_⟩;rfl
 keep:=by rintro w w' F x cs ha ⟨A,n,c,rfl,h⟩;exact ⟨A,n,c,rfl,h.keep ha⟩
 more:=by rintro w F F' x cs hF ⟨A,n,c,rfl,h⟩;exact ⟨A,n,c,rfl,h.more hF⟩ }
def I64 (n:Int):Prop:=-9223372036854775808≤n∧n≤9223372036854775807
def shInt:Sh Int:={
 size:=1
 rep _ _ n cs:=cs=[.int .i64 n] ∧ -9223372036854775808≤n∧n≤9223372036854775807
 len:=by rintro w F x cs ⟨rfl,_⟩;rfl
 keep:=fun _ h=>h
 more:=fun _ h=>h }
def shBool:Sh Bool:={
 size:=1
 rep _ _ b cs:=cs=[.bool b]
 len:=by rintro w F x cs rfl;rfl
 keep:=fun _ h=>h
 more:=fun _ h=>h }
def shStr:Sh (List UInt8):={
 size:=1
 rep _ _ s cs:=cs=[.string ⟨s.toArray⟩]∧s.length≤9223372036854775807
 len:=by rintro w F x cs ⟨rfl,_⟩;rfl
 keep:=fun _ h=>h
 more:=fun _ h=>h }
theorem Rds.int {w:World} {F:Nat→Prop} {xs:List Int} {A:Option Addr} {n c k:Nat} (h:Rds shInt w F xs A n c) (hk:k<n) :
  ∃ b off x,A=some ⟨b,off,none⟩∧F b∧xs[k]? = some x∧w.cell? ⟨b,off+k,none⟩=some (.int .i64 x) ∧ -9223372036854775808≤x∧x≤9223372036854775807:=by
 obtain ⟨b,off,x,cs,e,hF,hx,⟨rfl,h1,h2⟩,hc⟩:=h.at_ hk
 exact ⟨b,off,x,e,hF,hx,by simpa [shInt] using hc 0 _ rfl,h1,h2⟩
theorem Rds.str {w:World} {F:Nat→Prop} {xs:List (List UInt8)} {A:Option Addr} {n c k:Nat} (h:Rds shStr w F xs A n c) (hk:k<n) :
  ∃ b off x,A=some ⟨b,off,none⟩∧F b∧xs[k]? = some x∧w.cell? ⟨b,off+k,none⟩=some (.string ⟨x.toArray⟩)∧x.length≤9223372036854775807:=by
 obtain ⟨b,off,x,cs,e,hF,hx,⟨rfl,h1⟩,hc⟩:=h.at_ hk
 exact ⟨b,off,x,e,hF,hx,by simpa [shStr] using hc 0 _ rfl,h1⟩
theorem Rds.of_own_int {w:World} {base e n:Nat} {v:Value} {xs:List Int} (h:w.ownsRow base e 1 v n (xs.map (Value.int .i64))) (hb:∀ x ∈ xs,-9223372036854775808≤x∧x≤9223372036854775807) :
  ∃ A c,v = .slice A n c∧Rds shInt w (fun b=>base≤b∧b<w.heap.size) xs A n c:=by
 obtain ⟨hl,h2⟩:=h
 simp at hl
 rcases h2 with ⟨rfl,rfl⟩|⟨g,cap,cur,rfl,hg,hh,hnc,hcm,hcs,ht⟩
 ·refine ⟨none,0,rfl,?_⟩
  obtain rfl:xs=[]:=List.eq_nil_of_length_eq_zero hl
  exact Rds.nil _ _ _
 ·refine ⟨_,cap,rfl,hl,hnc,by unfold maxLen at hcm;omega,fun hn=>⟨g,0,rfl,⟨hg,?_⟩,fun i hi=>⟨_,⟨rfl,hb _ (List.getElem_mem hi)⟩,?_⟩⟩⟩
  ·rcases Nat.lt_or_ge g w.heap.size with h|h
   ·exact h
   ·rw [Array.getElem?_eq_none h] at hh;cases hh
  ·intro j v hj
   match j,hj with
   | 0,hj =>
    simp at hj
    subst hj
    have e1:(cur.toList.take (n * 1))[i]? = some (.int .i64 xs[i]):=by rw [ht];simp [hi]
    rw [List.getElem?_take] at e1
    split at e1
    ·rw [cell_of_row w g _ cur _ (0,0) hh];simpa [shInt] using e1
    ·cases e1
theorem z91 {B:Nat} {a w:World} (h:Below B a w) (n:Nat):Below B a (w.drewN n):=⟨h.os,h.tape,h.output,h.size,h.block⟩
theorem z1q {α:Type} {l:List α} {k:Nat} {x:α} (h:l[k]? = some x):l.drop k=x::l.drop (k+1):=by
 obtain ⟨hk,e⟩:=List.getElem?_eq_some_iff.1 h
 rw [List.drop_eq_getElem_cons hk,e]
theorem z0t {α:Type} {l:List α} {k:Nat} {x:α} (h:l[k]? = some x):l.take (k+1)=l.take k++[x]:=by
 rw [List.take_add_one,h];rfl
end
section
open Go.RowKit
def z3t {α β τ:Type} (S0:Sh α) (S1:Sh β) (f:α→β→τ):Sh τ:={
 size:=S0.size+S1.size
 rep w F x cs:=∃ a b ca cb,x=f a b∧cs=ca++cb∧S0.rep w F a ca∧S1.rep w F b cb
 len:=by rintro w F x cs ⟨a,b,ca,cb,rfl,rfl,ha,hb⟩;simp [S0.len ha,S1.len hb]
 keep:=by rintro w w' F x cs hk ⟨a,b,ca,cb,e,e',ha,hb⟩;exact ⟨a,b,ca,cb,e,e',S0.keep hk ha,S1.keep hk hb⟩
 more:=by rintro w F F' x cs hk ⟨a,b,ca,cb,e,e',ha,hb⟩;exact ⟨a,b,ca,cb,e,e',S0.more hk ha,S1.more hk hb⟩ }
def shS1 {α τ:Type} (S0:Sh α) (f:α→τ):Sh τ:={
 size:=S0.size
 rep w F x cs:=∃ a,x=f a∧S0.rep w F a cs
 len:=by rintro w F x cs ⟨a,rfl,ha⟩;exact S0.len ha
 keep:=by rintro w w' F x cs hk ⟨a,e,ha⟩;exact ⟨a,e,S0.keep hk ha⟩
 more:=by rintro w F F' x cs hk ⟨a,e,ha⟩;exact ⟨a,e,S0.more hk ha⟩ }
def zhw {α β γ τ:Type} (S0:Sh α) (S1:Sh β) (S2:Sh γ) (f:α→β→γ→τ):Sh τ:=z3t S0 (z3t S1 S2 Prod.mk) (fun a p=>f a p.1 p.2)
def shS4 {α β γ δ τ:Type} (S0:Sh α) (S1:Sh β) (S2:Sh γ) (S3:Sh δ) (f:α→β→γ→δ→τ):Sh τ:=z3t S0 (zhw S1 S2 S3 fun a b c=>(a,b,c)) (fun a p=>f a p.1 p.2.1 p.2.2)
def shS5 {α β γ δ ε τ:Type} (S0:Sh α) (S1:Sh β) (S2:Sh γ) (S3:Sh δ) (S4:Sh ε) (f:α→β→γ→δ→ε→τ):Sh τ:=z3t S0 (shS4 S1 S2 S3 S4 fun a b c d=>(a,b,c,d)) (fun a p=>f a p.1 p.2.1 p.2.2.1 p.2.2.2)
structure Op where (kind n:Int) deriving DecidableEq,Repr
structure Point where (tx at_:Int) deriving DecidableEq,Repr
structure In where (p:Point) (key:List Op) deriving DecidableEq,Repr
structure Out where (coin:Int) (lock:List Op) deriving DecidableEq,Repr
structure Tx where (height:Int) (ins:List In) (outs:List Out) deriving DecidableEq,Repr
structure Book where (texts:List (List UInt8)) deriving DecidableEq,Repr
structure Coin where (p:Point) (o:Out) (height:Int) (reward:Bool) deriving DecidableEq,Repr
structure Undo where (spent:List Coin) deriving DecidableEq,Repr
structure Block where (parent height work nonce:Int) (txs:List Tx) deriving DecidableEq,Repr
structure Tree where (names:List Int) (blocks:List Block) deriving DecidableEq,Repr
structure Message where (kind src to name:Int) (b:Block) (t:Tx) deriving DecidableEq,Repr
structure Node where (t:Tree) (pool:List Tx) (tip:Int) deriving DecidableEq,Repr
structure Wld where (book:Book) (nodes:List Node) (net:List Message) deriving DecidableEq,Repr
structure Happening where (kind node to k work n:Int) (t:Tx) deriving DecidableEq,Repr
def shOp:Sh Op:=z3t shInt shInt Op.mk
def shPoint:Sh Point:=z3t shInt shInt Point.mk
def shIn:Sh In:=z3t shPoint (z0h shOp) In.mk
def shOut:Sh Out:=z3t shInt (z0h shOp) Out.mk
def shTx:Sh Tx:=zhw shInt (z0h shIn) (z0h shOut) Tx.mk
def shBook:Sh Book:=shS1 (z0h shStr) Book.mk
def shCoin:Sh Coin:=shS4 shPoint shOut shInt shBool Coin.mk
def z06n:Sh Undo:=shS1 (z0h shCoin) Undo.mk
def shBlock:Sh Block:=shS5 shInt shInt shInt shInt (z0h shTx) Block.mk
def z06o:Sh Tree:=z3t (z0h shInt) (z0h shBlock) Tree.mk
def z0f3:Sh Node:=zhw z06o (z0h shTx) shInt Node.mk
theorem z0f4 {w:World} {F:Nat→Prop} {x:Op} {cs:List Value} (h:shOp.rep w F x cs) :
  cs=[.int .i64 x.kind,.int .i64 x.n]∧I64 x.kind∧I64 x.n:=by
 obtain ⟨a,b,ca,cb,rfl,rfl,⟨rfl,h1⟩,rfl,h2⟩:=h
 exact ⟨rfl,h1,h2⟩
theorem znn {w:World} {F:Nat→Prop} {x:Point} {cs:List Value} (h:shPoint.rep w F x cs) :
  cs=[.int .i64 x.tx,.int .i64 x.at_]∧I64 x.tx∧I64 x.at_:=by
 obtain ⟨a,b,ca,cb,rfl,rfl,⟨rfl,h1⟩,rfl,h2⟩:=h
 exact ⟨rfl,h1,h2⟩
theorem z06p {w:World} {F:Nat→Prop} {x:In} {cs:List Value} (h:shIn.rep w F x cs) :
  ∃ A n c,cs=[.int .i64 x.p.tx,.int .i64 x.p.at_,.slice A n c]∧I64 x.p.tx∧I64 x.p.at_∧Rds shOp w F x.key A n c:=by
 obtain ⟨a,b,ca,cb,rfl,rfl,ha,A,n,c,rfl,hr⟩:=h
 obtain ⟨rfl,h1,h2⟩:=znn ha
 exact ⟨A,n,c,rfl,h1,h2,hr⟩
theorem z02q {w:World} {F:Nat→Prop} {x:Out} {cs:List Value} (h:shOut.rep w F x cs) :
  ∃ A n c,cs=[.int .i64 x.coin,.slice A n c]∧I64 x.coin∧Rds shOp w F x.lock A n c:=by
 obtain ⟨a,b,ca,cb,rfl,rfl,⟨rfl,h1⟩,A,n,c,rfl,hr⟩:=h
 exact ⟨A,n,c,rfl,h1,hr⟩
theorem zrs {w:World} {F:Nat→Prop} {x:Tx} {cs:List Value} (h:shTx.rep w F x cs) :
  ∃ A n c A' n' c',cs=[.int .i64 x.height,.slice A n c,.slice A' n' c']∧I64 x.height∧Rds shIn w F x.ins A n c∧Rds shOut w F x.outs A' n' c':=by
 obtain ⟨a,b,ca,cb,rfl,rfl,⟨rfl,h1⟩,a1,b1,ca1,cb1,rfl,rfl,⟨A,n,c,rfl,hr⟩,A',n',c',rfl,hr'⟩:=h
 exact ⟨A,n,c,A',n',c',rfl,h1,hr,hr'⟩
theorem zrt {w:World} {F:Nat→Prop} {x:Book} {cs:List Value} (h:shBook.rep w F x cs) :
  ∃ A n c,cs=[.slice A n c]∧Rds shStr w F x.texts A n c:=by
 obtain ⟨a,rfl,A,n,c,rfl,hr⟩:=h
 exact ⟨A,n,c,rfl,hr⟩
theorem zno {w:World} {F:Nat→Prop} {x:Block} {cs:List Value} (h:shBlock.rep w F x cs) :
  ∃ A n c,cs=[.int .i64 x.parent,.int .i64 x.height,.int .i64 x.work,.int .i64 x.nonce,.slice A n c]∧I64 x.parent∧I64 x.height∧I64 x.work∧I64 x.nonce∧Rds shTx w F x.txs A n c:=by
 obtain ⟨a,b,ca,cb,rfl,rfl,⟨rfl,h1⟩,a1,b1,ca1,cb1,rfl,rfl,⟨rfl,h2⟩,a2,b2,ca2,cb2,rfl,rfl,⟨rfl,h3⟩,a3,b3,ca3,cb3,rfl,rfl,⟨rfl,h4⟩,A,n,c,rfl,hr⟩:=h
 exact ⟨A,n,c,rfl,h1,h2,h3,h4,hr⟩
end
section
open Go.RowKit
def flat {α:Type} (zs:List (α × List Value)):List Value:=(zs.map (·.2)).flatten
theorem zns {α:Type} (z:α × List Value) (zs:List (α × List Value)):flat (z::zs)=z.2++flat zs:=by simp [flat]
theorem zc9 {α:Type} (zs ys:List (α × List Value)):flat (zs++ys)=flat zs++flat ys:=by simp [flat]
theorem z6q {α:Type} {s:Nat} {zs:List (α × List Value)} (h:∀ z ∈ zs,z.2.length=s):(flat zs).length=zs.length * s:=by
 induction zs with
 | nil=>simp [flat]
 | cons z zs ih =>
  rw [zns,List.length_append,ih (fun y hy=>h y (by simp [hy])),h z (by simp),List.length_cons,Nat.succ_mul]
  omega
theorem z02v {α:Type} {s:Nat} {zs:List (α × List Value)} (h:∀ z ∈ zs,z.2.length=s) {i:Nat} {z:α × List Value} (hi:zs[i]? = some z) {j:Nat} (hj:j<s):(flat zs)[i * s+j]? = z.2[j]?:=by
 induction zs generalizing i with
 | nil=>simp at hi
 | cons y zs ih =>
  have hy:=h y (by simp)
  rw [zns]
  cases i with
  | zero =>
   simp at hi
   subst hi
   rw [Nat.zero_mul,Nat.zero_add,List.getElem?_append_left (by omega)]
  | succ i =>
   simp at hi
   rw [List.getElem?_append_right (by rw [hy,Nat.succ_mul];omega),hy,show (i+1) * s+j - s=i * s+j by rw [Nat.succ_mul];omega]
   exact ih (fun z hz=>h z (by simp [hz])) hi
theorem Rds.pairs {α:Type} {S:Sh α} {w:World} {F:Nat→Prop} {xs:List α} {A:Option Addr} {n c:Nat} (h:Rds S w F xs A n c) :
  ∃ zs:List (α × List Value),zs.map (·.1)=xs∧(∀ z ∈ zs,S.rep w F z.1 z.2)∧(0<n→∃ b off,A=some ⟨b,off,none⟩∧F b∧∀ j v,(flat zs)[j]? = some v→w.cell? ⟨b,off+j,none⟩=some v):=by
 obtain ⟨h1,h2,h3,h4⟩:=h
 rcases Nat.eq_zero_or_pos n with h0|h0
 ·have:xs=[]:=List.eq_nil_of_length_eq_zero (by omega)
  subst this
  exact ⟨[],rfl,by simp,fun h=>by omega⟩
 ·obtain ⟨b,off,e,hF,hc⟩:=h4 h0
  have key:∀ m,m≤xs.length→∃ zs:List (α × List Value),zs.map (·.1)=xs.take m∧(∀ z ∈ zs,S.rep w F z.1 z.2)∧∀ j v,(flat zs)[j]? = some v→w.cell? ⟨b,off+j,none⟩=some v:=by
   intro m
   induction m with
   | zero=>intro _;exact ⟨[],by simp,by simp,by simp [flat]⟩
   | succ m ih =>
    intro hm
    obtain ⟨zs,z1,z2,z3⟩:=ih (by omega)
    obtain ⟨cs,hr,hv⟩:=hc m (by omega)
    have hl:∀ z ∈ zs,z.2.length=S.size:=fun z hz=>S.len (z2 z hz)
    have hzl:zs.length=m:=by have:=congrArg List.length z1;simp at this;omega
    refine ⟨zs++[(xs[m],cs)],?_,?_,?_⟩
    ·rw [z0t (List.getElem?_eq_getElem (by omega)),List.map_append,z1];rfl
    ·intro z hz
     rcases List.mem_append.1 hz with h|h
     ·exact z2 z h
     ·simp at h;subst h;exact hr
    ·intro j v hj
     rw [zc9] at hj
     by_cases hjl:j<(flat zs).length
     ·rw [List.getElem?_append_left hjl] at hj;exact z3 j v hj
     ·rw [List.getElem?_append_right (by omega)] at hj
      have e2:flat [(xs[m],cs)]=cs:=by simp [flat]
      rw [e2] at hj
      have:=hv _ v hj
      rw [z6q hl,hzl] at hjl this
      rw [show off+m * S.size+(j - m * S.size)=off+j by omega] at this
      exact this
  obtain ⟨zs,z1,z2,z3⟩:=key xs.length (Nat.le_refl _)
  exact ⟨zs,by rw [z1,List.take_length],z2,fun _=>⟨b,off,e,hF,z3⟩⟩
theorem Rds.of_own {α:Type} {S:Sh α} {w:World} {F:Nat→Prop} {base e n:Nat} {v:Value} {zs:List (α × List Value)} (h:w.ownsRow base e S.size v n (flat zs)) (hn:zs.length=n)
  (hz:∀ z ∈ zs,S.rep w F z.1 z.2) (hF:∀ g,base≤g→g<w.heap.size→F g):∃ A c,v = .slice A n c∧Rds S w F (zs.map (·.1)) A n c:=by
 obtain ⟨hl,h2⟩:=h
 rcases h2 with ⟨rfl,rfl⟩|⟨g,cap,cur,rfl,hg,hh,hnc,hcm,hcs,ht⟩
 ·have:zs=[]:=List.eq_nil_of_length_eq_zero hn
  subst this
  exact ⟨none,0,rfl,Rds.nil _ _ _⟩
 ·have hlt:g<w.heap.size:=by
   rcases Nat.lt_or_ge g w.heap.size with h|h
   ·exact h
   ·rw [Array.getElem?_eq_none h] at hh;cases hh
  refine ⟨_,cap,rfl,by simpa using hn,hnc,by unfold maxLen at hcm;omega,fun _=>⟨g,0,rfl,hF g hg hlt,fun i hi=>?_⟩⟩
  have hi':i<zs.length:=by simpa using hi
  refine ⟨zs[i].2,by simpa using hz _ (List.getElem_mem hi'),fun j u hj=>?_⟩
  have hjl:j<S.size:=by
   have:=S.len (hz _ (List.getElem_mem hi'))
   have:=(List.getElem?_eq_some_iff.1 hj).1
   omega
  have e1:=z02v (fun z hz'=>S.len (hz z hz')) (List.getElem?_eq_getElem hi') hjl
  rw [hj,← ht,List.getElem?_take] at e1
  split at e1
  ·rw [cell_of_row w g _ cur _ (0,0) hh,Nat.zero_add];simpa using e1
  ·cases e1
theorem zjl {w:World} {base e size n k:Nat} {v:Value} {xs:List Value} (h:w.ownsRow base e size v n xs) (hk:v.ownBlock=some k):base≤k:=by
 rcases h.2 with ⟨rfl,_⟩|⟨g,cap,cur,rfl,hg,_⟩
 ·cases hk
 ·have:g=k:=by simpa [Value.ownBlock] using hk
  omega
theorem Rds.of_block {α:Type} {S:Sh α} {w:World} {F:Nat→Prop} {g e cap:Nat} {cur:Array Value} {z:Nat × Nat} {zs:List (α × List Value)} (hh:w.heap[g]? = some (.cells cur e z)) (hc:cur.toList=flat zs)
  (hz:∀ z ∈ zs,S.rep w F z.1 z.2) (hF:F g) (hcap:zs.length≤cap) (hm:cap≤9223372036854775807):Rds S w F (zs.map (·.1)) (some ⟨g,0,none⟩) zs.length cap:=by
 refine ⟨by simp,hcap,hm,fun _=>⟨g,0,rfl,hF,fun i hi=>?_⟩⟩
 have hi':i<zs.length:=by simpa using hi
 refine ⟨zs[i].2,by simpa using hz _ (List.getElem_mem hi'),fun j u hj=>?_⟩
 have hjl:j<S.size:=by
  have:=S.len (hz _ (List.getElem_mem hi'))
  have:=(List.getElem?_eq_some_iff.1 hj).1
  omega
 have e1:=z02v (fun z hz'=>S.len (hz z hz')) (List.getElem?_eq_getElem hi') hjl
 rw [hj,← hc] at e1
 rw [cell_of_row w g _ cur _ z hh,Nat.zero_add]
 simpa using e1
theorem zjm {w:World} {g:Nat} {x:Obj} (h:w.heap[g]? = some x):g<w.heap.size:=by
 rcases Nat.lt_or_ge g w.heap.size with h'|h'
 ·exact h'
 ·rw [Array.getElem?_eq_none h'] at h;cases h
theorem z50 {w w':World} {B g:Nat} {x:Obj} (h:w.heap[g]? = some x) (hb:Below B w w') (hg:g<B):w'.heap[g]? = some x:=(hb.block g hg).trans h
theorem z3u {w:World} {g i t:Nat} {cs:Array Value} (h:w.heap[g]? = some (.cells cs t (0,0))):w.cell? ⟨g,i,none⟩=cs[i]?:=cell_of_row w g i cs t (0,0) h
theorem z0cz {w:World} {g i t:Nat} {cs:Array Value} {u:Value} (h:w.heap[g]? = some (.cells cs t (0,0))):(w.setCell ⟨g,i,none⟩ u).heap[g]? = some (.cells (cs.setIfInBounds i u) t (0,0)):=by simp [World.setCell,Array.getElem?_modify,h]
def z4n (cs:List Value):Prop:=∀ u ∈ cs,u.oneCell'=true
def Sh.ones {α:Type} (S:Sh α):Prop:=∀ {w F x cs},S.rep w F x cs→z4n cs
theorem zf8 {α:Type} {S:Sh α} (hS:S.ones) {w:World} {F:Nat→Prop} {zs:List (α × List Value)} (hz:∀ z ∈ zs,S.rep w F z.1 z.2):z4n (flat zs):=by
 intro u hu
 simp only [flat,List.mem_flatten,List.mem_map] at hu
 obtain ⟨l,⟨z,hz',rfl⟩,hu⟩:=hu
 exact hS (hz z hz') u hu
theorem z79:shInt.ones:=by rintro w F x cs ⟨rfl,_⟩ u hu;simp at hu;subst hu;rfl
theorem z06t:shBool.ones:=by rintro w F x cs rfl u hu;simp at hu;subst hu;rfl
theorem z0a4:shStr.ones:=by rintro w F x cs ⟨rfl,_⟩ u hu;simp at hu;subst hu;rfl
theorem z041 {α:Type} (S:Sh α):(z0h S).ones:=by rintro w F x cs ⟨A,n,c,rfl,_⟩ u hu;simp at hu;subst hu;rfl
theorem zan {α β τ:Type} {S0:Sh α} {S1:Sh β} {f:α→β→τ} (h0:S0.ones) (h1:S1.ones):(z3t S0 S1 f).ones:=by
 rintro w F x cs ⟨a,b,ca,cb,rfl,rfl,ha,hb⟩ u hu
 rcases List.mem_append.1 hu with h|h
 ·exact h0 ha u h
 ·exact h1 hb u h
theorem z0d0:shOp.ones:=zan z79 z79
theorem zjn:shPoint.ones:=zan z79 z79
theorem z0a5:shOut.ones:=zan z79 (z041 _)
theorem z06u:shCoin.ones:=zan zjn (zan z0a5 (zan z79 z06t))
end
section
open Go.RowKit
set_option maxRecDepth 100000
theorem z6r (b off k:Nat):(Addr.mk b off none).add k=⟨b,off+k,none⟩:=by unfold Addr.add;split <;> simp_all
theorem z9s (w:World) (e s:Nat):(w.alloc (.cells #[] e)).ownsRow w.heap.size e s (.slice (some ⟨w.heap.size,0,none⟩) 0 0) 0 [] :=
 ⟨by simp,.inr ⟨w.heap.size,0,#[],rfl,Nat.le_refl _,heap_alloc_new w _,Nat.le_refl _,by unfold maxLen;omega,by simp,by simp⟩⟩
def zjo {α:Type} (S:Sh α) (e:Nat) (w:World) (F:Nat→Prop) (xs:List α) (n:Nat) (r:Ending) (w':World):Prop :=
 ∃ (v:Value) (zs:List (α × List Value)),r = .returned v∧zs.map (·.1)=xs∧(∀ z ∈ zs,S.rep w F z.1 z.2)∧w'.ownsRow w.heap.size e S.size v n (flat zs)∧Below w.heap.size w w'
theorem zf9 (xs:List (List UInt8)) (A:Option Addr) (n c:Nat) (w:World) (F:Nat→Prop) (h:Rds shStr w F xs A n c) (hF:∀ b,F b→b<w.heap.size) (hn:n * 16≤140737488355328) :
  Calls Tryz.prog 156 #[.slice A n c] w (zjo shStr 9 w F xs n):=by
 have hq:=fun (W:World)=>Lib.run_eql_slice_nil (P:=Tryz.prog) W 35 9 A n c 0 0 Tryz.underlying35
 cases A with
 | none =>
  have h0:n=0:=by
   rcases Nat.eq_zero_or_pos n with h0|h0
   ·exact h0
   ·obtain ⟨b,off,e,_⟩:=h.2.2.2 h0;cases e
  subst h0
  have hx:xs=[]:=List.eq_nil_of_length_eq_zero h.1
  subst hx
  go_enter Tryz.func156,Tryz.ntmps156
  go_wp2
  go_ret
  exact ⟨_,[],rfl,rfl,by simp,World.ownsRow_nil _ _ _ _,Below.refl _ _⟩
 | some ad =>
  obtain ⟨zs,z1,z2,z3⟩:=h.pairs
  have hl:zs.length=n:=by have:=congrArg List.length z1;simp at this;have:=h.1;omega
  have hfl:(flat zs).length=n * 1:=by rw [z6q (fun z hz=>shStr.len (z2 z hz)),hl];rfl
  have hnews:∀ j u,(flat zs)[j]? = some u→(w.alloc (.cells #[] 9)).cell? (ad.add j)=some u:=by
   intro j u hj
   have hj':=(List.getElem?_eq_some_iff.1 hj).1
   obtain ⟨b,off,e,hFb,hc⟩:=z3 (by omega)
   injection e with e
   subst e
   rw [z6r,World.cell?_alloc_lt w _ _ (hF b hFb)]
   exact hc j u hj
  have H1:=Lib.hid (zf8 z0a4 z2)
  have HN:=Lib.hid hnews
  have HL:=Lib.hid hfl
  have Z1:=Lib.hid z1
  have HZ:=Lib.hid hl
  obtain ⟨i0,zv,hi,hz0,hz1,hz2,hz3⟩:∃ i z,Tryz.prog.info? 9=some i∧i.zero=some z∧i.size=1∧i.bytes=16∧z.cells.size=1:=by
   have h1:(Tryz.prog.info? 9).map (fun i=>(i.zero.map (·.cells.size),i.size,i.bytes))=some (some 1,1,16):=by kernel_rfl
   match hh:Tryz.prog.info? 9,h1 with
   | some i,h1 =>
    simp only [Option.map_some,Option.some.injEq,Prod.mk.injEq] at h1
    match hz:i.zero,h1 with
    | some z,h1=>exact ⟨i,z,rfl,hz,h1.2.1,h1.2.2,by simpa using h1.1⟩
  clear hnews hfl h z1 hl z3
  go_enter Tryz.func156,Tryz.ntmps156
  go_wp2_with (at_builtin;refine wpList_append_own_at _ rfl _ _ 35 rfl w.heap.size 9 i0 zv 1 16 Tryz.underlying35 hi hz0 hz1 hz2 hz3 (by omega) _ 0 [] rfl (z9s w _ _) ad n c (flat zs) rfl HL.out HN.out H1.out (by unfold maxLen;omega) (by rw [Nat.zero_add];exact hn) (by simp) ?_;intro v' w1 hown hgr _ _)
  go_ret
  rw [Nat.zero_add,List.nil_append] at hown
  refine ⟨v',zs,rfl,Z1.out,z2,hown,?_⟩
  exact ((Below.refl _ _).alloc (Nat.le_refl _) _).grown hgr (by simp) (fun k hk=>by injection hk with hk;exact Nat.le_of_eq hk)
theorem z0a6 (xs:List (Op)) (A:Option Addr) (n c:Nat) (w:World) (F:Nat→Prop) (h:Rds shOp w F xs A n c) (hF:∀ b,F b→b<w.heap.size) (hn:n * 16≤140737488355328) :
  Calls Tryz.prog 163 #[.slice A n c] w (zjo shOp 217 w F xs n):=by
 have hq:=fun (W:World)=>Lib.run_eql_slice_nil (P:=Tryz.prog) W 57 217 A n c 0 0 Tryz.underlying57
 cases A with
 | none =>
  have h0:n=0:=by
   rcases Nat.eq_zero_or_pos n with h0|h0
   ·exact h0
   ·obtain ⟨b,off,e,_⟩:=h.2.2.2 h0;cases e
  subst h0
  have hx:xs=[]:=List.eq_nil_of_length_eq_zero h.1
  subst hx
  go_enter Tryz.func163,Tryz.ntmps163
  go_wp2
  go_ret
  exact ⟨_,[],rfl,rfl,by simp,World.ownsRow_nil _ _ _ _,Below.refl _ _⟩
 | some ad =>
  obtain ⟨zs,z1,z2,z3⟩:=h.pairs
  have hl:zs.length=n:=by have:=congrArg List.length z1;simp at this;have:=h.1;omega
  have hfl:(flat zs).length=n * 2:=by rw [z6q (fun z hz=>shOp.len (z2 z hz)),hl];rfl
  have hnews:∀ j u,(flat zs)[j]? = some u→(w.alloc (.cells #[] 217)).cell? (ad.add j)=some u:=by
   intro j u hj
   have hj':=(List.getElem?_eq_some_iff.1 hj).1
   obtain ⟨b,off,e,hFb,hc⟩:=z3 (by omega)
   injection e with e
   subst e
   rw [z6r,World.cell?_alloc_lt w _ _ (hF b hFb)]
   exact hc j u hj
  have H1:=Lib.hid (zf8 z0d0 z2)
  have HN:=Lib.hid hnews
  have HL:=Lib.hid hfl
  have Z1:=Lib.hid z1
  have HZ:=Lib.hid hl
  obtain ⟨i0,zv,hi,hz0,hz1,hz2,hz3⟩:∃ i z,Tryz.prog.info? 217=some i∧i.zero=some z∧i.size=2∧i.bytes=16∧z.cells.size=2:=by
   have h1:(Tryz.prog.info? 217).map (fun i=>(i.zero.map (·.cells.size),i.size,i.bytes))=some (some 2,2,16):=by kernel_rfl
   match hh:Tryz.prog.info? 217,h1 with
   | some i,h1 =>
    simp only [Option.map_some,Option.some.injEq,Prod.mk.injEq] at h1
    match hz:i.zero,h1 with
    | some z,h1=>exact ⟨i,z,rfl,hz,h1.2.1,h1.2.2,by simpa using h1.1⟩
  clear hnews hfl h z1 hl z3
  go_enter Tryz.func163,Tryz.ntmps163
  go_wp2_with (at_builtin;refine wpList_append_own_at _ rfl _ _ 57 rfl w.heap.size 217 i0 zv 2 16 Tryz.underlying57 hi hz0 hz1 hz2 hz3 (by omega) _ 0 [] rfl (z9s w _ _) ad n c (flat zs) rfl HL.out HN.out H1.out (by unfold maxLen;omega) (by rw [Nat.zero_add];exact hn) (by simp) ?_;intro v' w1 hown hgr _ _)
  go_ret
  rw [Nat.zero_add,List.nil_append] at hown
  refine ⟨v',zs,rfl,Z1.out,z2,hown,?_⟩
  exact ((Below.refl _ _).alloc (Nat.le_refl _) _).grown hgr (by simp) (fun k hk=>by injection hk with hk;exact Nat.le_of_eq hk)
theorem z042 (xs:List (Coin)) (A:Option Addr) (n c:Nat) (w:World) (F:Nat→Prop) (h:Rds shCoin w F xs A n c) (hF:∀ b,F b→b<w.heap.size) (hn:n * 64≤140737488355328) :
  Calls Tryz.prog 217 #[.slice A n c] w (zjo shCoin 102 w F xs n):=by
 have hq:=fun (W:World)=>Lib.run_eql_slice_nil (P:=Tryz.prog) W 64 102 A n c 0 0 Tryz.underlying64
 cases A with
 | none =>
  have h0:n=0:=by
   rcases Nat.eq_zero_or_pos n with h0|h0
   ·exact h0
   ·obtain ⟨b,off,e,_⟩:=h.2.2.2 h0;cases e
  subst h0
  have hx:xs=[]:=List.eq_nil_of_length_eq_zero h.1
  subst hx
  go_enter Tryz.func217,Tryz.ntmps217
  go_wp2
  go_ret
  exact ⟨_,[],rfl,rfl,by simp,World.ownsRow_nil _ _ _ _,Below.refl _ _⟩
 | some ad =>
  obtain ⟨zs,z1,z2,z3⟩:=h.pairs
  have hl:zs.length=n:=by have:=congrArg List.length z1;simp at this;have:=h.1;omega
  have hfl:(flat zs).length=n * 6:=by rw [z6q (fun z hz=>shCoin.len (z2 z hz)),hl];rfl
  have hnews:∀ j u,(flat zs)[j]? = some u→(w.alloc (.cells #[] 102)).cell? (ad.add j)=some u:=by
   intro j u hj
   have hj':=(List.getElem?_eq_some_iff.1 hj).1
   obtain ⟨b,off,e,hFb,hc⟩:=z3 (by omega)
   injection e with e
   subst e
   rw [z6r,World.cell?_alloc_lt w _ _ (hF b hFb)]
   exact hc j u hj
  have H1:=Lib.hid (zf8 z06u z2)
  have HN:=Lib.hid hnews
  have HL:=Lib.hid hfl
  have Z1:=Lib.hid z1
  have HZ:=Lib.hid hl
  obtain ⟨i0,zv,hi,hz0,hz1,hz2,hz3⟩:∃ i z,Tryz.prog.info? 102=some i∧i.zero=some z∧i.size=6∧i.bytes=64∧z.cells.size=6:=by
   have h1:(Tryz.prog.info? 102).map (fun i=>(i.zero.map (·.cells.size),i.size,i.bytes))=some (some 6,6,64):=by kernel_rfl
   match hh:Tryz.prog.info? 102,h1 with
   | some i,h1 =>
    simp only [Option.map_some,Option.some.injEq,Prod.mk.injEq] at h1
    match hz:i.zero,h1 with
    | some z,h1=>exact ⟨i,z,rfl,hz,h1.2.1,h1.2.2,by simpa using h1.1⟩
  clear hnews hfl h z1 hl z3
  go_enter Tryz.func217,Tryz.ntmps217
  go_wp2_with (at_builtin;refine wpList_append_own_at _ rfl _ _ 64 rfl w.heap.size 102 i0 zv 6 64 Tryz.underlying64 hi hz0 hz1 hz2 hz3 (by omega) _ 0 [] rfl (z9s w _ _) ad n c (flat zs) rfl HL.out HN.out H1.out (by unfold maxLen;omega) (by rw [Nat.zero_add];exact hn) (by simp) ?_;intro v' w1 hown hgr _ _)
  go_ret
  rw [Nat.zero_add,List.nil_append] at hown
  refine ⟨v',zs,rfl,Z1.out,z2,hown,?_⟩
  exact ((Below.refl _ _).alloc (Nat.le_refl _) _).grown hgr (by simp) (fun k hk=>by injection hk with hk;exact Nat.le_of_eq hk)
end
section
open Go.RowKit
theorem z0a7 {w:World} {F:Nat→Prop} {x:Point} (h1:I64 x.tx) (h2:I64 x.at_):shPoint.rep w F x [.int .i64 x.tx,.int .i64 x.at_] :=
 ⟨x.tx,x.at_,[_],[_],rfl,rfl,⟨rfl,h1⟩,rfl,h2⟩
end
section
open Go.RowKit
structure Stop (p:Prop):Prop where
 go:p
structure Res where
 block:Option Nat
 holds:Nat→(Nat→Prop)→World→Prop
 keep:∀ {h0:Nat} {F F':Nat→Prop} {W W':World},Agree F W W'→(∀ b,F b→F' b)→(∀ g,block=some g→W'.heap[g]? = W.heap[g]?)→holds h0 F W→holds h0 F' W'
 lt:∀ {h0:Nat} {F:Nat→Prop} {W:World} {g:Nat},holds h0 F W→block=some g→h0≤g∧g<W.heap.size
def zfa (p:World→(Nat→Prop)→Prop) (k:∀ {W W':World} {F F':Nat→Prop},Agree F W W'→(∀ b,F b→F' b)→p W F→p W' F'):Res:={
 block:=none
 holds _ F W:=p W F
 keep:=fun ha hF _ h=>k ha hF h
 lt:=fun _ h=>by cases h }
def rds {α:Type} (xs:List α) (A:Option Addr) (n c:Nat) (S:Sh α):Res:=zfa (fun W F=>Rds S W F xs A n c) fun ha hF h=>(h.keep ha).more hF
def rep {α:Type} (x:α) (cs:List Value) (S:Sh α):Res:=zfa (fun W F=>S.rep W F x cs) fun ha hF h=>S.more hF (S.keep ha h)
def cells (b o:Nat) (cs:List Value):Res:=zfa (fun W F=>F b∧W.rangeAt b o cs) fun ha hF h=>⟨hF _ h.1,fun j v hj=>(ha.cell (p:=⟨b,o+j,none⟩) h.1).trans (h.2 j v hj)⟩
def box (g:Nat) (cs:List Value) (t:Nat):Res:={
 block:=some g
 holds h0 _ W:=h0≤g∧W.heap[g]? = some (.cells cs.toArray t (0,0))
 keep:=fun _ _ hb h=>⟨h.1,(hb g rfl).trans h.2⟩
 lt:=fun h e=>by injection e with e;subst e;exact ⟨h.1,zjm h.2⟩ }
theorem zfb {w w':World} {base e size n:Nat} {v:Value} {xs:List Value} (h:w.ownsRow base e size v n xs) (hb:∀ g,v.ownBlock=some g→w'.heap[g]? = w.heap[g]?):w'.ownsRow base e size v n xs:=by
 refine ⟨h.1,?_⟩
 rcases h.2 with h0|⟨g,cap,cur,hv,hg,hh,r⟩
 ·exact .inl h0
 ·exact .inr ⟨g,cap,cur,hv,hg,by rw [hb g (by rw [hv];rfl)];exact hh,r⟩
def row {α:Type} (e:Nat) (v:Value) (xs:List α) (S:Sh α):Res:={
 block:=v.ownBlock
 holds h0 F W:=∃ zs:List (α × List Value),zs.map (·.1)=xs∧W.ownsRow h0 e S.size v xs.length (flat zs)∧∀ z ∈ zs,S.rep W F z.1 z.2
 keep:=fun ha hF hb ⟨zs,h1,h2,h3⟩=>⟨zs,h1,zfb h2 hb,fun z hz=>S.more hF (S.keep ha (h3 z hz))⟩
 lt:=fun ⟨_,_,h2,_⟩ e=>h2.lt _ e }
def Free (h0:Nat) (F0:Nat→Prop) (Γ:List Res) (W:World) (b:Nat):Prop:=(F0 b∨(h0≤b∧b<W.heap.size))∧∀ r ∈ Γ,r.block≠some b
def All (h0:Nat) (F0:Nat→Prop) (W:World) (b:Nat):Prop:=F0 b∨(h0≤b∧b<W.heap.size)
structure Sep (w0:World) (F0:Nat→Prop) (Γ:List Res) (W:World):Prop where
 below:Below w0.heap.size w0 W
 low:∀ b,F0 b→b<w0.heap.size
 all:∀ r ∈ Γ,r.holds w0.heap.size (Free w0.heap.size F0 Γ W) W
 dj:Γ.Pairwise fun r r'=>∀ g,r.block=some g→r'.block≠some g
def At (Γ:List Res) (r:Res):Prop:=r ∈ Γ
theorem At.z {Γ:List Res} {r:Res}:At (r::Γ) r:=List.mem_cons_self ..
theorem At.s {Γ:List Res} {r q:Res} (h:At Γ r):At (q::Γ) r:=List.mem_cons_of_mem _ h
def Put (Γ:List Res) (r r':Res) (Γ':List Res):Prop:=∃ l1 l2,Γ=l1++r::l2∧Γ'=l1++r'::l2
theorem Put.z {Γ:List Res} {r r':Res}:Put (r::Γ) r r' (r'::Γ):=⟨[],Γ,rfl,rfl⟩
theorem Put.s {Γ Γ':List Res} {r r' q:Res} (h:Put Γ r r' Γ'):Put (q::Γ) r r' (q::Γ'):=by
 obtain ⟨l1,l2,rfl,rfl⟩:=h
 exact ⟨q::l1,l2,rfl,rfl⟩
def Del (Γ:List Res) (r:Res) (Γ':List Res):Prop:=∃ l1 l2,Γ=l1++r::l2∧Γ'=l1++l2
theorem Del.z {Γ:List Res} {r:Res}:Del (r::Γ) r Γ:=⟨[],Γ,rfl,rfl⟩
theorem Del.s {Γ Γ':List Res} {r q:Res} (h:Del Γ r Γ'):Del (q::Γ) r (q::Γ'):=by
 obtain ⟨l1,l2,rfl,rfl⟩:=h
 exact ⟨q::l1,l2,rfl,rfl⟩
theorem Put.at_ {Γ Γ':List Res} {r r':Res} (h:Put Γ r r' Γ'):At Γ r:=by
 obtain ⟨l1,l2,rfl,rfl⟩:=h
 simp [At]
def Sub (Γ' Γ:List Res):Prop:=∃ l,Γ.Perm (Γ'++l)
theorem Sub.nil {Γ:List Res}:Sub [] Γ:=⟨Γ,by simp⟩
theorem Sub.refl {Γ:List Res}:Sub Γ Γ:=⟨[],by simp⟩
theorem Sub.skip {Γ Γ':List Res} {r:Res} (h:Sub Γ' Γ):Sub Γ' (r::Γ):=by
 obtain ⟨l,hl⟩:=h
 exact ⟨r::l,(hl.cons r).trans List.perm_middle.symm⟩
theorem Sub.take {Γ Γ1 Γ':List Res} {r:Res} (hd:Del Γ r Γ1) (h:Sub Γ' Γ1):Sub (r::Γ') Γ:=by
 obtain ⟨l1,l2,rfl,rfl⟩:=hd
 obtain ⟨l,hl⟩:=h
 exact ⟨l,List.perm_middle.trans (hl.cons r)⟩
section
variable {w0 W W':World} {F0:Nat→Prop} {Γ Γ':List Res}
theorem Sep.size (h:Sep w0 F0 Γ W):w0.heap.size≤W.heap.size:=h.below.size
theorem Free.lt (h:Sep w0 F0 Γ W) {b:Nat} (hb:Free w0.heap.size F0 Γ W b):b<W.heap.size:=by
 rcases hb.1 with h1|h1
 ·exact Nat.lt_of_lt_of_le (h.low b h1) h.size
 ·exact h1.2
theorem Free.all {h0:Nat} {b:Nat} (hb:Free h0 F0 Γ W b):All h0 F0 W b:=hb.1
theorem All.lt (h:Sep w0 F0 Γ W) {b:Nat} (hb:All w0.heap.size F0 W b):b<W.heap.size:=by
 rcases hb with h1|h1
 ·exact Nat.lt_of_lt_of_le (h.low b h1) h.size
 ·exact h1.2
theorem Sep.start (w:World) (F:Nat→Prop) (hF:∀ b,F b→b<w.heap.size):Sep w F [] w:=⟨Below.refl _ _,hF,by simp,List.Pairwise.nil⟩
theorem Sep.get (h:Sep w0 F0 Γ W) {r:Res} (hr:At Γ r):r.holds w0.heap.size (Free w0.heap.size F0 Γ W) W:=h.all r hr
theorem Sep.out (h:Sep w0 F0 Γ W) {r:Res} (hr:At Γ r):r.holds w0.heap.size (All w0.heap.size F0 W) W:=r.keep (fun _ _=>rfl) (fun b hb=>hb.1) (fun _ _=>rfl) (h.all r hr)
theorem Sep.lts (h:Sep w0 F0 Γ W) {r:Res} (hr:At Γ r):r.holds w0.heap.size (Lt W.heap.size) W:=r.keep (fun _ _=>rfl) (fun b hb=>Free.lt h hb) (fun _ _=>rfl) (h.all r hr)
theorem Sep.sub (h:Sep w0 F0 Γ W) (hs:Sub Γ' Γ):Sep w0 F0 Γ' W:=by
 obtain ⟨l,hl⟩:=hs
 have hm:∀ r ∈ Γ',r ∈ Γ:=fun r hr=>hl.mem_iff.2 (List.mem_append_left _ hr)
 refine ⟨h.below,h.low,fun r hr=>r.keep (fun _ _=>rfl) (fun b hb=>⟨hb.1,fun q hq=>hb.2 q (hm q hq)⟩) (fun _ _=>rfl) (h.all r (hm r hr)),?_⟩
 have hp:=(hl.pairwise_iff (R:=fun r r':Res=>∀ g,r.block=some g→r'.block≠some g) (fun hab g hb ha=>hab g ha hb)).1 h.dj
 exact (List.pairwise_append.1 hp).1
theorem Sep.grow (h:Sep w0 F0 Γ W) (hg:W.grownBy W' none) {r:Res} (hr:r.holds w0.heap.size (Free w0.heap.size F0 (r::Γ) W') W') (hb:∀ g,r.block=some g→W.heap.size≤g):Sep w0 F0 (r::Γ) W':=by
 have hsz:=h.size
 have hfree:∀ b,Free w0.heap.size F0 Γ W b→Free w0.heap.size F0 (r::Γ) W' b:=by
  intro b hb'
  have hlt:=Free.lt h hb'
  refine ⟨hb'.1.imp (fun x=>x) (fun x=>⟨x.1,Nat.lt_of_lt_of_le x.2 hg.size⟩),fun q hq=>?_⟩
  rcases List.mem_cons.1 hq with rfl|hq
  ·intro e
   have:=hb b e
   omega
  ·exact hb'.2 q hq
 refine ⟨h.below.grown hg hsz (fun k hk=>by cases hk),h.low,?_,?_⟩
 ·intro q hq
  rcases List.mem_cons.1 hq with rfl|hq
  ·exact hr
  ·exact q.keep (fun b hb'=>hg.block b (Free.lt h hb') (by simp)) hfree (fun g hg'=>hg.block g (q.lt (h.all q hq) hg').2 (by simp)) (h.all q hq)
 ·refine List.pairwise_cons.2 ⟨fun q hq g h1 h2=>?_,h.dj⟩
  have h3:=hb g h1
  have h4:=(q.lt (h.all q hq) h2).2
  omega
theorem Sep.more (h:Sep w0 F0 Γ W) (hg:W.grownBy W' none):Sep w0 F0 Γ W':=by
 have hfree:∀ b,Free w0.heap.size F0 Γ W b→Free w0.heap.size F0 Γ W' b:=fun b hb' =>
  ⟨hb'.1.imp (fun x=>x) (fun x=>⟨x.1,Nat.lt_of_lt_of_le x.2 hg.size⟩),hb'.2⟩
 exact ⟨h.below.grown hg h.size (fun k hk=>by cases hk),h.low,fun q hq=>q.keep (fun b hb'=>hg.block b (Free.lt h hb') (by simp)) hfree (fun g hg'=>hg.block g (q.lt (h.all q hq) hg').2 (by simp)) (h.all q hq),h.dj⟩
theorem zlh {W W':World} {row:Option Nat} (h:Below W.heap.size W W'):W.grownBy W' row:=⟨h.os,h.tape,h.output,h.size,fun k hk _=>h.block k hk⟩
theorem Sep.belows (h:Sep w0 F0 Γ W) (hb:Below W.heap.size W W'):Sep w0 F0 Γ W':=h.more (zlh hb)
theorem Sep.drew (h:Sep w0 F0 Γ W):Sep w0 F0 Γ W.drew:=h.belows (Below.refl _ _).drew
theorem Sep.drewN (h:Sep w0 F0 Γ W) (n:Nat):Sep w0 F0 Γ (W.drewN n):=h.belows (z91 (Below.refl _ _) n)
theorem Sep.add (h:Sep w0 F0 Γ W) {r:Res} (hn:r.block=none) (hr:r.holds w0.heap.size (Free w0.heap.size F0 Γ W) W):Sep w0 F0 (r::Γ) W:=by
 refine h.grow ⟨rfl,rfl,rfl,Nat.le_refl _,fun _ _ _=>rfl⟩ (r.keep (fun _ _=>rfl) (fun b hb=>⟨hb.1,fun q hq=>?_⟩) (fun _ _=>rfl) hr) (fun g hg=>by rw [hn] at hg;cases hg)
 rcases List.mem_cons.1 hq with rfl|hq
 ·rw [hn];simp
 ·exact hb.2 q hq
theorem Sep.lift (h:Sep w0 F0 Γ W) {r q:Res} (hn:q.block=none) (hr:r.holds w0.heap.size (Free w0.heap.size F0 Γ W) W):r.holds w0.heap.size (Free w0.heap.size F0 (q::Γ) W) W :=
 r.keep (fun _ _=>rfl) (fun b hb=>⟨hb.1,fun p hp=>by
  rcases List.mem_cons.1 hp with rfl|hp
  ·rw [hn];simp
  ·exact hb.2 p hp⟩) (fun _ _=>rfl) hr
theorem Sep.add2 (h:Sep w0 F0 Γ W) {r q:Res} (hn:r.block=none) (hm:q.block=none) (hr:r.holds w0.heap.size (Free w0.heap.size F0 Γ W) W) (hq:q.holds w0.heap.size (Free w0.heap.size F0 Γ W) W):Sep w0 F0 (r::q::Γ) W :=
 (h.add hm hq).add hn (h.lift hm hr)
theorem Sep.put (h:Sep w0 F0 Γ W) {r r':Res} (hp:Put Γ r r' Γ') (hg:W.grownBy W' r.block) (hb:∀ g,r'.block=some g→r.block=some g∨W.heap.size≤g)
  (hr:(∀ b,Free w0.heap.size F0 Γ W b→Free w0.heap.size F0 Γ' W' b)→Agree (Free w0.heap.size F0 Γ W) W W'→r.holds w0.heap.size (Free w0.heap.size F0 Γ W) W→r'.holds w0.heap.size (Free w0.heap.size F0 Γ' W') W'):Sep w0 F0 Γ' W':=by
 obtain ⟨l1,l2,rfl,rfl⟩:=hp
 have hmr:r ∈ l1++r::l2:=by simp
 have hother:∀ q,q ∈ l1∨q ∈ l2→q ∈ l1++r::l2:=fun q hq=>by rcases hq with hq|hq <;> simp [hq]
 have hp:=List.pairwise_append.1 h.dj
 have hp2:=List.pairwise_cons.1 hp.2.1
 have hdj:∀ q,q ∈ l1∨q ∈ l2→∀ g,q.block=some g→r.block≠some g:=by
  intro q hq g h1 h2
  rcases hq with hq|hq
  ·exact hp.2.2 q hq r (by simp) g h1 h2
  ·exact hp2.1 q hq g h2 h1
 have hfree:∀ b,Free w0.heap.size F0 (l1++r::l2) W b→Free w0.heap.size F0 (l1++r'::l2) W' b:=by
  intro b hb'
  have hlt:=Free.lt h hb'
  refine ⟨hb'.1.imp (fun x=>x) (fun x=>⟨x.1,Nat.lt_of_lt_of_le x.2 hg.size⟩),fun q hq=>?_⟩
  simp only [List.mem_append,List.mem_cons] at hq
  rcases hq with hq|rfl|hq
  ·exact hb'.2 q (hother q (.inl hq))
  ·intro e
   rcases hb b e with h1|h1
   ·exact hb'.2 r hmr h1
   ·omega
  ·exact hb'.2 q (hother q (.inr hq))
 have hag:Agree (Free w0.heap.size F0 (l1++r::l2) W) W W':=fun b hb'=>hg.block b (Free.lt h hb') (fun e=>hb'.2 r hmr e.symm)
 have hkeep:∀ q,q ∈ l1∨q ∈ l2→q.holds w0.heap.size (Free w0.heap.size F0 (l1++r'::l2) W') W':=fun q hq =>
  q.keep hag hfree (fun g hg'=>hg.block g (q.lt (h.all q (hother q hq)) hg').2 (fun e=>hdj q hq g hg' e.symm)) (h.all q (hother q hq))
 refine ⟨h.below.grown hg h.size (fun k hk=>(r.lt (h.all r hmr) hk).1),h.low,?_,?_⟩
 ·intro q hq
  simp only [List.mem_append,List.mem_cons] at hq
  rcases hq with hq|rfl|hq
  ·exact hkeep q (.inl hq)
  ·exact hr hfree hag (h.all r hmr)
  ·exact hkeep q (.inr hq)
 ·have hnew:∀ q,q ∈ l1∨q ∈ l2→∀ g,q.block=some g→r'.block≠some g:=by
   intro q hq g h1 h2
   rcases hb g h2 with h3|h3
   ·exact hdj q hq g h1 h3
   ·have:=(q.lt (h.all q (hother q hq)) h1).2
    omega
  refine List.pairwise_append.2 ⟨hp.1,List.pairwise_cons.2 ⟨fun q hq g h1 h2=>hnew q (.inr hq) g h2 h1,hp2.2⟩,?_⟩
  intro q hq q' hq' g h1 h2
  rcases List.mem_cons.1 hq' with rfl|hq'
  ·exact hnew q (.inl hq) g h1 h2
  ·exact hp.2.2 q hq q' (by simp [hq']) g h1 h2
theorem Sep.alloc (h:Sep w0 F0 Γ W) (cs:List Value) (t:Nat):Sep w0 F0 (box W.heap.size cs t::Γ) (W.alloc (.cells cs.toArray t)) :=
 h.grow (World.grownBy_alloc W _ none) ⟨h.size,heap_alloc_new W _⟩ (fun g hg=>by injection hg with hg;omega)
theorem Sep.store (h:Sep w0 F0 Γ W) {g t j:Nat} {cs:List Value} (u:Value) (hp:Put Γ (box g cs t) (box g (cs.set j u) t) Γ'):Sep w0 F0 Γ' (W.setCell ⟨g,j,none⟩ u):=by
 refine h.put hp ⟨rfl,rfl,rfl,by simp [World.setCell],fun k hk hne=>Below.heap_setCell _ _ _ _ (fun e=>hne (by rw [e];rfl))⟩ (fun g' hg'=>.inl hg') ?_
 intro _ _ hr
 refine ⟨hr.1,?_⟩
 have:=z0cz (i:=j) (u:=u) hr.2
 rw [this]
 simp
theorem Sep.freeze (h:Sep w0 F0 Γ W) {r r':Res} (hp:Put Γ r r' Γ') (hn:r'.block=none) (hr:(∀ b,Free w0.heap.size F0 Γ W b∨(r.block=some b∧w0.heap.size≤b∧b<W.heap.size)→Free w0.heap.size F0 Γ' W b)→r.holds w0.heap.size (Free w0.heap.size F0 Γ W) W→r'.holds w0.heap.size (Free w0.heap.size F0 Γ' W) W):Sep w0 F0 Γ' W:=by
 refine h.put hp ⟨rfl,rfl,rfl,Nat.le_refl _,fun _ _ _=>rfl⟩ (fun g hg=>by rw [hn] at hg;cases hg) ?_
 intro hf _ hh
 refine hr (fun b hb=>?_) hh
 rcases hb with hb|⟨hb,h1,h2⟩
 ·exact hf b hb
 ·refine ⟨.inr ⟨h1,h2⟩,fun q hq e=>?_⟩
  obtain ⟨l1,l2,rfl,rfl⟩:=hp
  have hp:=List.pairwise_append.1 h.dj
  have hp2:=List.pairwise_cons.1 hp.2.1
  simp only [List.mem_append,List.mem_cons] at hq
  rcases hq with hq|rfl|hq
  ·exact hp.2.2 q hq r (by simp) b e hb
  ·rw [hn] at e;cases e
  ·exact hp2.1 q hq b hb e
end
def AggN (P:Program) (t:TypeId) (n:Nat):Prop:=∃ d,P.underlying t=some d∧d.isRow=true∧(P.info? t).map (·.size)=some n
def OneT (P:Program) (t:TypeId):Prop:=∃ d,P.underlying t=some d∧d.isRow=false∧(P.info? t).map (·.size)=some 1
def z2v (P:Program) (t:TypeId) (cs:List Value):Prop:=∃ z:Value,z.cells=cs.toArray∧∀ W,(zeroValue t).run P W = .ok z W
def SliceT (P:Program) (t e size bytes:Nat):Prop:=P.underlying t=some (.slice e)∧∃ i z,P.info? e=some i∧i.zero=some z∧i.size=size∧i.bytes=bytes∧z.cells.size=size
theorem SliceT.mk {P:Program} {t e size bytes:Nat} (h:P.underlying t=some (.slice e)) (h1:(P.info? e).map (fun i=>(i.zero.map (·.cells.size),i.size,i.bytes))=some (some size,size,bytes)):SliceT P t e size bytes:=by
 refine ⟨h,?_⟩
 match hh:P.info? e,h1 with
 | some i,h1 =>
  simp only [Option.map_some,Option.some.injEq,Prod.mk.injEq] at h1
  match hz:i.zero,h1 with
  | some z,h1=>exact ⟨i,z,rfl,hz,h1.2.1,h1.2.2,by simpa using h1.1⟩
theorem AggN.mk {P:Program} {t n:Nat} {d:TypeDesc} (h:P.underlying t=some d) (hd:d.isRow=true) (hi:(P.info? t).map (·.size)=some n):AggN P t n:=⟨d,h,hd,hi⟩
theorem OneT.mk {P:Program} {t:Nat} {d:TypeDesc} (h:P.underlying t=some d) (hd:d.isRow=false) (hi:(P.info? t).map (·.size)=some 1):OneT P t:=⟨d,h,hd,hi⟩
theorem OneT.load {P:Program} {t:Nat} (h:OneT P t) {W:World} {p:Addr} {v:Value} (hv:W.cell? p=some v):(loadVar t p).run P W = .ok v W:=by
 obtain ⟨d,hu,hd,_⟩:=h
 have hagg:(isAgg t).run P W = .ok false W:=by
  unfold isAgg
  rw [Sem.run_bind,run_underlying hu W]
  cases d <;> simp_all
 simp [loadVar,Sem.run_bind,hagg,hv]
theorem AggN.load {P:Program} {t b o:Nat} {cs:List Value} (h:AggN P t cs.length) {W:World} (hv:W.rangeAt b o cs):(loadVar t ⟨b,o,none⟩).run P W = .ok (.agg cs.toArray) W:=by
 obtain ⟨d,hu,hd,hi⟩:=h
 exact run_loadVar_mid W b o t cs d hv hu hd hi
theorem z06v {v:Value} (h:v.oneCell'=true):v.cells=#[v]:=by cases v <;> first|rfl|cases h
theorem OneT.store {P:Program} {t:Nat} (h:OneT P t) {W:World} {p:Addr} {v u:Value} (hv:W.cell? p=some u) (hf:W.frozen? p=false) (h1:v.oneCell'=true):(storeVar t p v).run P W = .ok () (W.setCell p v):=by
 obtain ⟨d,hu,hd,hi⟩:=h
 match hh:P.info? t,hi with
 | some i,hi =>
  simp at hi
  have e:p.add 0=p:=by unfold Addr.add;simp
  simp [storeVar,sizeOf,typeInfo,hh,z06v h1,hi,storeCells,e,run_store P W p v _ h1,hv,hf]
theorem AggN.store {P:Program} {t g ty:Nat} {old cs:List Value} (h:AggN P t cs.length) {W:World} (hg:W.heap[g]? = some (.cells old.toArray ty (0,0))) (hl:old.length=cs.length) (h1:z4n cs) :
  (storeVar t ⟨g,0,none⟩ (.agg cs.toArray)).run P W = .ok () (W.setRow g cs.toArray):=by
 obtain ⟨d,hu,hd,hi⟩:=h
 exact run_storeVar_row W g ty t old.toArray cs.toArray hg (by simpa using hi) (by simpa using hl) (all_oneCell_toArray h1)
def RV (w0:World) (F0:Nat→Prop) (Γ:List Res) (v:Value) (e:Ending) (W:World):Prop:=e = .returned v∧Sep w0 F0 Γ W
section
variable {P:Program} {w0 W:World} {F0:Nat→Prop} {Γ Γ' Γ1:List Res}
theorem Sep.old (h:Sep w0 F0 Γ W) {f:FuncId} {args:Array Value} {v:Value} (hc:Calls P f args W fun e w'=>e = .returned v∧Below W.heap.size W w'):Calls P f args W (RV w0 F0 Γ v) :=
 hc.mono fun e w' ⟨h1,h2⟩=>⟨h1,h.belows h2⟩
theorem Sep.oldN (h:Sep w0 F0 Γ W) {f:FuncId} {args:Array Value} {v:Value} (hc:Calls P f args W fun e w'=>e = .returned v∧∃ m,w'=W.drewN m):Calls P f args W (RV w0 F0 Γ v) :=
 hc.mono fun e w' ⟨h1,m,h2⟩=>⟨h1,h2 ▸ h.drewN m⟩
theorem Sep.oldS (h:Sep w0 F0 Γ W) {f:FuncId} {args:Array Value} {v:Value} (hc:Calls P f args W fun e w'=>e = .returned v∧W=w'):Calls P f args W (RV w0 F0 Γ v) :=
 hc.mono fun e w' ⟨h1,h2⟩=>⟨h1,h2 ▸ h⟩
theorem Sep.boxAt (h:Sep w0 F0 Γ W) {g t:Nat} {cs:List Value} (hm:At Γ (box g cs t)):W.rangeAt g 0 cs:=fun j v hv=>by
 rw [Nat.zero_add,z3u (h.get hm).2];simpa using hv
theorem Sep.cellsAt (h:Sep w0 F0 Γ W) {b o:Nat} {cs:List Value} (hm:At Γ (cells b o cs)):W.rangeAt b o cs:=(h.get hm).2
section
variable {ops:Array Oper} {Q:Exit→Act→World→Prop} {a:Act} {rest:List Oper} {o:Oper} {t:TypeId} {x y:Operand}
theorem Sep.wbox (h:Sep w0 F0 Γ W) {cs:List Value} (hgd:Region.wanted o (yielded ops a.tmps)=true) (ho:o.op = .box t x) (hx:(a.eval x).cells=cs.toArray)
  (k:∀ g W',Sep w0 F0 (box g cs t::Γ) W'→wpList P ops Q rest (a.put o.dst (.pointer (some ⟨g,0,none⟩))) W'):wpList P ops Q (o::rest) a W :=
 BigFrame.wpList_want hgd fun K hK=>by
  unfold Oper.wp execOp
  simp only [ho,Instr.box,newVar,newRow,Sem.run_bind,run_newObj_alloc,Result.andThen_ok,Sem.run_pure,hx]
  exact hK _ _ (k _ _ (h.alloc cs t))
theorem Sep.walloc (h:Sep w0 F0 Γ W) {cs:List Value} (hgd:Region.wanted o (yielded ops a.tmps)=true) (ho:o.op = .alloc t) (hz:z2v P t cs)
  (k:∀ g W',Sep w0 F0 (box g cs t::Γ) W'→wpList P ops Q rest (a.put o.dst (.pointer (some ⟨g,0,none⟩))) W'):wpList P ops Q (o::rest) a W :=
 BigFrame.wpList_want hgd fun K hK=>by
  obtain ⟨z,hz1,hz2⟩:=hz
  unfold Oper.wp execOp
  simp only [ho,Instr.alloc,newVar,newRow,Sem.run_bind,run_newObj_alloc,Result.andThen_ok,Sem.run_pure,hz2,hz1]
  exact hK _ _ (k _ _ (h.alloc cs t))
theorem zjp (hgd:Region.wanted o (yielded ops a.tmps)=true) (ho:o.op = .load t x) {p:Addr} {v:Value} (hx:a.eval x = .pointer (some p)) (hr:(loadVar t p).run P W = .ok v W)
  (k:wpList P ops Q rest (a.put o.dst v) W):wpList P ops Q (o::rest) a W :=
 BigFrame.wpList_want hgd fun K hK=>by
  unfold Oper.wp execOp
  simp only [ho,Instr.loadAt,Instr.sureAddr,Sem.run_bind,Result.andThen_ok,Sem.run_pure,hx,hr]
  exact hK _ _ k
theorem Sep.wload1b (h:Sep w0 F0 Γ W) (hgd:Region.wanted o (yielded ops a.tmps)=true) (ho:o.op = .load t x) {g j ty:Nat} {cs:List Value} {v:Value} (hx:a.eval x = .pointer (some ⟨g,j,none⟩)) (h1:OneT P t) (hm:At Γ (box g cs ty)) (hv:cs[j]? = some v)
  (k:wpList P ops Q rest (a.put o.dst v) W):wpList P ops Q (o::rest) a W:=by
 refine zjp hgd ho hx (h1.load ?_) k
 have:=h.boxAt hm j v hv
 rwa [Nat.zero_add] at this
theorem Sep.wloadNb (h:Sep w0 F0 Γ W) (hgd:Region.wanted o (yielded ops a.tmps)=true) (ho:o.op = .load t x) {g ty:Nat} {cs:List Value} (hx:a.eval x = .pointer (some ⟨g,0,none⟩)) (hm:At Γ (box g cs ty)) (h1:AggN P t cs.length)
  (k:wpList P ops Q rest (a.put o.dst (.agg cs.toArray)) W):wpList P ops Q (o::rest) a W :=
 zjp hgd ho hx (h1.load (h.boxAt hm)) k
theorem Sep.wload1c (h:Sep w0 F0 Γ W) (hgd:Region.wanted o (yielded ops a.tmps)=true) (ho:o.op = .load t x) {b q j:Nat} {cs:List Value} {v:Value} (hx:a.eval x = .pointer (some ⟨b,q+j,none⟩)) (h1:OneT P t) (hm:At Γ (cells b q cs)) (hv:cs[j]? = some v)
  (k:wpList P ops Q rest (a.put o.dst v) W):wpList P ops Q (o::rest) a W :=
 zjp hgd ho hx (h1.load (h.cellsAt hm j v hv)) k
theorem Sep.wload1z (h:Sep w0 F0 Γ W) (hgd:Region.wanted o (yielded ops a.tmps)=true) (ho:o.op = .load t x) {b q:Nat} {cs:List Value} {v:Value} (hx:a.eval x = .pointer (some ⟨b,q,none⟩)) (h1:OneT P t) (hm:At Γ (cells b q cs)) (hv:cs[0]? = some v)
  (k:wpList P ops Q rest (a.put o.dst v) W):wpList P ops Q (o::rest) a W :=
 zjp hgd ho hx (h1.load (h.cellsAt hm 0 v hv)) k
theorem Sep.wloadNz (h:Sep w0 F0 Γ W) (hgd:Region.wanted o (yielded ops a.tmps)=true) (ho:o.op = .load t x) {b q:Nat} {cs:List Value} (hx:a.eval x = .pointer (some ⟨b,q,none⟩)) (hm:At Γ (cells b q cs)) (h1:AggN P t cs.length)
  (k:wpList P ops Q rest (a.put o.dst (.agg cs.toArray)) W):wpList P ops Q (o::rest) a W :=
 zjp hgd ho hx (h1.load (h.cellsAt hm)) k
theorem z0f7 (hgd:Region.wanted o (yielded ops a.tmps)=true) (ho:o.op = .store t x y) {p:Addr} {v:Value} {W':World} (hx:a.eval x = .pointer (some p)) (hy:a.eval y=v) (hr:(storeVar t p v).run P W = .ok () W')
  (k:wpList P ops Q rest (a.put o.dst undef) W'):wpList P ops Q (o::rest) a W :=
 BigFrame.wpList_want hgd fun K hK=>by
  unfold Oper.wp execOp
  simp only [ho,Instr.storeAt,Instr.sureAddr,Sem.run_bind,Result.andThen_ok,Sem.run_pure,hx,hy,hr]
  exact hK _ _ k
theorem z043 {W:World} {g k:Nat} {cs:Array Value} (h:k≠g):(W.setRow g cs).heap[k]? = W.heap[k]?:=setRow_other W g k cs h
theorem Sep.setRow (h:Sep w0 F0 Γ W) {g ty:Nat} {cs cs':List Value} (hp:Put Γ (box g cs ty) (box g cs' ty) Γ'):Sep w0 F0 Γ' (W.setRow g cs'.toArray):=by
 refine h.put hp ⟨rfl,rfl,rfl,by simp,fun k hk hne=>z043 (fun e=>hne (by rw [e];rfl))⟩ (fun g' hg'=>.inl hg') ?_
 intro _ _ hr
 exact ⟨hr.1,setRow_heap W g cs.toArray cs'.toArray ty _ hr.2⟩
theorem Sep.wstoreNb (h:Sep w0 F0 Γ W) (hgd:Region.wanted o (yielded ops a.tmps)=true) (ho:o.op = .store t x y) {g ty:Nat} {cs cs':List Value} (hx:a.eval x = .pointer (some ⟨g,0,none⟩)) (hy:a.eval y = .agg cs'.toArray) (h1:AggN P t cs'.length) (hone:z4n cs')
  (hm:At Γ (box g cs ty)) (hl:cs.length=cs'.length) (hp:Put Γ (box g cs ty) (box g cs' ty) Γ')
  (k:∀ W',Sep w0 F0 Γ' W'→wpList P ops Q rest (a.put o.dst undef) W'):wpList P ops Q (o::rest) a W:=by
 have hb:=(h.get hm).2
 exact z0f7 hgd ho hx hy (h1.store hb hl hone) (k _ (h.setRow hp))
end
end
theorem zzf (b off k:Nat):(Addr.mk b off none).add k=⟨b,off+k,none⟩:=by unfold Addr.add;split <;> simp_all
section
variable {P:Program} {w0 W:World} {F0:Nat→Prop} {Γ Γ' Γ1 Γ2:List Res}
theorem Del.sub {r:Res} (h:Del Γ r Γ1):Sub Γ1 Γ:=by
 obtain ⟨l1,l2,rfl,rfl⟩:=h
 exact ⟨[r],by simpa using List.perm_middle.trans (List.perm_append_singleton r (l1++l2)).symm⟩
theorem Del.front {r:Res} (h:Del Γ r Γ1):Sub (r::Γ1) Γ:=Sub.take h Sub.refl
theorem Sep.del (h:Sep w0 F0 Γ W) {r:Res} (hd:Del Γ r Γ1):Sep w0 F0 Γ1 W:=h.sub hd.sub
theorem Sep.front (h:Sep w0 F0 Γ W) {r:Res} (hd:Del Γ r Γ1):Sep w0 F0 (r::Γ1) W:=h.sub hd.front
theorem Sep.elem (h:Sep w0 F0 Γ W) {α:Type} {S:Sh α} {xs:List α} {A:Option Addr} {n c i:Nat} (hm:At Γ (rds xs A n c S)) (hi:i<n) :
  ∃ b off z cs,A=some ⟨b,off,none⟩∧xs[i]? = some z∧Sep w0 F0 (cells b (off+i * S.size) cs::rep z cs S::Γ) W:=by
 have hr:Rds S W (Free w0.heap.size F0 Γ W) xs A n c:=h.get hm
 obtain ⟨b,off,z,cs,e,hF,hx,hz,hc⟩:=hr.at_ hi
 refine ⟨b,off,z,cs,e,hx,?_⟩
 have h1:Sep w0 F0 (rep z cs S::Γ) W:=h.add rfl hz
 exact h1.add rfl ⟨⟨hF.1,fun q hq=>by
  rcases List.mem_cons.1 hq with rfl|hq
  ·intro e;cases e
  ·exact hF.2 q hq⟩,hc⟩
section
variable {ops:Array Oper} {Q:Exit→Act→World→Prop} {a:Act} {rest:List Oper} {o:Oper} {t:TypeId} {x y:Operand}
theorem z0d1 (a:Act) (i:Nat) (x:Operand):((#[(i,x)]:Array (Nat × Operand)).map fun (i,x)=>(i,a.eval x)).toList=(([a.eval x]).zipIdx i).map fun p=>(p.2,p.1):=by simp
theorem Sep.wbuild1 (h:Sep w0 F0 Γ W) (hgd:o.guard=none) (ho:o.op = .buildSlice t 1 #[(0,x)]) {e s bytes:Nat} {cs:List Value} (hT:SliceT P t e s bytes) (hs:0<s) (hs2:s≤1000) (hx:(a.eval x).cells=cs.toArray) (hc:cs.length=s)
  (k:∀ g W',Sep w0 F0 (box g cs e::Γ) W'→wpList P ops Q rest (a.put o.dst (.slice (some ⟨g,0,none⟩) 1 1)) W'):wpList P ops Q (o::rest) a W:=by
 obtain ⟨ht,ie,zv,he,hz,hsz,_,hzs⟩:=hT
 refine wpList_buildSlice hgd t e 1 _ ho cs.toArray ie zv ht he hz (by rw [hsz];omega) (by rw [hsz];omega) ?_ (k _ _ (h.alloc cs e))
 rw [z0d1,hsz,Nat.one_mul]
 refine (Great.fill_whole hs [a.eval x] _ (fun v hv=>?_) (by simp)).trans ?_
 ·simp only [List.mem_singleton] at hv
  subst hv
  rw [hx];simpa using hc
 ·simp [hx]
theorem Sep.wappend1 (h:Sep w0 F0 Γ W) (hgd:o.guard=none) (ho:o.op = .call { callee:=.builtin .append,args:=#[x,y],argTypes:=#[t,t] }) {α:Type} {S:Sh α} {e bytes g:Nat} {v:Value} {xs:List α} {z:α} {cs:List Value}
  (hx:a.eval x=v) (hy:a.eval y = .slice (some ⟨g,0,none⟩) 1 1) (hb:Del Γ (box g cs e) Γ1) (hr:Del Γ1 (row e v xs S) Γ2) (hz:At Γ2 (rep z cs S)) (hT:SliceT P t e S.size bytes) (hpos:0<S.size) (hS1:S.ones) (hl:xs.length≤1000000) (hby:bytes≤10000)
  (k:∀ v' W',Sep w0 F0 (row e v' (xs++[z]) S::Γ2) W'→wpList P ops Q rest (a.put o.dst v') W'):wpList P ops Q (o::rest) a W:=by
 obtain ⟨ht,ie,zv,he,hz0,hsz,hbz,hzs⟩:=hT
 have hbox:=h.get (Put.at_ (by obtain ⟨l1,l2,rfl,rfl⟩:=hb;exact ⟨l1,l2,rfl,rfl⟩:Put Γ (box g cs e) (box g cs e) Γ))
 have h1:=(h.del hb).front hr
 obtain ⟨zs,hz1,hz2,hz3⟩:=h1.get At.z
 have hrep:S.rep W _ z cs:=h1.get (At.s hz)
 have hlen:=S.len hrep
 refine wpList_append_own_at W hgd x y t ho w0.heap.size e ie zv S.size bytes ht he hz0 hsz hbz hzs hpos v xs.length (flat zs) hx hz2 ⟨g,0,none⟩ 1 1 cs hy (by rw [hlen,Nat.one_mul])
  (fun j u hj=>by rw [zzf,Nat.zero_add,z3u hbox.2];simpa using hj) (hS1 hrep) (by unfold maxLen;omega) ?_ h.size ?_
 ·have:=Nat.mul_le_mul (show xs.length+1≤1000001 by omega) hby
  omega
 ·intro v' W' ho1 hgr _ hat
  refine k v' W' (h1.put (r':=row e v' (xs++[z]) S) Put.z hgr ?_ ?_)
  ·intro g' hg'
   rcases hat with h2|h2
   ·exact .inl (by rw [← hg'];exact h2.symm)
   ·rw [show (row e v' (xs++[z]) S).block=v'.ownBlock from rfl,h2] at hg'
    injection hg' with hg'
    exact .inr (Nat.le_of_eq hg')
  ·intro hfree hag _
   refine ⟨zs++[(z,cs)],by simp [hz1],?_,?_⟩
   ·rw [zc9,List.length_append]
    simpa [flat] using ho1
   ·intro q hq
    rcases List.mem_append.1 hq with hq|hq
    ·exact S.more hfree (S.keep hag (hz3 q hq))
    ·simp only [List.mem_singleton] at hq
     subst hq
     exact S.more hfree (S.keep hag hrep)
theorem Sep.nilRow (h:Sep w0 F0 Γ W) {α:Type} (S:Sh α) (e:Nat):Sep w0 F0 (row e (.slice none 0 0) [] S::Γ) W :=
 h.grow ⟨rfl,rfl,rfl,Nat.le_refl _,fun _ _ _=>rfl⟩ ⟨[],rfl,World.ownsRow_nil _ _ _ _,by simp⟩ (fun g hg=>by cases hg)
end
theorem Sep.pure (h:Sep w0 F0 Γ W) {α:Type} {S:Sh α} {z:α} {cs:List Value} (hz:∀ W F,S.rep W F z cs):Sep w0 F0 (rep z cs S::Γ) W:=h.add rfl (hz _ _)
theorem Sep.open_point (h:Sep w0 F0 Γ W) {x:Point} {cs:List Value} (hm:At Γ (rep x cs shPoint)):cs=[.int .i64 x.tx,.int .i64 x.at_]∧I64 x.tx∧I64 x.at_:=znn (h.get hm)
theorem Sep.open_in (h:Sep w0 F0 Γ W) {x:In} {cs:List Value} (hm:At Γ (rep x cs shIn)):∃ A n c,cs=[.int .i64 x.p.tx,.int .i64 x.p.at_,.slice A n c]∧I64 x.p.tx∧I64 x.p.at_∧Sep w0 F0 (rds x.key A n c shOp::Γ) W:=by
 obtain ⟨A,n,c,e,h1,h2,h3⟩:=z06p (h.get hm)
 exact ⟨A,n,c,e,h1,h2,h.add rfl h3⟩
theorem Sep.open_out (h:Sep w0 F0 Γ W) {x:Out} {cs:List Value} (hm:At Γ (rep x cs shOut)):∃ A n c,cs=[.int .i64 x.coin,.slice A n c]∧I64 x.coin∧Sep w0 F0 (rds x.lock A n c shOp::Γ) W:=by
 obtain ⟨A,n,c,e,h1,h3⟩:=z02q (h.get hm)
 exact ⟨A,n,c,e,h1,h.add rfl h3⟩
theorem Sep.open_tx (h:Sep w0 F0 Γ W) {x:Tx} {cs:List Value} (hm:At Γ (rep x cs shTx)):∃ A n c A' n' c',cs=[.int .i64 x.height,.slice A n c,.slice A' n' c']∧I64 x.height∧Sep w0 F0 (rds x.ins A n c shIn::rds x.outs A' n' c' shOut::Γ) W:=by
 obtain ⟨A,n,c,A',n',c',e,h1,h3,h4⟩:=zrs (h.get hm)
 exact ⟨A,n,c,A',n',c',e,h1,h.add2 rfl rfl h3 h4⟩
theorem Sep.open_block (h:Sep w0 F0 Γ W) {x:Block} {cs:List Value} (hm:At Γ (rep x cs shBlock)):∃ A n c,cs=[.int .i64 x.parent,.int .i64 x.height,.int .i64 x.work,.int .i64 x.nonce,.slice A n c]∧I64 x.parent∧I64 x.height∧I64 x.work∧I64 x.nonce∧Sep w0 F0 (rds x.txs A n c shTx::Γ) W:=by
 obtain ⟨A,n,c,e,h1,h2,h3,h4,h5⟩:=zno (h.get hm)
 exact ⟨A,n,c,e,h1,h2,h3,h4,h.add rfl h5⟩
theorem Sep.lit (h:Sep w0 F0 Γ W) {α:Type} {S:Sh α} {g e:Nat} {cs:List Value} (zs:List (α × List Value)) (hd:Del Γ (Proofs.YtgkfhlnklienoaaGreatDoor.box g cs e) Γ1) (hc:cs=flat zs) (hz:∀ z ∈ zs,At Γ1 (rep z.1 z.2 S)) (hn:zs.length≤1000000):Sep w0 F0 (rds (zs.map (·.1)) (some ⟨g,0,none⟩) zs.length zs.length S::Γ1) W:=by
 have h1:=h.front hd
 refine h1.freeze (r':=rds (zs.map (·.1)) (some ⟨g,0,none⟩) zs.length zs.length S) Put.z rfl ?_
 intro hF hb
 have hb':w0.heap.size≤g∧W.heap[g]? = some (.cells cs.toArray e (0,0)):=hb
 refine Rds.of_block (zs:=zs) (F:=Free w0.heap.size F0 (rds (zs.map (·.1)) (some ⟨g,0,none⟩) zs.length zs.length S::Γ1) W) hb'.2 (by simp [hc]) (fun z hz'=>?_) (hF g (.inr ⟨rfl,hb'.1,zjm hb'.2⟩)) (Nat.le_refl _) (by omega)
 have h2:S.rep W (Free w0.heap.size F0 (Proofs.YtgkfhlnklienoaaGreatDoor.box g cs e::Γ1) W) z.1 z.2:=h1.get (At.s (hz z hz'))
 exact S.more (fun b hb=>hF b (.inl hb)) h2
theorem Sep.getRds (h:Sep w0 F0 Γ W) {α:Type} {S:Sh α} {xs:List α} {A:Option Addr} {n c:Nat} (hm:At Γ (rds xs A n c S)):Rds S W (Free w0.heap.size F0 Γ W) xs A n c:=h.get hm
theorem Sep.ltsRds (h:Sep w0 F0 Γ W) {α:Type} {S:Sh α} {xs:List α} {A:Option Addr} {n c:Nat} (hm:At Γ (rds xs A n c S)):Rds S W (Lt W.heap.size) xs A n c:=h.lts hm
theorem Sep.ltsRep (h:Sep w0 F0 Γ W) {α:Type} {S:Sh α} {x:α} {cs:List Value} (hm:At Γ (rep x cs S)):S.rep W (Lt W.heap.size) x cs:=h.lts hm
theorem Sep.getRow (h:Sep w0 F0 Γ W) {α:Type} {S:Sh α} {e:Nat} {v:Value} {xs:List α} (hm:At Γ (row e v xs S)):∃ zs:List (α × List Value),zs.map (·.1)=xs∧W.ownsRow w0.heap.size e S.size v xs.length (flat zs)∧∀ z ∈ zs,S.rep W (Free w0.heap.size F0 Γ W) z.1 z.2:=h.get hm
theorem Sep.getBox (h:Sep w0 F0 Γ W) {g t:Nat} {cs:List Value} (hm:At Γ (box g cs t)):w0.heap.size≤g∧W.heap[g]? = some (.cells cs.toArray t (0,0)):=h.get hm
theorem Sep.len (h:Sep w0 F0 Γ W) {α:Type} {S:Sh α} {xs:List α} {A:Option Addr} {n c:Nat} (hm:At Γ (rds xs A n c S)):xs.length=n∧n≤c∧c≤9223372036854775807:=⟨(h.getRds hm).1,(h.getRds hm).2.1,(h.getRds hm).2.2.1⟩
theorem Sep.addRds (h:Sep w0 F0 Γ W) {α:Type} {S:Sh α} {xs:List α} {A:Option Addr} {n c:Nat} (hr:Rds S W (Free w0.heap.size F0 Γ W) xs A n c):Sep w0 F0 (rds xs A n c S::Γ) W:=h.add rfl hr
theorem Sep.addRep (h:Sep w0 F0 Γ W) {α:Type} {S:Sh α} {x:α} {cs:List Value} (hr:S.rep W (Free w0.heap.size F0 Γ W) x cs):Sep w0 F0 (rep x cs S::Γ) W:=h.add rfl hr
end
attribute [irreducible] zfa rds rep cells box row At Put Del Sub
end
section
open Go.RowKit
set_option maxRecDepth 100000
def eqB {α:Type} [DecidableEq α] (xs ys:List α):Bool:=decide (xs=ys)
theorem z076 (xs ys:List Int) (A A':Option Addr) (n c n' c':Nat) (w:World) (F F':Nat→Prop) (h:Rds shInt w F xs A n c) (h':Rds shInt w F' ys A' n' c') :
  Calls Tryz.prog 25 #[.slice A n c,.slice A' n' c'] w fun e w'=>e = .returned (.bool (eqB xs ys))∧∃ m,w'=w.drewN m:=by
 have hn:=h.2.1
 have hc:=h.2.2.1
 have hn':=h'.2.1
 have hc':=h'.2.2.1
 by_cases hl:n=n'
 ·obtain rfl:=hl
  go_enter Tryz.func25,Tryz.ntmps25
  go_wp2
  go_loopw [5,13] (fun _ i wr=>∃ (k m:Nat),k≤n∧i = .int .i64 k∧wr=w.drewN m∧xs.take k=ys.take k) (fun _ i _=>n - (intOf i).toNat)
  case atStart=>exact ⟨0,0,by omega,rfl,rfl,rfl⟩
  case round =>
   obtain ⟨k,m,hk,rfl,rfl,hs⟩:=hrel
   by_cases hlt:k<n
   ·obtain ⟨b,off,x,rfl,-,hx,hcell,x0,x1⟩:=h.int hlt
    obtain ⟨b',off',y,rfl,-,hy,hcell',y0,y1⟩:=h'.int hlt
    have Hs:=Lib.hid hs
    have Hx:=Lib.hid hx
    have Hy:=Lib.hid hy
    have i1:(0:Int)≤(k:Int):=by omega
    have i2:(k:Int)<(n:Int):=by omega
    clear hs hx hy h h'
    by_cases hxy:x=y
    ·subst hxy
     go_wp2
     go_quiet (fail)
     go_wp2
     go_roundw
     case measure=>simp [intOf];omega
     case rel=>exact ⟨k+1,_,by omega,by go_num,rfl,by rw [z0t Hx.out,z0t Hy.out,Hs.out]⟩
    ·have hd:(x == y)=false:=by simpa using hxy
     go_wp2
     go_quiet (fail)
     go_wp2
     go_ret
     refine ⟨z03 ?_,_,World.drewN_drewN _ _ _⟩
     have:xs≠ys:=fun e=>hxy (by have:=Hx.out;rw [e,Hy.out] at this;injection this with this;exact this.symm)
     simp [eqB,this]
   ·obtain rfl:k=n:=by omega
    have Hs:=Lib.hid hs
    clear hs
    go_wp2
    go_ret
    refine ⟨z03 ?_,_,rfl⟩
    have:=Hs.out
    rw [List.take_of_length_le (by have:=h.1;omega),List.take_of_length_le (by have:=h'.1;omega)] at this
    simp [eqB,this]
 ·have hd:((n:Int) == (n':Int))=false:=by simp;omega
  have e:eqB xs ys=false:=by
   have:xs≠ys:=fun e=>hl (by rw [← h.1,← h'.1,e])
   simp [eqB,this]
  rw [e]
  clear hl e
  go_enter Tryz.func25,Tryz.ntmps25
  go_wp2
  go_ret
  exact ⟨rfl,0,rfl⟩
end
section
open Go.RowKit
set_option maxRecDepth 100000
theorem Rds.op {w:World} {F:Nat→Prop} {xs:List Op} {A:Option Addr} {n c k:Nat} (h:Rds shOp w F xs A n c) (hk:k<n) :
  ∃ b off x,A=some ⟨b,off,none⟩∧F b∧xs[k]? = some x∧(w.cell? ⟨b,off+k * 2,none⟩=some (.int .i64 x.kind)∧w.cell? ⟨b,off+k * 2+1,none⟩=some (.int .i64 x.n))∧I64 x.kind∧I64 x.n:=by
 obtain ⟨b,off,x,cs,e,hF,hx,hr,hc⟩:=h.at_ hk
 obtain ⟨rfl,h1,h2⟩:=z0f4 hr
 exact ⟨b,off,x,e,hF,hx,⟨by simpa [shOp,z3t,shInt] using hc 0 _ rfl,by simpa [shOp,z3t,shInt] using hc 1 _ rfl⟩,h1,h2⟩
theorem zi0 (xs ys:List (Op)) (A A':Option Addr) (n c n' c':Nat) (w:World) (F F':Nat→Prop) (h:Rds shOp w F xs A n c) (h':Rds shOp w F' ys A' n' c') :
  Calls Tryz.prog 137 #[.slice A n c,.slice A' n' c'] w fun e w'=>e = .returned (.bool (eqB xs ys))∧∃ m,w'=w.drewN m:=by
 have hn:=h.2.1
 have hc:=h.2.2.1
 have hn':=h'.2.1
 have hc':=h'.2.2.1
 by_cases hl:n=n'
 ·obtain rfl:=hl
  go_enter Tryz.func137,Tryz.ntmps137
  go_wp2
  go_loopw [5,13] (fun _ i wr=>∃ (k m:Nat),k≤n∧i = .int .i64 k∧wr=w.drewN m∧xs.take k=ys.take k) (fun _ i _=>n - (intOf i).toNat)
  case atStart=>exact ⟨0,0,by omega,rfl,rfl,rfl⟩
  case round =>
   obtain ⟨k,m,hk,rfl,rfl,hs⟩:=hrel
   by_cases hlt:k<n
   ·obtain ⟨b,off,x,rfl,-,hx,hcell,x0⟩:=h.op hlt
    obtain ⟨b',off',y,rfl,-,hy,hcell',y0⟩:=h'.op hlt
    have Hs:=Lib.hid hs
    have Hx:=Lib.hid hx
    have Hy:=Lib.hid hy
    have i1:(0:Int)≤(k:Int):=by omega
    have i2:(k:Int)<(n:Int):=by omega
    clear hs hx hy h h' x0 y0
    by_cases hxy:x=y
    ·subst hxy
     go_wp2
     go_quiet (fail)
     go_wp2
     go_roundw
     case measure=>simp [intOf];omega
     case rel=>exact ⟨k+1,_,by omega,by go_num,rfl,by rw [z0t Hx.out,z0t Hy.out,Hs.out]⟩
    ·have hne:eqB xs ys=false:=by
      have:xs≠ys:=fun e=>hxy (by have:=Hx.out;rw [e,Hy.out] at this;injection this with this;exact this.symm)
      simp [eqB,this]
     obtain ⟨xk,xn⟩:=x
     obtain ⟨yk,yn⟩:=y
     by_cases h1:xk=yk
     ·subst h1
      have h2:(xn == yn)=false:=by simpa using hxy
      clear hxy
      go_wp2
      go_quiet (fail)
      go_wp2
      all_goals (go_ret;refine ⟨z03 ?_,_,World.drewN_drewN _ _ _⟩;exact hne.symm)
     ·have h2:(xk == yk)=false:=by simpa using h1
      clear hxy h1
      go_wp2
      go_quiet (fail)
      go_wp2
      all_goals (go_ret;refine ⟨z03 ?_,_,World.drewN_drewN _ _ _⟩;exact hne.symm)
   ·obtain rfl:k=n:=by omega
    have Hs:=Lib.hid hs
    clear hs
    go_wp2
    go_ret
    refine ⟨z03 ?_,_,rfl⟩
    have:=Hs.out
    rw [List.take_of_length_le (by have:=h.1;omega),List.take_of_length_le (by have:=h'.1;omega)] at this
    simp [eqB,this]
 ·have hd:((n:Int) == (n':Int))=false:=by simp;omega
  have e:eqB xs ys=false:=by
   have:xs≠ys:=fun e=>hl (by rw [← h.1,← h'.1,e])
   simp [eqB,this]
  rw [e]
  clear hl e
  go_enter Tryz.func137,Tryz.ntmps137
  go_wp2
  go_ret
  exact ⟨rfl,0,rfl⟩
def z1a {α:Type} [DecidableEq α] (x:α):List α→Nat→Int
 | [],_ => -1
 | y::l,k=>if x=y then k else z1a x l (k+1)
def idx {α:Type} [DecidableEq α] (xs:List α) (x:α):Int:=z1a x xs 0
def zca {α:Type} [DecidableEq α] (xs:List α) (x:α):Bool:=decide (x ∈ xs)
theorem znz {α:Type} [DecidableEq α] (x:α) (l:List α) (k:Nat):(0≤z1a x l k↔x ∈ l):=by
 induction l generalizing k with
 | nil=>simp [z1a]
 | cons y l ih =>
  by_cases h:x=y
  ·subst h;simp [z1a]
  ·rw [z1a,if_neg h,ih (k+1)];simp [h]
theorem z0df {α:Type} [DecidableEq α] (xs:List α) (x:α):(0≤idx xs x↔x ∈ xs):=znz x xs 0
theorem z0ag {α:Type} [DecidableEq α] (x:α) (l:List α) (k:Nat) : -1≤z1a x l k∧z1a x l k<k+l.length∨z1a x l k = -1:=by
 induction l generalizing k with
 | nil=>simp [z1a]
 | cons y l ih =>
  by_cases h:x=y
  ·subst h;simp [z1a];omega
  ·simp only [z1a,if_neg h,List.length_cons]
   rcases ih (k+1) with h|h
   ·left;omega
   ·right;exact h
theorem zs6 {α:Type} [DecidableEq α] (xs:List α) (x:α) : -1≤idx xs x∧idx xs x≤xs.length:=by
 rcases z0ag x xs 0 with h|h <;> unfold idx <;> omega
theorem zby (xs:List (List UInt8)) (y:List UInt8) (A:Option Addr) (n c:Nat) (w:World) (F:Nat→Prop) (h:Rds shStr w F xs A n c) :
  Calls Tryz.prog 213 #[.slice A n c,.string ⟨y.toArray⟩] w fun e w'=>e = .returned (.int .i64 (idx xs y))∧w=w':=by
 have hn:=h.2.1
 have hc:=h.2.2.1
 go_enter Tryz.func213,Tryz.ntmps213
 go_wp2
 go_loop [5,8] (fun _ i=>∃ (k:Nat),k≤n∧i = .int .i64 k∧z1a y (xs.drop k) k=idx xs y) (fun _ i=>n - (intOf i).toNat)
 case atStart=>exact ⟨0,by omega,rfl,rfl⟩
 case round =>
  obtain ⟨k,hk,rfl,hs⟩:=hrel
  by_cases hlt:k<n
  ·obtain ⟨b,off,x,rfl,-,hx,hcell,x0⟩:=h.str hlt
   rw [z1q hx,z1a] at hs
   clear hx h x0
   by_cases hxy:y=x
   ·subst hxy
    rw [if_pos rfl] at hs
    have Hs:=Lib.hid hs
    clear hs
    go_wp2
    go_ret
    exact ⟨zi Hs.out,rfl⟩
   ·rw [if_neg hxy] at hs
    have Hs:=Lib.hid hs
    clear hs
    have hd:(y == x)=false:=by simpa using hxy
    clear hxy
    go_wp2
    go_round
    case measure=>simp [intOf];omega
    case rel=>exact ⟨k+1,by omega,by go_num,Hs.out⟩
  ·obtain rfl:k=n:=by omega
   have Hs:=Lib.hid hs
   clear hs
   go_wp2
   go_ret
   have:=Hs.out
   rw [List.drop_eq_nil_of_le (by have:=h.1;omega),z1a] at this
   exact ⟨zi this,rfl⟩
end
section
open Go.RowKit
set_option maxRecDepth 100000
theorem z0c9 (s:List UInt8):(⟨s.toArray⟩:ByteArray).size=s.length:=by simp [ByteArray.size]
theorem box2 {w w1:World} {cs cs2:Array Value} {t t2:Nat} (hb:Below ((w.alloc (.cells cs t)).alloc (.cells cs2 t2)).heap.size ((w.alloc (.cells cs t)).alloc (.cells cs2 t2)) w1) :
  (∀ i,w1.cell? ⟨w.heap.size,i,none⟩=cs[i]?)∧(∀ i,w1.cell? ⟨w.heap.size+1,i,none⟩=cs2[i]?)∧(∀ i,w1.frozen? ⟨w.heap.size,i,none⟩=false)∧(∀ i,w1.frozen? ⟨w.heap.size+1,i,none⟩=false)∧w.heap.size+1<w1.heap.size:=by
 have h1:w1.heap[w.heap.size]? = some (.cells cs t (0,0)):=by rw [hb.block _ (by simp;omega),Below.heap_alloc _ _ _ (by simp),heap_alloc_new]
 have h2:w1.heap[w.heap.size+1]? = some (.cells cs2 t2 (0,0)):=by
  have:=heap_alloc_new (w.alloc (.cells cs t)) (.cells cs2 t2)
  simp only [World.size_alloc] at this
  rw [hb.block _ (by simp),this]
 refine ⟨fun i=>cell_of_row _ _ _ _ _ _ h1,fun i=>cell_of_row _ _ _ _ _ _ h2,fun i=>frozen_of_row _ _ _ _ _ h1,fun i=>frozen_of_row _ _ _ _ _ h2,?_⟩
 have:=hb.size
 simp at this
 omega
def zfg:List (List UInt8)→DataW Unit
 | []=>.map []
 | s::l=>(zfg l).put (.string s) (.lit (.bool true))
theorem z0ah (l:List (List UInt8)):Maps.IsMap (zfg l):=by
 induction l with
 | nil=>exact ⟨[],rfl⟩
 | cons s l ih =>
  obtain ⟨es,h⟩:=ih
  rw [zfg,h]
  exact ⟨_,rfl⟩
theorem z0dg (l:List (List UInt8)) (s:List UInt8):(zfg l).atKey (.string s) (.lit (.bool false)) = .lit (.bool (decide (s ∈ l))):=by
 induction l with
 | nil=>rfl
 | cons t l ih =>
  rw [zfg]
  by_cases h:s=t
  ·subst h
   rw [Maps.atKey_put_same (z0ah l) (by trivial)]
   simp
  ·rw [Maps.atKey_put_other (by intro e;injection e with e;exact h e),ih]
   simp [h]
def z9i:List (List UInt8)→List (List UInt8)→Int
 | [],_=>0
 | s::l,seen=>if 4000<s.length then 2 else if s ∈ seen then 6 else z9i l (s::seen)
def z1j (b:Book):Int:=if 120<b.texts.length then 2 else z9i b.texts []
theorem zzk {P:Program} {k e t:TypeId} {w:World} {b n:Nat} {l:List (List UInt8)} (h:w.ownsMap P k (plainElem P e) b n (zfg l)) (hk:P.underlying k=some .string) (ht:P.underlying t=some (.map k e)) (he:P.underlying e=some .bool)
  (hz:(zeroValue e).run P w = .ok (.bool false) w) (s:List UInt8) (hs:s.length≤9223372036854775807) :
  (Instr.lookup t (.map (some b)) (.string ⟨s.toArray⟩) false).run P w = .ok (.bool (decide (s ∈ l))) w:=by
 have hkey:=WideMaps.keyOf_string_mk (P:=P) hk (s:=⟨s.toArray⟩) (by rw [z0c9];unfold maxLen;exact hs)
 obtain ⟨v,ps,hrun,hv⟩:=h.lookup (Maps.string_keyed hk) ht hz (plainElem_bool he false) hkey
 have e1:((⟨s.toArray⟩:ByteArray).data.toList)=s:=rfl
 rw [e1,z0dg] at hv
 unfold plainElem at hv
 rw [he] at hv
 cases v <;> simp at hv
 obtain ⟨hv,_⟩:=hv
 rw [hrun,hv]
theorem zoq (bk:Book) (cs:List Value) (w:World) (F:Nat→Prop) (h:shBook.rep w F bk cs) (hF:∀ b,F b→b<w.heap.size) :
  Calls Tryz.prog 85 #[.agg cs.toArray] w fun e w'=>e = .returned (.int .i64 (z1j bk))∧Below w.heap.size w w':=by
 obtain ⟨A,n,c,rfl,hr⟩:=zrt h
 obtain ⟨texts⟩:=bk
 simp only at hr
 have hn:=hr.2.1
 have hc:=hr.2.2.1
 have hl:=hr.1
 have hmm:=@run_makeMap Tryz.prog
 have hzf:∀ W:World,(zeroValue 4).run Tryz.prog W = .ok (.bool false) W:=fun W=>by kernel_rfl
 by_cases h120:120<n
 ·have e:z1j ⟨texts⟩=2:=by simp only [z1j];rw [if_pos (by omega)]
  rw [e]
  clear e hl
  go_enter Tryz.func85,Tryz.ntmps85
  go_wp2
  go_ret
  exact ⟨rfl,(Below.refl _ _).alloc (Nat.le_refl _) _⟩
 ·have e:z1j ⟨texts⟩=z9i texts []:=by simp only [z1j];rw [if_neg (by omega)]
  rw [e]
  have HR:=Lib.hid hr
  have HZ:=Lib.hid hzf
  clear e hl hr h hzf
  go_enter Tryz.func85,Tryz.ntmps85
  go_wp2
  go_loopw [5,14] (fun _ i wr=>∃ k:Nat,k≤n∧i = .int .i64 k∧wr.ownsMap Tryz.prog 9 (plainElem Tryz.prog 4) (w.heap.size+1) k (zfg (texts.take k).reverse)∧z9i (texts.drop k) (texts.take k).reverse=z9i texts []∧Below w.heap.size w wr) (fun _ i _=>n - (intOf i).toNat)
  case atStart =>
   refine ⟨0,by omega,rfl,?_,rfl,((Below.refl _ _).alloc (Nat.le_refl _) _).alloc (by simp) _⟩
   have:=World.ownsMap_made (H:=Unit) (w.alloc (.cells #[.slice A n c] 37)) Tryz.prog 9 (plainElem Tryz.prog 4)
   simpa [zfg] using this
  case round =>
   obtain ⟨k,hk,rfl,hown,hs,hb⟩:=hrel
   by_cases hlt:k<n
   ·obtain ⟨b,off,x,rfl,hFb,hx,hcell,x0⟩:=HR.out.str hlt
    rw [← hb.cell (p:=⟨b,off+k,none⟩) (hF b hFb)] at hcell
    rw [z1q hx,z9i] at hs
    have ht:=z0t hx
    have hlk:=zzk hown Tryz.underlying9 Tryz.underlying240 Tryz.underlying4 (HZ.out wr) x x0
    simp only [List.mem_reverse] at hlk hs
    have HO:=Lib.hid hown
    have HB:=Lib.hid hb
    have HT:=Lib.hid ht
    have HX:=Lib.hid hx
    have kx:=Lib.hid (WideMaps.keyOf_string_mk (P:=Tryz.prog) Tryz.underlying9 (s:=⟨x.toArray⟩) (by rw [z0c9];unfold maxLen;exact x0))
    clear hown hb ht hx
    by_cases h4:4000<x.length
    ·rw [if_pos h4] at hs
     have HS:=Lib.hid hs
     clear hs hlk
     go_wp2
     go_ret
     exact ⟨zi HS.out,HB.out⟩
    ·rw [if_neg h4] at hs
     by_cases hm:x ∈ texts.take k
     ·rw [if_pos hm] at hs
      rw [decide_eq_true hm] at hlk
      have HS:=Lib.hid hs
      clear hs hm
      go_wp2
      go_ret
      exact ⟨zi HS.out,HB.out⟩
     ·rw [if_neg hm] at hs
      rw [decide_eq_false hm] at hlk
      have HS:=Lib.hid hs
      clear hs hm
      go_wp2_with (at_mapUpdate;refine wpList_mapUpdate_own _ rfl _ _ _ 240 rfl 9 4 (Maps.string_keyed Tryz.underlying9) Tryz.underlying240 (plainElem Tryz.prog 4) (w.heap.size+1) k _ rfl HO.out (by unfold maxLen;omega) _ _ (.string x) rfl rfl kx.out (.lit (.bool true)) [] (plainElem_bool Tryz.underlying4 true) ?_;intro w1 hown1 hgr1)
      go_roundw
      case measure=>simp [intOf];omega
      case rel =>
       refine ⟨k+1,by omega,by go_num,?_,?_,HB.out.grown hgr1 HB.out.size (fun j hj=>by injection hj with hj;omega)⟩
       ·rw [HT.out,List.reverse_append];exact hown1
       ·rw [HT.out,List.reverse_append];exact HS.out
   ·obtain rfl:k=n:=by omega
    have HS:=Lib.hid hs
    clear hs
    go_wp2
    go_ret
    have:=HS.out
    rw [List.drop_eq_nil_of_le (by have:=HR.out.1;omega),z9i] at this
    exact ⟨zi this,hb⟩
def Mid (w w':World):Nat→Prop:=fun b=>w.heap.size≤b∧b<w'.heap.size
def z0dh (w:World) (l:List (List UInt8)) (a b:Int) (e:Ending) (w':World):Prop :=
 ∃ A n c,e = .returned (.tuple #[.slice A n c,.int .i64 a,.int .i64 b])∧Rds shStr w' (Mid w w') l A n c∧Below w.heap.size w w'
def z82 (l:List (List UInt8)) (s:List UInt8):List (List UInt8):=if 0≤idx l s then l else if l.length=120 then [] else l++[s]
def z54 (l:List (List UInt8)) (s:List UInt8):Int:=if 0≤idx l s then idx l s+1 else if l.length=120 then 0 else l.length+1
def z55 (l:List (List UInt8)) (s:List UInt8):Int:=if 0≤idx l s then 0 else if l.length=120 then 12 else 0
theorem z0ai:∃ i z,Tryz.prog.info? 9=some i∧i.zero=some z∧i.size=1∧i.bytes=16∧z.cells.size=1:=by
 have h1:(Tryz.prog.info? 9).map (fun i=>(i.zero.map (·.cells.size),i.size,i.bytes))=some (some 1,1,16):=by kernel_rfl
 match hh:Tryz.prog.info? 9,h1 with
 | some i,h1 =>
  simp only [Option.map_some,Option.some.injEq,Prod.mk.injEq] at h1
  match hz:i.zero,h1 with
  | some z,h1=>exact ⟨i,z,rfl,hz,h1.2.1,h1.2.2,by simpa using h1.1⟩
theorem z0aj (l:List (List UInt8)) (s:List UInt8) (A:Option Addr) (n c:Nat) (w:World) (F:Nat→Prop) (h:Rds shStr w F l A n c) (hF:∀ b,F b→b<w.heap.size) (hn:n≤1000000) (hs:s.length≤9223372036854775807) :
  Calls Tryz.prog 200 #[.slice A n c,.string ⟨s.toArray⟩] w (z0dh w (z82 l s) (z54 l s) (z55 l s)):=by
 have hbd:=zs6 l s
 have hln:=h.1
 have hc:=h.2.1
 have hcc:=h.2.2.1
 by_cases h0:0≤idx l s
 ·have e1:z82 l s=l:=by simp only [z82];rw [if_pos h0]
  have e2:z54 l s=idx l s+1:=by simp only [z54];rw [if_pos h0]
  have e3:z55 l s=0:=by simp only [z55];rw [if_pos h0]
  rw [e1,e2,e3]
  have b1:idx l s≤1000000:=by omega
  have HR:=Lib.hid h
  clear e1 e2 e3 h hbd hln
  go_enter Tryz.func200,Tryz.ntmps200
  go_wp2_with fail
  refine (zby _ _ _ _ _ _ _ HR.out).mono ?_;rintro e w' ⟨rfl,rfl⟩
  go_wp2_with fail
  refine (zf9 _ _ _ _ _ _ HR.out hF (by omega)).mono ?_;rintro e w1 ⟨v,zs,rfl,z1,z2,hown,hb⟩
  obtain ⟨A1,c1,rfl,hr1⟩:=Rds.of_own (S:=shStr) (F:=Mid w w1) hown (by have:=congrArg List.length z1;simp at this;have:=HR.out.1;omega) (fun z hz=>z2 z hz) (fun g h1 h2=>⟨h1,h2⟩)
  rw [z1] at hr1
  have H1:=Lib.hid hr1
  have HB:=Lib.hid hb
  clear hr1 hb hown z1 z2
  go_wp2_with fail
  refine bodyPost_ret (results_tmp3 rfl _ _ _) rfl ?_
  exact ⟨_,_,_,rfl,H1.out,HB.out⟩
 ·by_cases hf:l.length=120
  ·have e1:z82 l s=[]:=by simp only [z82];rw [if_neg h0,if_pos hf]
   have e2:z54 l s=0:=by simp only [z54];rw [if_neg h0,if_pos hf]
   have e3:z55 l s=12:=by simp only [z55];rw [if_neg h0,if_pos hf]
   rw [e1,e2,e3]
   have b1:idx l s<0:=by omega
   have b2:((n:Int) == 120)=true:=by simp;omega
   have HR:=Lib.hid h
   clear e1 e2 e3 h hbd hln h0 hf
   go_enter Tryz.func200,Tryz.ntmps200
   go_wp2_with fail
   refine (zby _ _ _ _ _ _ _ HR.out).mono ?_;rintro e w' ⟨rfl,rfl⟩
   go_wp2_with fail
   refine bodyPost_ret (results_tmp3 rfl _ _ _) rfl ?_
   exact ⟨_,_,_,rfl,Rds.nil _ _ _,Below.refl _ _⟩
  ·have e1:z82 l s=l++[s]:=by simp only [z82];rw [if_neg h0,if_neg hf]
   have e2:z54 l s=n+1:=by simp only [z54];rw [if_neg h0,if_neg hf,hln]
   have e3:z55 l s=0:=by simp only [z55];rw [if_neg h0,if_neg hf]
   rw [e1,e2,e3]
   have b1:idx l s<0:=by omega
   have b2:((n:Int) == 120)=false:=by simp;omega
   have HR:=Lib.hid h
   obtain ⟨i0,zv,hi,hz0,hz1,hz2,hz3⟩:=z0ai
   clear e1 e2 e3 h hbd hln h0 hf
   go_enter Tryz.func200,Tryz.ntmps200
   go_wp2_with fail
   refine (zby _ _ _ _ _ _ _ HR.out).mono ?_;rintro e w' ⟨rfl,rfl⟩
   go_wp2_with fail
   refine (zf9 _ _ _ _ _ _ HR.out hF (by omega)).mono ?_;rintro e w1 ⟨v,zs,rfl,z1,z2,hown,hb⟩
   have hz:zs.length=n:=by have:=congrArg List.length z1;simp at this;have:=HR.out.1;omega
   have HO:=Lib.hid hown
   have HB:=Lib.hid hb
   have Z1:=Lib.hid z1
   have Z2:=Lib.hid z2
   clear hown hb z1 z2
   go_wp2_with (at_builtin;refine wpList_append_own_at _ rfl _ _ 35 rfl w.heap.size 9 i0 zv 1 16 Tryz.underlying35 hi hz0 hz1 hz2 hz3 (by omega) _ n (flat zs) rfl (HO.out.alloc _) ⟨w1.heap.size,0,none⟩ 1 1 [.string ⟨s.toArray⟩] rfl rfl (cell_one_new _ _ _) (by intro u hu;simp at hu;subst hu;rfl) (by unfold maxLen;omega) (by omega) (by have:=HB.out.size;simp;omega) ?_;intro v2 w2 hown2 hgr2 _ _)
   refine bodyPost_ret (results_tmp3 rfl _ _ _) rfl ?_
   have hb2:Below w.heap.size w w2:=(HB.out.alloc HB.out.size _).grown hgr2 (by have:=HB.out.size;simp;omega) (fun k hk=>by
    exact zjl HO.out hk)
   have e4:flat zs++[Value.string ⟨s.toArray⟩]=flat (zs++[(s,[Value.string ⟨s.toArray⟩])]):=by rw [zc9];simp [flat]
   rw [e4] at hown2
   obtain ⟨A2,c2,rfl,hr2⟩:=Rds.of_own (S:=shStr) (F:=Mid w w2) hown2 (by simp [hz]) (by
    intro z hz'
    rcases List.mem_append.1 hz' with h|h
    ·obtain ⟨e,h'⟩:=Z2.out z h;exact ⟨e,h'⟩
    ·simp at h;subst h;exact ⟨rfl,hs⟩) (fun g h1 h2=>⟨h1,h2⟩)
   rw [List.map_append,Z1.out] at hr2
   exact ⟨_,_,_,rfl,hr2,hb2⟩
theorem zor {bk:Book} (h:z1j bk=0):bk.texts.length≤120:=by
 unfold z1j at h
 split at h
 ·cases h
 ·omega
end
section
open Go.RowKit
set_option maxRecDepth 100000
theorem z0fz {w:World} {base e size n k:Nat} {v:Value} {xs:List Value} (h:w.ownsRow base e size v n xs) (hk:v.ownBlock=some k):k<w.heap.size:=by
 rcases h.2 with ⟨rfl,_⟩|⟨g,cap,cur,rfl,hg,hh,_⟩
 ·cases hk
 ·have:g=k:=by simpa [Value.ownBlock] using hk
  subst this
  rcases Nat.lt_or_ge g w.heap.size with h|h
  ·exact h
  ·rw [Array.getElem?_eq_none h] at hh;cases hh
theorem zfh {w w':World} {base e size n:Nat} {v:Value} {xs:List Value} (h:w.ownsRow base e size v n xs) (hb:Below w.heap.size w w'):w'.ownsRow base e size v n xs:=by
 refine ⟨h.1,?_⟩
 rcases h.2 with h0|⟨g,cap,cur,hv,hg,hh,r⟩
 ·exact .inl h0
 ·refine .inr ⟨g,cap,cur,hv,hg,?_,r⟩
  rw [hb.block g ?_]
  ·exact hh
  ·rcases Nat.lt_or_ge g w.heap.size with h|h
   ·exact h
   ·rw [Array.getElem?_eq_none h] at hh;cases hh
theorem zfi {wa w5:World} {o:Obj} {v:Value} (hgr:(wa.alloc o).grownBy w5 v.ownBlock) {b:Nat} (hb:b<wa.heap.size) (hne:v.ownBlock≠some b):w5.heap[b]? = wa.heap[b]? :=
 (hgr.block b (by simp;omega) (fun e=>hne e.symm)).trans (Below.heap_alloc _ _ _ hb)
theorem zzl {α:Type} {S:Sh α} {F:Nat→Prop} {wa w5:World} {o:Obj} {v v5:Value} {xs:List α} {A:Option Addr} {n c:Nat} (hgr:(wa.alloc o).grownBy w5 v.ownBlock)
  (hob:v5.ownBlock=v.ownBlock∨v5.ownBlock=some (wa.alloc o).heap.size) (hr:Rds S wa F xs A n c) (hF:∀ b,F b→b<wa.heap.size∧v.ownBlock≠some b):Rds S w5 (fun b=>F b∧b<w5.heap.size∧v5.ownBlock≠some b) xs A n c:=by
 refine (hr.keep fun b hb=>zfi hgr (hF b hb).1 (hF b hb).2).more fun b hb=>⟨hb,?_,?_⟩
 ·have:=hgr.size
  have:=(hF b hb).1
  simp at *
  omega
 ·rcases hob with e|e
  ·rw [e];exact (hF b hb).2
  ·rw [e]
   intro e2
   injection e2 with e2
   have:=(hF b hb).1
   simp at e2
   omega
theorem z077 {t:List (List UInt8)} {s:List UInt8} (ht:t.length≤120) (he:z55 t s=0):(z82 t s).length≤120:=by
 unfold z55 at he
 unfold z82
 split at he
 ·rename_i h;rw [if_pos h];exact ht
 ·rename_i h
  rw [if_neg h]
  split at he
  ·cases he
  ·rename_i h';rw [if_neg h'];simp;omega
theorem z0ak {t:List (List UInt8)} {s:List UInt8} (ht:t.length≤120):0≤z54 t s∧z54 t s≤1000:=by
 have:=zs6 t s
 unfold z54
 split
 ·omega
 ·split <;> omega
def z6h:List (List UInt8)→List (List UInt8)→List Int→List (List UInt8) × List Int × Int
 | [],t,o=>(t,o,0)
 | s::l,t,o=>if 4000<s.length then ([],[],2) else if z55 t s≠0 then ([],[],z55 t s) else z6h l (z82 t s) (o++[z54 t s])
def z0o (bk:Book) (l:List (List UInt8)):List (List UInt8) × List Int × Int:=if z1j bk≠0 then ([],[],z1j bk) else z6h l bk.texts []
def z0g0 (w:World) (r:List (List UInt8) × List Int × Int) (e:Ending) (w':World):Prop :=
 ∃ A n c A' n' c',e = .returned (.tuple #[.agg #[.slice A n c],.slice A' n' c',.int .i64 r.2.2])∧Rds shStr w' (Mid w w') r.1 A n c∧Rds shInt w' (Mid w w') r.2.1 A' n' c'∧Below w.heap.size w w'
theorem zo0:∃ i z,Tryz.prog.info? 3=some i∧i.zero=some z∧i.size=1∧i.bytes=8∧z.cells.size=1:=by
 have h1:(Tryz.prog.info? 3).map (fun i=>(i.zero.map (·.cells.size),i.size,i.bytes))=some (some 1,1,8):=by kernel_rfl
 match hh:Tryz.prog.info? 3,h1 with
 | some i,h1 =>
  simp only [Option.map_some,Option.some.injEq,Prod.mk.injEq] at h1
  match hz:i.zero,h1 with
  | some z,h1=>exact ⟨i,z,rfl,hz,h1.2.1,h1.2.2,by simpa using h1.1⟩
set_option maxHeartbeats 1000000 in
theorem z0di (bk:Book) (cs:List Value) (l:List (List UInt8)) (A:Option Addr) (n c:Nat) (w:World) (F:Nat→Prop) (h:shBook.rep w F bk cs) (h':Rds shStr w F l A n c) (hF:∀ b,F b→b<w.heap.size) (hn:n≤8796093022207) :
  Calls Tryz.prog 126 #[.agg cs.toArray,.slice A n c] w (z0g0 w (z0o bk l)):=by
 have hck:=fun (W:World) (hW:Agree F w W) (hs:∀ b,F b→b<W.heap.size)=>zoq bk cs W F (shBook.keep hW h) hs
 obtain ⟨A0,l0,c0,rfl,hr⟩:=zrt h
 have hbox:Below w.heap.size w ((w.alloc (.cells #[.slice A0 l0 c0] 37)).alloc (.cells #[.slice none 0 0] 37)):=((Below.refl _ _).alloc (Nat.le_refl _) _).alloc (by simp) _
 have hck1:=hck _ ((Agree.below hbox).mono hF) (fun b hb=>by have:=hF b hb;simp;omega)
 have HC:=Lib.hid hck1
 have HR:=Lib.hid hr
 have HL:=Lib.hid h'
 have hnc:=h'.2.1
 have hcc:=h'.2.2.1
 have hll:=h'.1
 clear hck hck1 h hr h'
 by_cases h0:z1j bk=0
 ·have E0:=Lib.hid h0
  have e1:z0o bk l=z6h l bk.texts []:=by simp only [z0o];rw [if_neg (by simp [h0])]
  rw [e1]
  have hl:=zor h0
  have hln:=HR.out.1
  obtain ⟨i0,zv,hi,hz0,hz1,hz2,hz3⟩:=zo0
  clear e1 h0
  go_enter Tryz.func126,Tryz.ntmps126
  go_wp2_with fail
  refine HC.out.mono ?_;rintro e w1 ⟨rfl,hb1⟩
  rw [E0.out]
  obtain ⟨hc1,hc2,hf1,hf2,hz⟩:=box2 hb1
  replace hc1:=hc1 0
  replace hc2:=hc2 0
  replace hf2:=hf2 0
  simp only [List.getElem?_toArray,List.getElem?_cons_zero] at hc1 hc2
  have hb2:=hbox.trans (hb1.mono (by simp;omega))
  have HB:=Lib.hid hb2
  have hr1:=HR.out.keep ((Agree.below hb2).mono hF)
  have H1:=Lib.hid hr1
  clear hb1 hb2 hf1 hr1
  go_wp2_with fail
  refine (zf9 _ _ _ _ _ _ H1.out (fun b hb=>by have:=hF b hb;omega) (by omega)).mono ?_
  rintro e w2 ⟨v,zs,rfl,z1,z2,hown,hb2⟩
  obtain ⟨A1,c1',rfl,hr2⟩:=Rds.of_own (S:=shStr) (F:=fun b=>w.heap.size+2≤b∧b<w2.heap.size) hown (by have:=congrArg List.length z1;simp at this;omega) (fun z hz=>z2 z hz) (fun g h1 h2=>⟨by omega,h2⟩)
  rw [z1] at hr2
  have hc3:w2.cell? ⟨w.heap.size+1,0,none⟩=some (.slice none 0 0):=by rw [hb2.cell (p:=⟨w.heap.size+1,0,none⟩) hz];exact hc2
  have hf3:w2.frozen? ⟨w.heap.size+1,0,none⟩=false:=by rw [hb2.frozen (p:=⟨w.heap.size+1,0,none⟩) hz];exact hf2
  have hb3:=HB.out.trans (hb2.mono HB.out.size)
  have hs3:=hb2.size
  have H2:=Lib.hid hr2
  have HB3:=Lib.hid hb3
  clear hr2 hb2 hb3 hc1 hc2 hf2 hown z1 z2
  go_wp2_with fail
  go_loopw [8,9,11,12,13,14,26] (fun t o _ _ _ _ i wr=>∃ (k:Nat) (tt:List (List UInt8)) (oo:List Int) (At:Option Addr) (nt ct:Nat),k≤n∧i = .int .i64 k∧t = .slice At nt ct∧tt.length≤120∧oo.length=k∧(∀ x ∈ oo,0≤x∧x≤1000) ∧
    Rds shStr wr (fun b=>w.heap.size+2≤b∧b<wr.heap.size∧o.ownBlock≠some b) tt At nt ct∧wr.ownsRow (w.heap.size+2) 3 1 o k (oo.map (Value.int .i64)) ∧
    wr.cell? ⟨w.heap.size+1,0,none⟩=some (.slice none 0 0)∧wr.frozen? ⟨w.heap.size+1,0,none⟩=false∧Below w.heap.size w wr∧w.heap.size+2≤wr.heap.size∧z6h (l.drop k) tt oo=z6h l bk.texts []) (fun _ _ _ _ _ _ i _=>n - (intOf i).toNat)
  case atStart=>exact ⟨0,bk.texts,[],A1,l0,c1',by omega,rfl,rfl,hl,rfl,by simp,H2.out.more (fun b hb=>⟨hb.1,hb.2,by simp [Value.ownBlock]⟩),World.ownsRow_nil _ _ _ _,hc3,hf3,HB3.out,by omega,rfl⟩
  case round =>
   obtain ⟨k,tt,oo,At,nt,ct,hk,rfl,rfl,ht,ho,hob,hrt,hown,hcb,hfb,hb,hwz,hs⟩:=hrel
   have HRT:=Lib.hid hrt
   have HO:=Lib.hid hown
   have HBr:=Lib.hid hb
   have HOO:=Lib.hid ho
   have hobx:=Lib.hid hob
   have hln2:=hrt.1
   clear hrt hown hb ho hob
   by_cases hlt:k<n
   ·obtain ⟨b,off,x,rfl,hFb,hx,hcell,x0⟩:=HL.out.str hlt
    rw [← HBr.out.cell (p:=⟨b,off+k,none⟩) (hF b hFb)] at hcell
    rw [z1q hx,z6h] at hs
    clear hx
    by_cases h4:4000<x.length
    ·rw [if_pos h4] at hs
     have HS:=Lib.hid hs
     clear hs
     go_wp2_with fail
     refine bodyPost_ret (v:=.tuple #[.agg #[.slice none 0 0],.slice none 0 0,.int .i64 2]) (by simp [results,Tryz.results126,go_sem,hcb]) rfl ?_
     rw [← HS.out]
     exact ⟨_,_,_,_,_,_,rfl,Rds.nil _ _ _,Rds.nil _ _ _,HBr.out.setCell (by simp) _⟩
    ·rw [if_neg h4] at hs
     have HS:=Lib.hid hs
     clear hs
     go_wp2_with fail
     refine (z0aj _ _ _ _ _ _ _ HRT.out (fun b hb=>hb.2.1) (by omega) x0).mono ?_
     rintro e w4 ⟨A2,n2,c2,rfl,hr4,hb4⟩
     have hcb4:w4.cell? ⟨w.heap.size+1,0,none⟩=some (.slice none 0 0):=by rw [hb4.cell (p:=⟨w.heap.size+1,0,none⟩) (by simp;omega)];exact hcb
     have hfb4:w4.frozen? ⟨w.heap.size+1,0,none⟩=false:=by rw [hb4.frozen (p:=⟨w.heap.size+1,0,none⟩) (by simp;omega)];exact hfb
     have hb5:=HBr.out.trans (hb4.mono HBr.out.size)
     have hs4:=hb4.size
     have HO4:=Lib.hid (zfh HO.out hb4)
     have HR4:=Lib.hid hr4
     have HB5:=Lib.hid hb5
     have nb:=z0ak (s:=x) ht
     clear hr4 hb4 hb5 hcb hfb hcell
     by_cases he:z55 tt x=0
     ·have htl:=z077 ht he
      have HS2:=HS.out
      rw [if_neg (by simp [he])] at HS2
      have HS3:=Lib.hid HS2
      rw [he]
      clear HS2 HS he
      go_wp2_with (at_builtin;refine wpList_append_own_at _ rfl _ _ 38 rfl (w.heap.size+2) 3 i0 zv 1 8 Tryz.underlying38 hi hz0 hz1 hz2 hz3 (by omega) _ k (oo.map (Value.int .i64)) rfl (HO4.out.alloc _) ⟨w4.heap.size,0,none⟩ 1 1 [.int .i64 (z54 tt x)] rfl rfl (cell_one_new _ _ _) (by intro u hu;simp at hu;subst hu;rfl) (by unfold maxLen;omega) (by omega) (by simp;omega) ?_;intro v5 w5 hown5 hgr5 _ hob5)
      have hgr:(w4.alloc (.cells #[.int .i64 (z54 tt x)] 3)).grownBy w5 u9.ownBlock:=hgr5
      have hob:v5.ownBlock=u9.ownBlock∨v5.ownBlock=some (w4.alloc (.cells #[.int .i64 (z54 tt x)] 3)).heap.size:=hob5
      have hge:=fun k hk=>zjl HO.out (k:=k) hk
      have hlt':=fun k hk=>z0fz HO.out (k:=k) hk
      go_roundw
      case measure=>simp [intOf];omega
      case rel =>
       have hB:u9.ownBlock≠some (w.heap.size+1):=fun e=>by have:=hge _ e;omega
       have hblk:=zfi hgr (b:=w.heap.size+1) (by omega) hB
       have hs5:=hgr.size
       simp only [World.size_alloc] at hs5
       refine ⟨k+1,z82 tt x,oo++[z54 tt x],A2,n2,c2,by omega,by go_num,rfl,htl,by rw [List.length_append,HOO.out];rfl,?_,?_,by rw [List.map_append];exact hown5,?_,?_,?_,by omega,HS3.out⟩
       ·intro y hy
        rcases List.mem_append.1 hy with h|h
        ·exact hobx.out y h
        ·simp at h;subst h;exact nb
       ·refine (zzl hgr hob HR4.out (fun b hb=>⟨hb.2,fun e=>by have:=hlt' _ e;have:=hb.1;omega⟩)).more fun b hb=>⟨by have:=hb.1.1;omega,hb.2.1,hb.2.2⟩
       ·rw [← hcb4];exact World.cell?_of_block (w:=w4) hblk
       ·rw [← hfb4];exact World.frozen?_of_block (w:=w4) hblk
       ·exact ((HB5.out.alloc HB5.out.size _).grown hgr (by have:=HB5.out.size;simp;omega) (fun k hk=>by have:=hge _ hk;omega))
     ·have HS2:=HS.out
      rw [if_pos he] at HS2
      have HS3:=Lib.hid HS2
      have hd:(z55 tt x == 0)=false:=by simpa using he
      clear HS2 HS he
      go_wp2_with fail
      refine bodyPost_ret (v:=.tuple #[.agg #[.slice none 0 0],.slice none 0 0,.int .i64 (z55 tt x)]) (by simp [results,Tryz.results126,go_sem,hcb4]) rfl ?_
      rw [← HS3.out]
      exact ⟨_,_,_,_,_,_,rfl,Rds.nil _ _ _,Rds.nil _ _ _,HB5.out.setCell (by simp) _⟩
   ·obtain rfl:k=n:=by omega
    rw [List.drop_eq_nil_of_le (by omega),z6h] at hs
    have HS:=Lib.hid hs
    clear hs
    obtain ⟨A',c',ev,hri⟩:=Rds.of_own_int HO.out (fun x hx=>by have:=hobx.out x hx;omega)
    subst ev
    go_wp2_with fail
    refine bodyPost_ret (v:=.tuple #[.agg #[.slice At nt ct],.slice A' k c',.int .i64 0]) (by simp [results,Tryz.results126,go_sem,hcb]) rfl ?_
    rw [← HS.out]
    refine ⟨_,_,_,_,_,_,rfl,?_,?_,HBr.out.setCell (by simp) _⟩
    ·exact (HRT.out.keep fun b hb=>Below.heap_setCell _ _ _ _ (by have:=hb.1;simp;omega)).more fun b hb=>⟨by have:=hb.1;omega,by simpa using hb.2.1⟩
    ·exact (hri.keep fun b hb=>Below.heap_setCell _ _ _ _ (by have:=hb.1;simp;omega)).more fun b hb=>⟨by have:=hb.1;omega,by simpa using hb.2⟩
 ·have e1:z0o bk l=([],[],z1j bk):=by simp only [z0o];rw [if_pos h0]
  rw [e1]
  have hd:(z1j bk == 0)=false:=by simpa using h0
  clear e1 h0
  go_enter Tryz.func126,Tryz.ntmps126
  go_wp2_with fail
  refine HC.out.mono ?_;rintro e w1 ⟨rfl,hb1⟩
  obtain ⟨hc1,hc2,hf1,hf2,hz⟩:=box2 hb1
  replace hc2:=hc2 0
  replace hf2:=hf2 0
  simp only [List.getElem?_toArray,List.getElem?_cons_zero] at hc2
  have hb2:=hbox.trans (hb1.mono (by simp;omega))
  have hb3:=hb2.setCell (p:=⟨w.heap.size+1,0,none⟩) (by simp) (.slice none 0 0)
  have HB:=Lib.hid hb3
  clear hb1 hb2 hb3 hf1 hc1
  go_wp2_with fail
  refine bodyPost_ret (v:=.tuple #[.agg #[.slice none 0 0],.slice none 0 0,.int .i64 (z1j bk)]) (by simp [results,Tryz.results126,go_sem,hc2]) rfl ⟨_,_,_,_,_,_,rfl,Rds.nil _ _ _,Rds.nil _ _ _,HB.out⟩
end
section
open Go.RowKit
set_option maxRecDepth 100000
def z4j (o:Op):Int:=if o.kind<1∨13<o.kind then 4 else if (o.kind≠1∧o.n≠0)∨o.n < -1000000∨1000000<o.n then 3 else 0
def z56:List Op→Int
 | []=>0
 | o::l=>if z4j o≠0 then z4j o else z56 l
def z8 (l:List Op):Int:=if 16<l.length then 2 else z56 l
theorem z9u (xs:List Op) (A:Option Addr) (n c:Nat) (w:World) (F:Nat→Prop) (h:Rds shOp w F xs A n c) (hF:∀ b,F b→b<w.heap.size) :
  Calls Tryz.prog 131 #[.slice A n c] w fun e w'=>e = .returned (.int .i64 (z8 xs))∧Below w.heap.size w w':=by
 have hn:=h.2.1
 have hc:=h.2.2.1
 have hl:=h.1
 by_cases h16:16<n
 ·have e:z8 xs=2:=by simp only [z8];rw [if_pos (by omega)]
  rw [e]
  clear e hl
  go_enter Tryz.func131,Tryz.ntmps131
  go_wp2
  go_ret
  exact ⟨rfl,Below.refl _ _⟩
 ·have e:z8 xs=z56 xs:=by simp only [z8];rw [if_neg (by omega)]
  rw [e]
  have HR:=Lib.hid h
  have HLN:=Lib.hid hl
  clear e hl h
  go_enter Tryz.func131,Tryz.ntmps131
  go_wp2
  go_loopw [4,10] (fun _ i wr=>∃ k:Nat,k≤n∧i = .int .i64 k∧Below w.heap.size w wr∧z56 (xs.drop k)=z56 xs) (fun _ i _=>n - (intOf i).toNat)
  case atStart=>exact ⟨0,by omega,rfl,Below.refl _ _,rfl⟩
  case round =>
   obtain ⟨k,hk,rfl,hb,hs⟩:=hrel
   by_cases hlt:k<n
   ·obtain ⟨b,off,x,rfl,hFb,hx,⟨hc1,hc2⟩,-,-⟩:=HR.out.op hlt
    rw [z1q hx,z56] at hs
    rw [← hb.cell (p:=⟨b,off+k * 2,none⟩) (hF b hFb)] at hc1
    rw [← hb.cell (p:=⟨b,off+k * 2+1,none⟩) (hF b hFb)] at hc2
    have HB:=Lib.hid (hb.alloc hb.size (.cells #[.int .i64 x.kind,.int .i64 x.n] 217))
    clear hx hb
    have i1:(0:Int)≤(k:Int):=by omega
    have i2:(k:Int)<(n:Int):=by omega
    obtain ⟨xk,xn⟩:=x
    simp only at hc1 hc2 HB
    rcases Classical.em (xk<1∨13<xk) with hk1|hk1
    ·have e:z4j ⟨xk,xn⟩=4:=by simp only [z4j];rw [if_pos hk1]
     rw [e,if_pos (by decide)] at hs
     have HS:=Lib.hid hs
     clear hs e
     rcases Classical.em (xk<1) with hk2|hk2
     ·clear hk1
      go_wp2
      go_ret
      exact ⟨zi HS.out,HB.out⟩
     ·have hk3:13<xk:=by omega
      clear hk1
      go_wp2
      go_ret
      exact ⟨zi HS.out,HB.out⟩
    ·have g1:¬ xk<1:=by omega
     have g2:¬ 13<xk:=by omega
     have e0:z4j ⟨xk,xn⟩=if (xk≠1∧xn≠0)∨xn < -1000000∨1000000<xn then 3 else 0:=by simp only [z4j];rw [if_neg hk1]
     rw [e0] at hs
     clear hk1 e0
     rcases Classical.em ((xk≠1∧xn≠0)∨xn < -1000000∨1000000<xn) with h3|h3
     ·rw [if_pos h3,if_pos (by decide)] at hs
      have HS:=Lib.hid hs
      clear hs
      by_cases h4:xk≠1∧xn≠0
      ·have k1:(xk != 1)=true:=by simpa using h4.1
       have k2:(xn != 0)=true:=by simpa using h4.2
       clear h3 h4
       go_wp2
       go_ret
       exact ⟨zi HS.out,HB.out⟩
      ·by_cases h5:xk=1
       ·subst h5
        clear h4
        rcases Classical.em (xn < -1000000) with h6|h6
        ·clear h3
         go_wp2
         go_ret
         exact ⟨zi HS.out,HB.out⟩
        ·have h7:1000000<xn:=by omega
         clear h3
         go_wp2
         go_ret
         exact ⟨zi HS.out,HB.out⟩
       ·exfalso;omega
     ·rw [if_neg h3,if_neg (by decide)] at hs
      have HS:=Lib.hid hs
      clear hs
      have h6:¬ xn < -1000000:=by omega
      have h7:¬ 1000000<xn:=by omega
      by_cases h5:xk=1
      ·subst h5
       clear h3
       go_wp2
       go_roundw
       case measure=>simp [intOf];omega
       case rel=>exact ⟨k+1,by omega,by go_num,HB.out,HS.out⟩
      ·obtain rfl:xn=0:=by omega
       have k1:(xk != 1)=true:=by simpa using h5
       clear h3 h5
       go_wp2
       go_roundw
       case measure=>simp [intOf];omega
       case rel=>exact ⟨k+1,by omega,by go_num,HB.out,HS.out⟩
   ·obtain rfl:k=n:=by omega
    rw [List.drop_eq_nil_of_le (by rw [HLN.out];omega),z56] at hs
    have HS:=Lib.hid hs
    clear hs
    go_wp2
    go_ret
    exact ⟨zi HS.out,hb⟩
end
section
open Go.RowKit
set_option maxRecDepth 100000
def z7m (n:Int):Int:=if 0≤n∧n≤1000000000 then 0 else 3
def z2d (h:Int):Int:=if h<1∨1000<h then 0 else 64 / 2 ^ (min ((h - 1) / 8) 30).toNat
def z5g (h:Int):Int:=if h<1∨1000<h then 3 else 0
theorem z9v (n:Int) (w:World):Calls Tryz.prog 207 #[.int .i64 n] w fun e w'=>e = .returned (.int .i64 (z7m n))∧w=w':=by
 go_enter Tryz.func207,Tryz.ntmps207
 go_wp2
 all_goals (go_ret;refine ⟨zi ?_,rfl⟩;unfold z7m;first|(rw [if_pos (by omega)])|(rw [if_neg (by omega)]))
def z9b:List Int→Int→Int × Int
 | [],a=>(a,0)
 | x::l,a=>if 0≤x∧x≤1000000000 then (if 1000000000<a+x then (0,12) else z9b l (a+x)) else (0,3)
def z3c (l:List Int):Int × Int:=z9b l 0
theorem z0dl (xs:List Int) (A:Option Addr) (n c:Nat) (w:World) (F:Nat→Prop) (h:Rds shInt w F xs A n c) :
  Calls Tryz.prog 134 #[.slice A n c] w fun e w'=>e = .returned (.tuple #[.int .i64 (z3c xs).1,.int .i64 (z3c xs).2])∧w=w':=by
 have hn:=h.2.1
 have hc:=h.2.2.1
 go_enter Tryz.func134,Tryz.ntmps134
 go_wp2
 go_loop [4,10] (fun a i=>∃ (k:Nat) (aa:Int),k≤n∧i = .int .i64 k∧a = .int .i64 aa∧0≤aa∧aa≤1000000000∧z9b (xs.drop k) aa=z3c xs) (fun _ i=>n - (intOf i).toNat)
 case atStart=>exact ⟨0,0,by omega,rfl,rfl,by omega,by omega,rfl⟩
 case round =>
  obtain ⟨k,aa,hk,rfl,rfl,a0,a1,hs⟩:=hrel
  by_cases hlt:k<n
  ·obtain ⟨b,off,x,rfl,-,hx,hcell,x0,x1⟩:=h.int hlt
   rw [z1q hx,z9b] at hs
   have Hs:=Lib.hid hs
   clear hs hx h
   by_cases hv:0≤x∧x≤1000000000
   ·obtain ⟨v0,v1⟩:=hv
    have e:z7m x=0:=by unfold z7m;rw [if_pos ⟨v0,v1⟩]
    have E:=Lib.hid e
    clear e
    by_cases hf:1000000000<aa+x
    ·go_wp2_with (go_at_call 207;refine (z9v _ _).mono ?_;rintro e w' ⟨rfl,rfl⟩;rw [E.out])
     go_ret2
     have:=Hs.out
     rw [if_pos (by omega),if_pos (by omega)] at this
     exact ⟨z5q (by rw [← this]) (by rw [← this]),rfl⟩
    ·go_wp2_with (go_at_call 207;refine (z9v _ _).mono ?_;rintro e w' ⟨rfl,rfl⟩;rw [E.out])
     go_round
     case measure=>simp [intOf];omega
     case rel =>
      have:=Hs.out
      rw [if_pos (by omega),if_neg (by omega)] at this
      exact ⟨k+1,_,by omega,by go_num,rfl,by omega,by omega,this⟩
   ·have e:z7m x=3:=by unfold z7m;rw [if_neg hv]
    have E:=Lib.hid e
    clear e
    have hv':x<0∨1000000000<x:=by omega
    have Hv:=Lib.hid hv
    clear hv
    go_wp2_with (go_at_call 207;refine (z9v _ _).mono ?_;rintro e w' ⟨rfl,rfl⟩;rw [E.out])
    go_ret2
    have:=Hs.out
    rw [if_neg Hv.out] at this
    exact ⟨z5q (by rw [← this]) (by rw [← this]),rfl⟩
  ·obtain rfl:k=n:=by omega
   have Hs:=Lib.hid hs
   clear hs
   go_wp2
   go_ret2
   have:=Hs.out
   rw [List.drop_eq_nil_of_le (by have:=h.1;omega)] at this
   exact ⟨z5q (by rw [← this];rfl) (by rw [← this];rfl),rfl⟩
def z3k (n:Int):Bool:=decide (0≤n) && decide (n≤1000000000)
theorem z5z (n:Int) (w:World):Calls Tryz.prog 56 #[.int .i64 n] w fun e w'=>e = .returned (.bool (z3k n))∧w=w':=by
 go_enter Tryz.func56,Tryz.ntmps56
 go_wp2
 all_goals (go_ret;refine ⟨z03 ?_,rfl⟩;unfold z3k;(simp;omega))
theorem z07d (xs:List Int) (A:Option Addr) (n c:Nat) (w:World) (F:Nat→Prop) (h:Rds shInt w F xs A n c) :
  Calls Tryz.prog 125 #[.slice A n c] w fun e w'=>e = .returned (.tuple #[.int .i64 (z3c xs).1,.int .i64 (z3c xs).2])∧w=w':=by
 have hn:=h.2.1
 have hc:=h.2.2.1
 go_enter Tryz.func125,Tryz.ntmps125
 go_wp2
 go_loop [4,9] (fun a i=>∃ (k:Nat) (aa:Int),k≤n∧i = .int .i64 k∧a = .int .i64 aa∧0≤aa∧aa≤1000000000∧z9b (xs.drop k) aa=z3c xs) (fun _ i=>n - (intOf i).toNat)
 case atStart=>exact ⟨0,0,by omega,rfl,rfl,by omega,by omega,rfl⟩
 case round =>
  obtain ⟨k,aa,hk,rfl,rfl,a0,a1,hs⟩:=hrel
  by_cases hlt:k<n
  ·obtain ⟨b,off,x,rfl,-,hx,hcell,x0,x1⟩:=h.int hlt
   rw [z1q hx,z9b] at hs
   have Hs:=Lib.hid hs
   clear hs hx h
   by_cases hv:0≤x∧x≤1000000000
   ·obtain ⟨v0,v1⟩:=hv
    have e:z3k x=true:=by simp [z3k,v0,v1]
    have E:=Lib.hid e
    clear e
    by_cases hf:1000000000<aa+x
    ·go_wp2_with (go_at_call 56;refine (z5z _ _).mono ?_;rintro e w' ⟨rfl,rfl⟩;rw [E.out])
     go_ret2
     have:=Hs.out
     rw [if_pos (by omega),if_pos (by omega)] at this
     exact ⟨z5q (by rw [← this]) (by rw [← this]),rfl⟩
    ·go_wp2_with (go_at_call 56;refine (z5z _ _).mono ?_;rintro e w' ⟨rfl,rfl⟩;rw [E.out])
     go_round
     case measure=>simp [intOf];omega
     case rel =>
      have:=Hs.out
      rw [if_pos (by omega),if_neg (by omega)] at this
      exact ⟨k+1,_,by omega,by go_num,rfl,by omega,by omega,this⟩
   ·have e:z3k x=false:=by simp [z3k];omega
    have E:=Lib.hid e
    clear e
    have Hv:=Lib.hid hv
    clear hv
    go_wp2_with (go_at_call 56;refine (z5z _ _).mono ?_;rintro e w' ⟨rfl,rfl⟩;rw [E.out])
    go_ret2
    have:=Hs.out
    rw [if_neg Hv.out] at this
    exact ⟨z5q (by rw [← this]) (by rw [← this]),rfl⟩
  ·obtain rfl:k=n:=by omega
   have Hs:=Lib.hid hs
   clear hs
   go_wp2
   go_ret2
   have:=Hs.out
   rw [List.drop_eq_nil_of_le (by have:=h.1;omega)] at this
   exact ⟨z5q (by rw [← this];rfl) (by rw [← this];rfl),rfl⟩
end
section
open Go.RowKit
set_option maxRecDepth 100000
theorem Rds.inn {w:World} {F:Nat→Prop} {xs:List In} {A:Option Addr} {n c k:Nat} (h:Rds shIn w F xs A n c) (hk:k<n) :
  ∃ b off x A' n' c',A=some ⟨b,off,none⟩∧F b∧xs[k]? = some x∧(w.cell? ⟨b,off+k * 3,none⟩=some (.int .i64 x.p.tx)∧w.cell? ⟨b,off+k * 3+1,none⟩=some (.int .i64 x.p.at_)∧w.cell? ⟨b,off+k * 3+2,none⟩=some (.slice A' n' c'))∧I64 x.p.tx∧I64 x.p.at_∧Rds shOp w F x.key A' n' c':=by
 obtain ⟨b,off,x,cs,e,hF,hx,hr,hc⟩:=h.at_ hk
 obtain ⟨A',n',c',rfl,h1,h2,h3⟩:=z06p hr
 exact ⟨b,off,x,A',n',c',e,hF,hx,⟨by simpa [shIn,shPoint,z3t,shInt,z0h] using hc 0 _ rfl,by simpa [shIn,shPoint,z3t,shInt,z0h] using hc 1 _ rfl,by simpa [shIn,shPoint,z3t,shInt,z0h] using hc 2 _ rfl⟩,h1,h2,h3⟩
theorem Rds.out_ {w:World} {F:Nat→Prop} {xs:List Out} {A:Option Addr} {n c k:Nat} (h:Rds shOut w F xs A n c) (hk:k<n) :
  ∃ b off x A' n' c',A=some ⟨b,off,none⟩∧F b∧xs[k]? = some x∧(w.cell? ⟨b,off+k * 2,none⟩=some (.int .i64 x.coin)∧w.cell? ⟨b,off+k * 2+1,none⟩=some (.slice A' n' c'))∧I64 x.coin∧Rds shOp w F x.lock A' n' c':=by
 obtain ⟨b,off,x,cs,e,hF,hx,hr,hc⟩:=h.at_ hk
 obtain ⟨A',n',c',rfl,h1,h2⟩:=z02q hr
 exact ⟨b,off,x,A',n',c',e,hF,hx,⟨by simpa [shOut,z3t,shInt,z0h] using hc 0 _ rfl,by simpa [shOut,z3t,shInt,z0h] using hc 1 _ rfl⟩,h1,h2⟩
theorem z04e (y:In) (A:Option Addr) (n c g:Nat) (x:In) (w:World) (h0:w.cell? ⟨g,0,none⟩=some (.int .i64 x.p.tx)) (h1:w.cell? ⟨g,1,none⟩=some (.int .i64 x.p.at_)) (hg:g<w.heap.size) :
  Calls Tryz.prog 133 #[.agg #[.int .i64 y.p.tx,.int .i64 y.p.at_,.slice A n c],.pointer (some ⟨g,0,none⟩)] w fun e w'=>e = .returned (.bool (decide (y.p=x.p)))∧Below w.heap.size w w':=by
 have hb:Below w.heap.size w (w.alloc (.cells #[.int .i64 y.p.tx,.int .i64 y.p.at_,.slice A n c] 97)):=(Below.refl _ _).alloc (Nat.le_refl _) _
 have HB:=Lib.hid hb
 have g0:(w.alloc (.cells #[.int .i64 y.p.tx,.int .i64 y.p.at_,.slice A n c] 97)).cell? ⟨g,0,none⟩=some (.int .i64 x.p.tx):=by rw [World.cell?_alloc_lt w _ _ hg];exact h0
 have g1:(w.alloc (.cells #[.int .i64 y.p.tx,.int .i64 y.p.at_,.slice A n c] 97)).cell? ⟨g,1,none⟩=some (.int .i64 x.p.at_):=by rw [World.cell?_alloc_lt w _ _ hg];exact h1
 clear hb h0 h1
 obtain ⟨⟨yt,ya⟩,yk⟩:=y
 obtain ⟨⟨xt,xa⟩,xk⟩:=x
 simp only at g0 g1 HB ⊢
 by_cases e1:yt=xt
 ·subst e1
  by_cases e2:ya=xa
  ·subst e2
   go_enter Tryz.func133,Tryz.ntmps133
   go_wp2
   all_goals skip
   go_ret
   exact ⟨z03 (by simp),HB.out⟩
  ·go_enter Tryz.func133,Tryz.ntmps133
   go_wp2
   go_ret
   exact ⟨z03 (by simp [e2]),HB.out⟩
 ·go_enter Tryz.func133,Tryz.ntmps133
  go_wp2
  go_ret
  exact ⟨z03 (by simp [e1]),HB.out⟩
def z45 (xs:List In) (p:Point) (k:Nat):Int:=match xs with
 | [] => -1
 | y::l=>if y.p=p then k else z45 l p (k+1)
theorem zzm (xs:List In) (A:Option Addr) (n c g:Nat) (x:In) (w:World) (F:Nat→Prop) (h:Rds shIn w F xs A n c) (hF:∀ b,F b→b<w.heap.size) (h0:w.cell? ⟨g,0,none⟩=some (.int .i64 x.p.tx)) (h1:w.cell? ⟨g,1,none⟩=some (.int .i64 x.p.at_)) (hg:g<w.heap.size) :
  Calls Tryz.prog 206 #[.slice A n c,.func (.func 133) #[] #[.pointer (some ⟨g,0,none⟩)]] w fun e w'=>e = .returned (.int .i64 (z45 xs x.p 0))∧Below w.heap.size w w':=by
 have hn:=h.2.1
 have hc:=h.2.2.1
 have hl:=h.1
 have HR:=Lib.hid h
 have HLN:=Lib.hid hl
 have H0:=Lib.hid h0
 have H1:=Lib.hid h1
 clear h hl h0 h1
 go_enter Tryz.func206,Tryz.ntmps206
 go_wp2
 go_loopw [5,8] (fun _ i wr=>∃ k:Nat,k≤n∧i = .int .i64 k∧Below w.heap.size w wr∧z45 (xs.drop k) x.p k=z45 xs x.p 0) (fun _ i _=>n - (intOf i).toNat)
 case atStart=>exact ⟨0,by omega,rfl,Below.refl _ _,rfl⟩
 case round =>
  obtain ⟨k,hk,rfl,hb,hs⟩:=hrel
  by_cases hlt:k<n
  ·obtain ⟨b,off,y,A',n',c',rfl,hFb,hx,⟨hc1,hc2,hc3⟩,-,-,-⟩:=HR.out.inn hlt
   rw [z1q hx,z45] at hs
   rw [← hb.cell (p:=⟨b,off+k * 3,none⟩) (hF b hFb)] at hc1
   rw [← hb.cell (p:=⟨b,off+k * 3+1,none⟩) (hF b hFb)] at hc2
   rw [← hb.cell (p:=⟨b,off+k * 3+2,none⟩) (hF b hFb)] at hc3
   have HB:=Lib.hid hb
   have i1:(0:Int)≤(k:Int):=by omega
   have i2:(k:Int)<(n:Int):=by omega
   have hcall:=fun (W:World) (hW:Below w.heap.size w W)=>z04e y A' n' c' g x W (by rw [hW.cell (p:=⟨g,0,none⟩) hg];exact H0.out) (by rw [hW.cell (p:=⟨g,1,none⟩) hg];exact H1.out) (Nat.lt_of_lt_of_le hg hW.size)
   have HC:=Lib.hid hcall
   clear hx hb hcall
   by_cases hy:y.p=x.p
   ·rw [if_pos hy] at hs
    have HS:=Lib.hid hs
    have hd:decide (y.p=x.p)=true:=by simpa using hy
    have HD:=Lib.hid hd
    clear hs hy hd
    go_wp2_with (go_at_call 133;refine (HC.out _ HB.out).mono ?_;rintro e w2 ⟨rfl,hb2⟩;rw [HD.out])
    go_ret
    exact ⟨zi HS.out,HB.out.trans (hb2.mono HB.out.size)⟩
   ·rw [if_neg hy] at hs
    have HS:=Lib.hid hs
    have hd:decide (y.p=x.p)=false:=by simpa using hy
    have HD:=Lib.hid hd
    clear hs hy hd
    go_wp2_with (go_at_call 133;refine (HC.out _ HB.out).mono ?_;rintro e w2 ⟨rfl,hb2⟩;rw [HD.out])
    go_roundw
    case measure=>simp [intOf];omega
    case rel=>exact ⟨k+1,by omega,by go_num,HB.out.trans (hb2.mono HB.out.size),HS.out⟩
  ·obtain rfl:k=n:=by omega
   rw [List.drop_eq_nil_of_le (by rw [HLN.out];omega),z45] at hs
   have HS:=Lib.hid hs
   clear hs
   go_wp2
   go_ret
   exact ⟨zi HS.out,hb⟩
theorem zlr (xs:List In) (A:Option Addr) (n c g:Nat) (x:In) (w:World) (F:Nat→Prop) (h:Rds shIn w F xs A n c) (hF:∀ b,F b→b<w.heap.size) (h0:w.cell? ⟨g,0,none⟩=some (.int .i64 x.p.tx)) (h1:w.cell? ⟨g,1,none⟩=some (.int .i64 x.p.at_)) (hg:g<w.heap.size) :
  Calls Tryz.prog 132 #[.slice A n c,.func (.func 133) #[] #[.pointer (some ⟨g,0,none⟩)]] w fun e w'=>e = .returned (.bool (decide (0≤z45 xs x.p 0)))∧Below w.heap.size w w':=by
 have HC:=Lib.hid (zzm xs A n c g x w F h hF h0 h1 hg)
 clear h hF h0 h1 hg
 generalize z45 xs x.p 0=j at HC ⊢
 go_enter Tryz.func132,Tryz.ntmps132
 go_wp2_with fail
 refine HC.out.mono ?_
 rintro e w1 ⟨rfl,hb⟩
 rcases Classical.em (0≤j) with hj|hj
 ·go_wp2_with fail
  go_ret
  exact ⟨z03 (by simp [hj]),hb⟩
 ·go_wp2_with fail
  go_ret
  exact ⟨z03 (by (simp;done)),hb⟩
def z3d (x:In):Int:=if x.p.tx<1∨120<x.p.tx∨x.p.at_<0∨6≤x.p.at_ then 3 else z8 x.key
def z0s:List In→List In→Int
 | [],_=>0
 | x::l,seen=>if z3d x≠0 then z3d x else if 0≤z45 seen x.p 0 then 6 else z0s l (seen++[x])
def z3v (x:Out):Int:=if x.coin<1 then 3 else z8 x.lock
def z0l:List Out→Int
 | []=>0
 | x::l=>if z3v x≠0 then z3v x else z0l l
def z1l (t:Tx):Int:=if 6<t.ins.length∨6<t.outs.length then 2 else if t.outs.length=0 then 4 else if (t.ins.length=0∧(t.height<1∨1000<t.height))∨(0<t.ins.length∧t.height≠0) then 3 else 0
def zb (t:Tx):Int:=if z1l t≠0 then z1l t else if z0s t.ins []≠0 then z0s t.ins [] else if z0l t.outs≠0 then z0l t.outs else (z3c (t.outs.map Out.coin)).2
set_option maxHeartbeats 1000000 in
theorem zcb (t:Tx) (cs:List Value) (w:World) (F:Nat→Prop) (h:shTx.rep w F t cs) (hF:∀ b,F b→b<w.heap.size) :
  Calls Tryz.prog 60 #[.agg cs.toArray] w fun e w'=>e = .returned (.int .i64 (zb t))∧Below w.heap.size w w':=by
 obtain ⟨A1,n1,c1,A2,n2,c2,rfl,hh,hi,ho⟩:=zrs h
 obtain ⟨th,ins,outs⟩:=t
 simp only at hi ho hh ⊢
 have hl1:=hi.1
 have hn1:=hi.2.1
 have hc1:=hi.2.2.1
 have hl2:=ho.1
 have hn2:=ho.2.1
 have hc2:=ho.2.2.1
 have HI:=Lib.hid hi
 have HO:=Lib.hid ho
 have hB:=(Below.refl w.heap.size w).alloc (Nat.le_refl _) (.cells #[.int .i64 th,.slice A1 n1 c1,.slice A2 n2 c2] 56)
 have hblk:=heap_alloc_new w (.cells #[.int .i64 th,.slice A1 n1 c1,.slice A2 n2 c2] 56)
 have HB:=Lib.hid hB
 have HK:=Lib.hid hblk
 clear hi ho h hh hB hblk
 by_cases h0:z1l ⟨th,ins,outs⟩=0
 ·simp only [z1l] at h0
  rw [hl1,hl2] at h0
  have a1:¬ (6<n1∨6<n2):=fun e=>by rw [if_pos e] at h0;cases h0
  rw [if_neg a1] at h0
  have a2:¬ n2=0:=fun e=>by rw [if_pos e] at h0;cases h0
  rw [if_neg a2] at h0
  have a3:¬ ((n1=0∧(th<1∨1000<th))∨(0<n1∧th≠0)):=fun e=>by rw [if_pos e] at h0;cases h0
  have e:zb ⟨th,ins,outs⟩=if z0s ins []≠0 then z0s ins [] else if z0l outs≠0 then z0l outs else (z3c (outs.map Out.coin)).2:=by
   have:¬ z1l ⟨th,ins,outs⟩≠0:=by simp only [z1l];rw [hl1,hl2,if_neg a1,if_neg a2,if_neg a3];decide
   simp only [zb];rw [if_neg this]
  obtain ⟨R,hR⟩:∃ R,R=if z0s ins []≠0 then z0s ins [] else if z0l outs≠0 then z0l outs else (z3c (outs.map Out.coin)).2:=⟨_,rfl⟩
  rw [e,← hR]
  have R1:=Lib.hid (show ∀ v,v=z0s ins []→v≠0→v=R from fun v hv h=>by rw [hR,← hv,if_pos h])
  have R2:=Lib.hid (show z0s ins []=0→∀ v,v=z0l outs→v≠0→v=R from fun h0 v hv h=>by rw [hR,h0,← hv,if_neg (by decide),if_pos h])
  have R3:=Lib.hid (show z0s ins []=0→z0l outs=0→(z3c (outs.map Out.coin)).2=R from fun h0 h1=>by rw [hR,h0,h1,if_neg (by decide),if_neg (by decide)])
  clear hR
  have m1:n1≤6:=by omega
  have m2:n2≤6:=by omega
  have m3:0<n2:=by omega
  have L1:=Lib.hid hl1
  have L2:=Lib.hid hl2
  clear e h0 a1 a2 hl1 hl2 hn1 hn2 hc1 hc2
  obtain ⟨i0,zv,hi,hz0,hz1,hz2,hz3⟩:=zo0
  have hi1:=HI.out.2.1
  have hi2:=HI.out.2.2.1
  have ho1:=HO.out.2.1
  have ho2:=HO.out.2.2.1
  go_enter Tryz.func60,Tryz.ntmps60
  rcases (show (n1=0∧¬ th<1∧¬ 1000<th)∨(0<n1∧th=0) by omega) with ⟨g1,g2,g3⟩|⟨g1,g2⟩
  case' inl =>
   have q1:((n1:Int) == 0)=true:=by simp [g1]
   have q4:¬ (0:Int)<(n1:Int):=by omega
   clear a3 g1
   go_wp2
   rename_i z0 z1 z2 z3
   clear z1 z0
  case' inr =>
   have q1:((n1:Int) == 0)=false:=by simp;omega
   have q4:(0:Int)<(n1:Int):=by omega
   have q5:(th != 0)=false:=by simp [g2]
   clear a3 g1 g2
   go_wp2
  all_goals (
   go_loopw [3,4,5,54] (fun _ _ _ i wr=>∃ k:Nat,k≤n1∧i = .int .i64 k∧Below w.heap.size w wr∧wr.heap[w.heap.size]? = some (.cells #[.int .i64 th,.slice A1 n1 c1,.slice A2 n2 c2] 56 (0,0))∧z0s (ins.drop k) (ins.take k)=z0s ins []) (fun _ _ _ i _=>n1 - (intOf i).toNat)
   case atStart=>exact ⟨0,by omega,rfl,HB.out,HK.out,rfl⟩
   case round =>
    obtain ⟨k,hk,rfl,hb,hbox,hs⟩:=hrel
    have Hb:=Lib.hid hb
    have Hbox:=Lib.hid hbox
    have hwz:=zjm hbox
    clear hb hbox q1 q4
    rcases Classical.em (k<n1) with hlt|hlt
    ·obtain ⟨b,off,x,A',n',c',rfl,hFb,hx,⟨hc1,hc2,hc3⟩,-,-,hrk⟩:=HI.out.inn hlt
     have hbx:=z3u (i:=1) Hbox.out
     have hFw:=hF b hFb
     rw [← Hb.out.cell (p:=⟨b,off+k * 3,none⟩) hFw] at hc1
     rw [← Hb.out.cell (p:=⟨b,off+k * 3+1,none⟩) hFw] at hc2
     rw [← Hb.out.cell (p:=⟨b,off+k * 3+2,none⟩) hFw] at hc3
     rw [z1q hx,z0s] at hs
     have HT:=Lib.hid (z0t hx)
     have HW:=Lib.hid (Hb.out.alloc Hb.out.size (.cells #[.int .i64 x.p.tx,.int .i64 x.p.at_,.slice A' n' c'] 97))
     have HRK:=Lib.hid ((hrk.keep ((Agree.below HW.out).mono hF)).more (F':=Lt (wr.alloc (.cells #[.int .i64 x.p.tx,.int .i64 x.p.at_,.slice A' n' c'] 97)).heap.size) fun b hb=>by have:=hF b hb;show b<_;simp;omega)
     have HBX:=Lib.hid (z50 (g:=w.heap.size) Hbox.out ((Below.refl wr.heap.size wr).alloc (Nat.le_refl _) (.cells #[.int .i64 x.p.tx,.int .i64 x.p.at_,.slice A' n' c'] 97)) hwz)
     have HNW:=Lib.hid (heap_alloc_new wr (.cells #[.int .i64 x.p.tx,.int .i64 x.p.at_,.slice A' n' c'] 97))
     have i1:(0:Int)≤(k:Int):=by omega
     have i2:(k:Int)<(n1:Int):=by omega
     clear hx hrk hFb
     by_cases hp:x.p.tx<1∨120<x.p.tx∨x.p.at_<0∨6≤x.p.at_
     ·have e:z3d x=3:=by simp only [z3d];rw [if_pos hp]
      rw [e,if_pos (by decide)] at hs
      have HS:=Lib.hid (R1.out 3 hs (by decide))
      clear e hs
      obtain ⟨⟨xt,xa⟩,xk⟩:=x
      simp only at hc1 hc2 hp HW
      rcases Classical.em (xt<1) with p1|p1
      ·clear hp
       go_wp2_with fail
       go_ret
       exact ⟨zi HS.out,HW.out⟩
      ·rcases Classical.em (120<xt) with p2|p2
       ·clear hp
        go_wp2_with fail
        go_ret
        exact ⟨zi HS.out,HW.out⟩
       ·rcases Classical.em (xa<0) with p3|p3
        ·clear hp
         go_wp2_with fail
         go_ret
         exact ⟨zi HS.out,HW.out⟩
        ·have p4:6≤xa:=by omega
         clear hp
         go_wp2_with fail
         go_ret
         exact ⟨zi HS.out,HW.out⟩
     ·have e:z3d x=z8 x.key:=by simp only [z3d];rw [if_neg hp]
      rw [e] at hs
      have p1:¬ x.p.tx<1:=by omega
      have p2:¬ 120<x.p.tx:=by omega
      have p3:¬ x.p.at_<0:=by omega
      have p4:¬ 6≤x.p.at_:=by omega
      have HS:=Lib.hid hs
      clear e hp hs
      go_wp2_with fail
      generalize hW1:wr.alloc (.cells #[.int .i64 x.p.tx,.int .i64 x.p.at_,.slice A' n' c'] 97)=W1 at HW HRK HBX HNW ⊢
      have hsW:wr.heap.size<W1.heap.size:=by rw [← hW1];simp
      clear hW1
      refine (z9u _ _ _ _ _ _ HRK.out (fun b hb=>hb)).mono ?_
      rintro e w2 ⟨rfl,hb2⟩
      have HW2:=Lib.hid (HW.out.trans (hb2.mono HW.out.size))
      have HBX2:=Lib.hid (z50 HBX.out hb2 (by omega))
      have HNW2:=Lib.hid (z50 HNW.out hb2 hsW)
      have hz2':=hb2.size
      clear hb2 HW HRK HBX HNW
      by_cases he:z8 x.key=0
      ·rw [he]
       have hs:=HS.out
       rw [he,if_neg (by decide)] at hs
       clear HS he
       have hbx2:=z3u (i:=1) HBX2.out
       go_wp2_with fail
       refine (zlr (ins.take k) _ k _ wr.heap.size x w2 (Lt w2.heap.size) (((HI.out.take (by omega)).keep ((Agree.below HW2.out).mono hF)).more fun b hb=>by have:=hF b hb;have:=HW2.out.size;show b<_;omega) (fun b hb=>hb) (by rw [z3u HNW2.out];rfl) (by rw [z3u HNW2.out];rfl) (by omega)).mono ?_
       rintro e w3 ⟨rfl,hb3⟩
       have HW3:=Lib.hid (HW2.out.trans (hb3.mono HW2.out.size))
       have HBX3:=Lib.hid (z50 HBX2.out hb3 (by omega))
       clear hb3 HW2 HBX2 HNW2 hbx2
       by_cases hx:0≤z45 (ins.take k) x.p 0
       ·rw [if_pos hx] at hs
        have hd:decide (0≤z45 (ins.take k) x.p 0)=true:=by simpa using hx
        rw [hd]
        have HS:=Lib.hid (R1.out 6 hs (by decide))
        clear hd hx hs
        go_wp2_with fail
        go_ret
        exact ⟨zi HS.out,HW3.out⟩
       ·rw [if_neg hx] at hs
        have hd:decide (0≤z45 (ins.take k) x.p 0)=false:=by simpa using hx
        rw [hd]
        have HS:=Lib.hid hs
        clear hd hx hs
        go_wp2_with fail
        go_roundw
        case measure=>simp [intOf];omega
        case rel=>exact ⟨k+1,by omega,by go_num,HW3.out,HBX3.out,by rw [HT.out];exact HS.out⟩
      ·have hs:=HS.out
       rw [if_pos he] at hs
       have hd:(z8 x.key != 0)=true:=by simpa using he
       have HS':=Lib.hid (R1.out _ hs he)
       clear HS he hs
       go_wp2_with fail
       go_ret
       exact ⟨zi HS'.out,HW2.out⟩
    ·obtain rfl:n1=k:=by omega
     rw [List.drop_eq_nil_of_le (by rw [L1.out];omega),z0s] at hs
     have HS:=Lib.hid hs.symm
     have hbx:=z3u (i:=2) Hbox.out
     clear hs
     go_wp2_with fail
     go_loopw [6,8,9,97] (fun o _ _ i wr=>∃ k:Nat,k≤n2∧i = .int .i64 k∧Below w.heap.size w wr∧w.heap.size<wr.heap.size∧wr.ownsRow (w.heap.size+1) 3 1 o k (((outs.take k).map Out.coin).map (Value.int .i64))∧(∀ y ∈ outs.take k,I64 y.coin)∧z0l (outs.drop k)=z0l outs) (fun _ _ _ i _=>n2 - (intOf i).toNat)
     case atStart=>exact ⟨0,by omega,rfl,Hb.out,hwz,World.ownsRow_nil _ _ _ _,by simp,rfl⟩
     case round =>
      obtain ⟨k,hk,rfl,hb,hwq,hown,hob,hs'⟩:=hrel
      rcases Classical.em (k<n2) with hlt2|hlt2
      ·obtain ⟨b,off,x,A',n',c',rfl,hFb,hx,⟨hc1,hc2⟩,xi,hrk⟩:=HO.out.out_ hlt2
       have hFw:=hF b hFb
       rw [← hb.cell (p:=⟨b,off+k * 2,none⟩) hFw] at hc1
       rw [← hb.cell (p:=⟨b,off+k * 2+1,none⟩) hFw] at hc2
       rw [z1q hx,z0l] at hs'
       have HT:=Lib.hid (z0t hx)
       have hW:=hb.alloc hb.size (.cells #[.int .i64 x.coin,.slice A' n' c'] 100)
       have HW:=Lib.hid hW
       have HRK:=Lib.hid ((hrk.keep ((Agree.below hW).mono hF)).more (F':=Lt (wr.alloc (.cells #[.int .i64 x.coin,.slice A' n' c'] 100)).heap.size) fun b hb=>by have:=hF b hb;show b<_;simp;omega)
       have HNW:=Lib.hid (heap_alloc_new wr (.cells #[.int .i64 x.coin,.slice A' n' c'] 100))
       have HOW:=Lib.hid (zfh hown ((Below.refl wr.heap.size wr).alloc (Nat.le_refl _) (.cells #[.int .i64 x.coin,.slice A' n' c'] 100)))
       have HOB:=Lib.hid hob
       have i1:(0:Int)≤(k:Int):=by omega
       have i2:(k:Int)<(n2:Int):=by omega
       clear hx hrk hFb hW hown hob hb
       by_cases hp:x.coin<1
       ·have e:z3v x=3:=by simp only [z3v];rw [if_pos hp]
        rw [e,if_pos (by decide)] at hs'
        have HS2:=Lib.hid (R2.out HS.out 3 hs' (by decide))
        clear e hs'
        go_wp2_with fail
        go_ret
        exact ⟨zi HS2.out,HW.out⟩
       ·have e:z3v x=z8 x.lock:=by simp only [z3v];rw [if_neg hp]
        rw [e] at hs'
        have HS2:=Lib.hid hs'
        clear e hs'
        go_wp2_with fail
        generalize hW1:wr.alloc (.cells #[.int .i64 x.coin,.slice A' n' c'] 100)=W1 at HW HRK HNW HOW ⊢
        have hsW:wr.heap.size<W1.heap.size:=by rw [← hW1];simp
        clear hW1
        refine (z9u _ _ _ _ _ _ HRK.out (fun b hb=>hb)).mono ?_
        rintro e w2 ⟨rfl,hb2⟩
        have HW2:=Lib.hid (HW.out.trans (hb2.mono HW.out.size))
        have HNW2:=Lib.hid (z50 HNW.out hb2 hsW)
        have HOW2:=Lib.hid (zfh HOW.out hb2)
        have hz2':=hb2.size
        clear hb2 HW HRK HNW HOW
        by_cases he:z8 x.lock=0
        ·rw [he]
         have hs:=HS2.out
         rw [he,if_neg (by decide)] at hs
         have HS3:=Lib.hid hs
         clear HS2 he hs
         have hcx:=z3u (i:=0) HNW2.out
         go_wp2_with (at_builtin;refine wpList_append_own_at _ rfl _ _ 38 rfl (w.heap.size+1) 3 i0 zv 1 8 Tryz.underlying38 hi hz0 hz1 hz2 hz3 (by omega) _ k (((outs.take k).map Out.coin).map (Value.int .i64)) rfl (HOW2.out.alloc _) ⟨w2.heap.size,0,none⟩ 1 1 [.int .i64 x.coin] rfl rfl (cell_one_new _ _ _) (by intro u hu;simp at hu;subst hu;rfl) (by unfold maxLen;omega) (by omega) (by simp;omega) ?_;intro v5 w5 hown5 hgr5 _ hob5)
         have hgr:(w2.alloc (.cells #[.int .i64 x.coin] 3)).grownBy w5 u6.ownBlock:=hgr5
         have hge:=fun k hk=>zjl HOW2.out (k:=k) hk
         go_roundw
         case measure=>simp [intOf];omega
         case rel =>
          have hs5:=hgr.size
          simp only [World.size_alloc] at hs5
          refine ⟨k+1,by omega,by go_num,(HW2.out.alloc HW2.out.size _).grown hgr (by have:=HW2.out.size;simp;omega) (fun k hk=>by have:=hge _ hk;omega),by omega,by rw [HT.out,List.map_append,List.map_append];exact hown5,?_,HS3.out⟩
          intro y hy
          rw [HT.out] at hy
          rcases List.mem_append.1 hy with h|h
          ·exact HOB.out y h
          ·simp at h;subst h;exact xi
        ·have hs:=HS2.out
         rw [if_pos he] at hs
         have hd:(z8 x.lock != 0)=true:=by simpa using he
         have HS3:=Lib.hid (R2.out HS.out _ hs he)
         clear HS2 he hs
         go_wp2_with fail
         go_ret
         exact ⟨zi HS3.out,HW2.out⟩
      ·obtain rfl:n2=k:=by omega
       rw [List.drop_eq_nil_of_le (by rw [L2.out];omega),z0l] at hs'
       have HS2:=Lib.hid (R3.out HS.out hs'.symm)
       rw [List.take_of_length_le (by rw [L2.out];omega)] at hown hob
       have HBq:=Lib.hid hb
       obtain ⟨A',c',ev,hri⟩:=Rds.of_own_int hown (fun x hx=>by obtain ⟨y,hy,rfl⟩:=List.mem_map.1 hx;exact hob y hy)
       subst ev
       have HRI:=Lib.hid hri
       clear hs' hown hob hb hri
       go_wp2_with fail
       refine (z0dl _ _ _ _ _ _ HRI.out).mono ?_
       rintro e w2 ⟨rfl,rfl⟩
       go_wp2_with fail
       go_ret
       exact ⟨zi HS2.out,HBq.out⟩)
 ·have e:zb ⟨th,ins,outs⟩=z1l ⟨th,ins,outs⟩:=by simp only [zb];rw [if_pos h0]
  rw [e]
  clear e
  by_cases a1:6<n1∨6<n2
  ·have e:z1l ⟨th,ins,outs⟩=2:=by simp only [z1l];rw [if_pos (by rw [hl1,hl2];exact a1)]
   rw [e]
   clear e h0 hl1 hl2
   by_cases a:6<n1
   ·clear a1
    go_enter Tryz.func60,Tryz.ntmps60
    go_wp2
    go_ret
    exact ⟨rfl,HB.out⟩
   ·have a2:6<n2:=by omega
    clear a1
    go_enter Tryz.func60,Tryz.ntmps60
    go_wp2
    go_ret
    exact ⟨rfl,HB.out⟩
  ·by_cases a2:n2=0
   ·have e:z1l ⟨th,ins,outs⟩=4:=by simp only [z1l];rw [if_neg (by rw [hl1,hl2];exact a1),if_pos (by rw [hl2];exact a2)]
    rw [e]
    subst a2
    clear e h0 hl1 hl2
    go_enter Tryz.func60,Tryz.ntmps60
    go_wp2
    go_ret
    exact ⟨rfl,HB.out⟩
   ·have a3:(n1=0∧(th<1∨1000<th))∨(0<n1∧th≠0):=by
     apply Classical.byContradiction
     intro a3
     exact h0 (by simp only [z1l];rw [if_neg (by rw [hl1,hl2];exact a1),if_neg (by rw [hl2];exact a2),if_neg (by rw [hl1];exact a3)])
    have e:z1l ⟨th,ins,outs⟩=3:=by simp only [z1l];rw [if_neg (by rw [hl1,hl2];exact a1),if_neg (by rw [hl2];exact a2),if_pos (by rw [hl1];exact a3)]
    rw [e]
    have a4:0<n2:=by omega
    clear e h0 hl1 hl2 a2
    rcases a3 with ⟨rfl,a3⟩|⟨a3,a5⟩
    ·rcases Classical.em (th<1) with a5|a5
     ·clear a3
      go_enter Tryz.func60,Tryz.ntmps60
      go_wp2
      go_ret
      exact ⟨rfl,HB.out⟩
     ·have a6:1000<th:=by omega
      clear a3
      go_enter Tryz.func60,Tryz.ntmps60
      go_wp2
      go_ret
      exact ⟨rfl,HB.out⟩
    ·have a6:(th != 0)=true:=by simpa using a5
     clear a5
     go_enter Tryz.func60,Tryz.ntmps60
     go_wp2
     go_ret
     exact ⟨rfl,HB.out⟩
end
section
open Go.RowKit
set_option maxRecDepth 100000
theorem Rds.tx {w:World} {F:Nat→Prop} {xs:List Tx} {A:Option Addr} {n c k:Nat} (h:Rds shTx w F xs A n c) (hk:k<n) :
  ∃ b off x A1 n1 c1 A2 n2 c2,A=some ⟨b,off,none⟩∧F b∧xs[k]? = some x∧(w.cell? ⟨b,off+k * 3,none⟩=some (.int .i64 x.height)∧w.cell? ⟨b,off+k * 3+1,none⟩=some (.slice A1 n1 c1)∧w.cell? ⟨b,off+k * 3+2,none⟩=some (.slice A2 n2 c2))∧shTx.rep w F x [.int .i64 x.height,.slice A1 n1 c1,.slice A2 n2 c2]∧I64 x.height∧x.ins.length=n1:=by
 obtain ⟨b,off,x,cs,e,hF,hx,hr,hc⟩:=h.at_ hk
 have hr':=hr
 obtain ⟨A1,n1,c1,A2,n2,c2,rfl,h1,h2,h3⟩:=zrs hr
 exact ⟨b,off,x,A1,n1,c1,A2,n2,c2,e,hF,hx,⟨by simpa [shTx,zhw,z3t,shInt,z0h] using hc 0 _ rfl,by simpa [shTx,zhw,z3t,shInt,z0h] using hc 1 _ rfl,by simpa [shTx,zhw,z3t,shInt,z0h] using hc 2 _ rfl⟩,hr',h1,h2.1⟩
def z2q (b:Block):Prop:=b.parent<0∨120<b.parent∨b.height<1∨1000<b.height∨b.work<1∨1000<b.work∨b.nonce<0∨1000000000<b.nonce
instance (b:Block):Decidable (z2q b):=by unfold z2q;infer_instance
def z41 (b:Block):Int:=if z2q b then 3 else if 4<b.txs.length then 2 else if b.txs.length=0 then 4 else 0
def z2l (h:Int) (t:Tx) (i:Nat):Prop:=¬ (t.ins.length=0↔i=0)∨(i=0∧t.height≠h)
instance (h:Int) (t:Tx) (i:Nat):Decidable (z2l h t i):=by unfold z2l;infer_instance
def z2w (h:Int):List Tx→Nat→Int
 | [],_=>0
 | t::l,i=>if zb t≠0 then zb t else if z2l h t i then 4 else z2w h l (i+1)
def ze (b:Block):Int:=if z41 b≠0 then z41 b else z2w b.height b.txs 0
set_option maxHeartbeats 1000000 in
theorem zcu (x:Block) (cs:List Value) (w:World) (F:Nat→Prop) (h:shBlock.rep w F x cs) (hF:∀ b,F b→b<w.heap.size) :
  Calls Tryz.prog 15 #[.agg cs.toArray] w fun e w'=>e = .returned (.int .i64 (ze x))∧Below w.heap.size w w':=by
 obtain ⟨A,n,c,rfl,i1,i2,i3,i4,hr⟩:=zno h
 obtain ⟨bp,bh,bw,bn,txs⟩:=x
 simp only at hr i1 i2 i3 i4 ⊢
 have hl:=hr.1
 have hn:=hr.2.1
 have hc:=hr.2.2.1
 have HR:=Lib.hid hr
 have HB:=Lib.hid ((Below.refl w.heap.size w).alloc (Nat.le_refl _) (.cells #[.int .i64 bp,.int .i64 bh,.int .i64 bw,.int .i64 bn,.slice A n c] 24))
 have HK:=Lib.hid (heap_alloc_new w (.cells #[.int .i64 bp,.int .i64 bh,.int .i64 bw,.int .i64 bn,.slice A n c] 24))
 clear hr h
 by_cases h0:z2q ⟨bp,bh,bw,bn,txs⟩
 ·have e:ze ⟨bp,bh,bw,bn,txs⟩=3:=by simp only [ze,z41];rw [if_pos h0];rfl
  rw [e]
  unfold z2q at h0
  simp only at h0
  clear e hl
  rcases Classical.em (bp<0) with p1|p1
  ·clear h0
   go_enter Tryz.func15,Tryz.ntmps15
   go_wp2
   go_ret
   exact ⟨rfl,HB.out⟩
  rcases Classical.em (120<bp) with p2|p2
  ·clear h0
   go_enter Tryz.func15,Tryz.ntmps15
   go_wp2
   go_ret
   exact ⟨rfl,HB.out⟩
  rcases Classical.em (bh<1) with p3|p3
  ·clear h0
   go_enter Tryz.func15,Tryz.ntmps15
   go_wp2
   go_ret
   exact ⟨rfl,HB.out⟩
  rcases Classical.em (1000<bh) with p4|p4
  ·clear h0
   go_enter Tryz.func15,Tryz.ntmps15
   go_wp2
   go_ret
   exact ⟨rfl,HB.out⟩
  rcases Classical.em (bw<1) with p5|p5
  ·clear h0
   go_enter Tryz.func15,Tryz.ntmps15
   go_wp2
   go_ret
   exact ⟨rfl,HB.out⟩
  rcases Classical.em (1000<bw) with p6|p6
  ·clear h0
   go_enter Tryz.func15,Tryz.ntmps15
   go_wp2
   go_ret
   exact ⟨rfl,HB.out⟩
  rcases Classical.em (bn<0) with p7|p7
  ·clear h0
   go_enter Tryz.func15,Tryz.ntmps15
   go_wp2
   go_ret
   exact ⟨rfl,HB.out⟩
  ·have p8:1000000000<bn:=by omega
   clear h0
   go_enter Tryz.func15,Tryz.ntmps15
   go_wp2
   go_ret
   exact ⟨rfl,HB.out⟩
 ·have p:=h0
  unfold z2q at p
  simp only at p
  have p1:¬ bp<0:=by omega
  have p2:¬ 120<bp:=by omega
  have p3:¬ bh<1:=by omega
  have p4:¬ 1000<bh:=by omega
  have p5:¬ bw<1:=by omega
  have p6:¬ 1000<bw:=by omega
  have p7:¬ bn<0:=by omega
  have p8:¬ 1000000000<bn:=by omega
  clear p
  by_cases a1:4<n
  ·have e:ze ⟨bp,bh,bw,bn,txs⟩=2:=by simp only [ze,z41];rw [if_neg h0,hl,if_pos a1];rfl
   rw [e]
   clear e h0 hl
   go_enter Tryz.func15,Tryz.ntmps15
   go_wp2
   go_ret
   exact ⟨rfl,HB.out⟩
  ·by_cases a2:n=0
   ·have e:ze ⟨bp,bh,bw,bn,txs⟩=4:=by simp only [ze,z41];rw [if_neg h0,hl,if_neg a1,if_pos a2];rfl
    rw [e]
    subst a2
    clear e h0 hl a1
    go_enter Tryz.func15,Tryz.ntmps15
    go_wp2
    go_ret
    exact ⟨rfl,HB.out⟩
   ·have e:ze ⟨bp,bh,bw,bn,txs⟩=z2w bh txs 0:=by simp only [ze,z41];rw [if_neg h0,hl,if_neg a1,if_neg a2];rfl
    rw [e]
    have m1:n≤4:=by omega
    have m2:0<n:=by omega
    have HLN:=Lib.hid hl
    clear e h0 hl a1 a2
    go_enter Tryz.func15,Tryz.ntmps15
    go_wp2
    go_loopw [3,4,5,55] (fun _ _ _ i wr=>∃ k:Nat,k≤n∧i = .int .i64 k∧Below w.heap.size w wr∧wr.heap[w.heap.size]? = some (.cells #[.int .i64 bp,.int .i64 bh,.int .i64 bw,.int .i64 bn,.slice A n c] 24 (0,0))∧z2w bh (txs.drop k) k=z2w bh txs 0) (fun _ _ _ i _=>n - (intOf i).toNat)
    case atStart=>exact ⟨0,by omega,rfl,HB.out,HK.out,rfl⟩
    case round =>
     obtain ⟨k,hk,rfl,hb,hbox,hs⟩:=hrel
     have hwz:=zjm hbox
     rcases Classical.em (k<n) with hlt|hlt
     ·obtain ⟨b,off,x,A1,n1,c1,A2,n2,c2,rfl,hFb,hx,⟨hc1,hc2,hc3⟩,hrk,xi,xl⟩:=HR.out.tx hlt
      have hFw:=hF b hFb
      rw [← hb.cell (p:=⟨b,off+k * 3,none⟩) hFw] at hc1
      rw [← hb.cell (p:=⟨b,off+k * 3+1,none⟩) hFw] at hc2
      rw [← hb.cell (p:=⟨b,off+k * 3+2,none⟩) hFw] at hc3
      rw [z1q hx,z2w] at hs
      have hW:=hb.alloc hb.size (.cells #[.int .i64 x.height,.slice A1 n1 c1,.slice A2 n2 c2] 56)
      have HW:=Lib.hid hW
      have HRK:=Lib.hid (shTx.more (F':=Lt (wr.alloc (.cells #[.int .i64 x.height,.slice A1 n1 c1,.slice A2 n2 c2] 56)).heap.size) (fun b hb=>by have:=hF b hb;show b<_;simp;omega) (shTx.keep ((Agree.below hW).mono hF) hrk))
      have HBX:=Lib.hid (z50 (g:=w.heap.size) hbox ((Below.refl wr.heap.size wr).alloc (Nat.le_refl _) (.cells #[.int .i64 x.height,.slice A1 n1 c1,.slice A2 n2 c2] 56)) hwz)
      have HNW:=Lib.hid (heap_alloc_new wr (.cells #[.int .i64 x.height,.slice A1 n1 c1,.slice A2 n2 c2] 56))
      have i1':(0:Int)≤(k:Int):=by omega
      have i2':(k:Int)<(n:Int):=by omega
      have HS:=Lib.hid hs
      clear hx hrk hFb hb hbox hs hW
      go_wp2_with fail
      generalize hW1:wr.alloc (.cells #[.int .i64 x.height,.slice A1 n1 c1,.slice A2 n2 c2] 56)=W1 at HW HRK HBX HNW ⊢
      have hsW:wr.heap.size<W1.heap.size:=by rw [← hW1];simp
      clear hW1
      refine (zcb _ [_,_,_] _ _ HRK.out (fun b hb=>hb)).mono ?_
      rintro e w2 ⟨rfl,hb2⟩
      have HW2:=Lib.hid (HW.out.trans (hb2.mono HW.out.size))
      have HBX2:=Lib.hid (z50 HBX.out hb2 (by omega))
      have HNW2:=Lib.hid (z50 HNW.out hb2 hsW)
      clear hb2 HW HRK HBX HNW
      by_cases he:zb x=0
      ·rw [he]
       have hs:=HS.out
       rw [he,if_neg (by decide)] at hs
       clear HS he
       have b0:=z3u (i:=0) HNW2.out
       have b1:=z3u (i:=1) HNW2.out
       have b2:=z3u (i:=1) HBX2.out
       rcases Classical.em (k=0) with hk0|hk0
       ·have q1:((k:Int) == 0)=true:=by simp [hk0]
        rcases Classical.em (n1=0) with hn0|hn0
        ·have q2:((n1:Int) == 0)=true:=by simp [hn0]
         rcases Classical.em (x.height=bh) with hh|hh
         ·have q3:(x.height != bh)=false:=by simp [hh]
          rw [if_neg (by unfold z2l;rw [xl];simp [hk0,hn0,hh])] at hs
          have HS:=Lib.hid hs
          clear hs hk0 hn0 hh
          go_wp2_with fail
          go_roundw
          case measure=>simp [intOf];omega
          case rel=>exact ⟨k+1,by omega,by go_num,HW2.out,HBX2.out,HS.out⟩
         ·have q3:(x.height != bh)=true:=by simp [hh]
          rw [if_pos (by unfold z2l;exact .inr ⟨hk0,hh⟩)] at hs
          have HS:=Lib.hid hs
          clear hs hk0 hn0 hh
          go_wp2_with fail
          go_ret
          exact ⟨zi HS.out,HW2.out⟩
        ·have q2:((n1:Int) == 0)=false:=by simp;omega
         rw [if_pos (by unfold z2l;rw [xl];simp [hk0,hn0])] at hs
         have HS:=Lib.hid hs
         clear hs hk0 hn0
         go_wp2_with fail
         go_ret
         exact ⟨zi HS.out,HW2.out⟩
       ·have q1:((k:Int) == 0)=false:=by simp;omega
        rcases Classical.em (n1=0) with hn0|hn0
        ·have q2:((n1:Int) == 0)=true:=by simp [hn0]
         rw [if_pos (by unfold z2l;rw [xl];simp [hk0,hn0])] at hs
         have HS:=Lib.hid hs
         clear hs hk0 hn0
         go_wp2_with fail
         go_ret
         exact ⟨zi HS.out,HW2.out⟩
        ·have q2:((n1:Int) == 0)=false:=by simp;omega
         rw [if_neg (by unfold z2l;rw [xl];simp [hk0,hn0])] at hs
         have HS:=Lib.hid hs
         clear hs hk0 hn0
         go_wp2_with fail
         go_roundw
         case measure=>simp [intOf];omega
         case rel=>exact ⟨k+1,by omega,by go_num,HW2.out,HBX2.out,HS.out⟩
      ·have hs:=HS.out
       rw [if_pos he] at hs
       have hd:(zb x != 0)=true:=by simpa using he
       have HS':=Lib.hid hs
       clear HS he hs
       go_wp2_with fail
       go_ret
       exact ⟨zi HS'.out,HW2.out⟩
     ·obtain rfl:n=k:=by omega
      rw [List.drop_eq_nil_of_le (by rw [HLN.out];omega),z2w] at hs
      have HS:=Lib.hid hs
      clear hs
      go_wp2
      go_ret
      exact ⟨zi HS.out,hb⟩
end
section
open Go.RowKit
def Yl (P:Program) (w0:World) (F0:Nat→Prop) (Γ:List Res) (o:Oper) (a:Act) (v:Value):Prop:=∀ W,Sep w0 F0 Γ W→(execOp a.eval o).run P W = .ok (.value v) W
section
variable {P:Program} {w0 W:World} {F0:Nat→Prop} {Γ:List Res} {ops:Array Oper} {a:Act} {rest:List Oper} {o:Oper} {t:TypeId} {x y:Operand}
theorem Yl.pure {v:Value} (h:∀ W,(execOp a.eval o).run P W = .ok (.value v) W):Yl P w0 F0 Γ o a v:=fun W _=>h W
theorem Yl.move (ho:o.op = .move x):Yl P w0 F0 Γ o a (a.eval x):=fun W _=>by unfold execOp;simp only [ho];rfl
theorem Yl.assign (ho:o.op = .assign x):Yl P w0 F0 Γ o a (a.eval x):=fun W _=>by unfold execOp;simp only [ho];rfl
theorem Yl.load (ho:o.op = .load t x) {p:Addr} {v:Value} (hx:a.eval x = .pointer (some p)) (hr:∀ W,Sep w0 F0 Γ W→(loadVar t p).run P W = .ok v W):Yl P w0 F0 Γ o a v:=fun W hS=>by
 unfold execOp
 simp only [ho,Instr.loadAt,Instr.sureAddr,Sem.run_bind,Result.andThen_ok,Sem.run_pure,hx,hr W hS]
theorem Yl.load1b (ho:o.op = .load t x) {g j ty:Nat} {cs:List Value} {v:Value} (hx:a.eval x = .pointer (some ⟨g,j,none⟩)) (h1:OneT P t) (hm:At Γ (box g cs ty)) (hv:cs[j]? = some v):Yl P w0 F0 Γ o a v :=
 Yl.load ho hx fun W hS=>h1.load (by have:=hS.boxAt hm j v hv;rwa [Nat.zero_add] at this)
theorem Yl.loadNb (ho:o.op = .load t x) {g ty:Nat} {cs:List Value} (hx:a.eval x = .pointer (some ⟨g,0,none⟩)) (hm:At Γ (box g cs ty)) (h1:AggN P t cs.length):Yl P w0 F0 Γ o a (.agg cs.toArray) :=
 Yl.load ho hx fun W hS=>h1.load (hS.boxAt hm)
theorem Yl.load1c (ho:o.op = .load t x) {b q j:Nat} {cs:List Value} {v:Value} (hx:a.eval x = .pointer (some ⟨b,q+j,none⟩)) (h1:OneT P t) (hm:At Γ (cells b q cs)) (hv:cs[j]? = some v):Yl P w0 F0 Γ o a v :=
 Yl.load ho hx fun W hS=>h1.load (hS.cellsAt hm j v hv)
theorem Yl.load1z (ho:o.op = .load t x) {b q:Nat} {cs:List Value} {v:Value} (hx:a.eval x = .pointer (some ⟨b,q,none⟩)) (h1:OneT P t) (hm:At Γ (cells b q cs)) (hv:cs[0]? = some v):Yl P w0 F0 Γ o a v :=
 Yl.load ho hx fun W hS=>h1.load (hS.cellsAt hm 0 v hv)
theorem Yl.loadNz (ho:o.op = .load t x) {b q:Nat} {cs:List Value} (hx:a.eval x = .pointer (some ⟨b,q,none⟩)) (hm:At Γ (cells b q cs)) (h1:AggN P t cs.length):Yl P w0 F0 Γ o a (.agg cs.toArray) :=
 Yl.load ho hx fun W hS=>h1.load (hS.cellsAt hm)
theorem Sep.region (h:Sep w0 F0 Γ W) {id:Nat} {Q:Exit→Act→World→Prop} {l:List Oper} (hm:P.follows .mixedOrders=true) (hB:Region.lexB .any l.toArray=true)
  (k:wpQuiet P l.toArray (Sep w0 F0 Γ) (fun a'=>∀ W',Sep w0 F0 Γ W'→Q .normal a' W') l a):(Code.region id l.toArray true).wp P Q a W :=
 wp_region_quiet (C:=Sep w0 F0 Γ) hm hB h.drew (by simpa using k)
def z63 (late:List Nat) (listed:Array Bool):Bool:=late.any fun s=>listed.getD s false
def zgn (md:Region.Mode) (ops:Array Oper):Nat→Nat→Nat→Bool
 | 0,_,_=>false
 | n+1,s,i=>match ops[s]? with
  | some o=>o.after.any fun e=>Region.binds md e && (e.on == i || zgn md ops n e.on i)
  | none=>false
def zfs (md:Region.Mode) (ops:Array Oper) (late:List Nat) (i:Nat):Bool:=late.all fun s=>s != i && zgn md ops ops.size s i
def zm1 (md:Region.Mode) (ops:Array Oper) (listed:Array Bool):Bool:=(List.range ops.size).all fun j => !listed.getD j false || match ops[j]? with
 | some o=>o.after.all fun e => !Region.binds md e || listed.getD e.on false
 | none=>true
def zd0 (md:Region.Mode) (ops:Array Oper) (listed:Array Bool):Prop:=∀ j o,ops[j]? = some o→listed.getD j false=true→∀ e ∈ o.after,Region.binds md e=true→listed.getD e.on false=true
theorem z07n {md:Region.Mode} {ops:Array Oper} {listed:Array Bool} (h:zm1 md ops listed=true):zd0 md ops listed:=by
 intro j o hj hl e he hb
 have hlt:=(Array.getElem?_eq_some_iff.1 hj).1
 have:=(List.all_eq_true.1 h) j (List.mem_range.2 hlt)
 simp only [hl,hj,Bool.not_true,Bool.false_or] at this
 have h2:=Array.all_eq_true'.1 this e he
 simpa [hb] using h2
theorem z04o {md:Region.Mode} {ops:Array Oper} {listed:Array Bool} {j:Nat} (h:zd0 md ops listed) (hj:j ∈ Region.ready md ops listed):zd0 md ops (listed.setIfInBounds j true):=by
 obtain ⟨_,oj,hoj,hall⟩:=mem_ready.1 hj
 intro k o hk hl e he hb
 by_cases hjk:j=k
 ·subst hjk
  rw [hoj] at hk
  injection hk with hk
  subst hk
  exact getD_set_true (hall e he hb)
 ·rw [getD_set_ne false hjk] at hl
  exact getD_set_true (h k o hk hl e he hb)
theorem zft {md:Region.Mode} {ops:Array Oper} {listed:Array Bool} (h:zd0 md ops listed) {i:Nat}:∀ (n s:Nat),zgn md ops n s i=true→listed.getD s false=true→listed.getD i false=true
 | 0,s,hr,_=>by cases hr
 | n+1,s,hr,hl=>by
  unfold zgn at hr
  split at hr
  ·rename_i o ho
   obtain ⟨e,he,hb⟩:=Array.any_eq_true'.1 hr
   simp only [Bool.and_eq_true,Bool.or_eq_true,beq_iff_eq] at hb
   have h1:=h s o ho hl e he hb.1
   rcases hb.2 with h2|h2
   ·rw [← h2];exact h1
   ·exact zft h n e.on h2 h1
  ·cases hr
theorem z00j {md:Region.Mode} {ops:Array Oper} {listed:Array Bool} (h:zd0 md ops listed) {i s n:Nat} (hr:zgn md ops n s i=true) (hs:s ∈ Region.ready md ops listed):listed.getD i false=true:=by
 obtain ⟨_,o,ho,hall⟩:=mem_ready.1 hs
 cases n with
 | zero=>cases hr
 | succ n =>
  unfold zgn at hr
  simp only [ho] at hr
  obtain ⟨e,he,hb⟩:=Array.any_eq_true'.1 hr
  simp only [Bool.and_eq_true,Bool.or_eq_true,beq_iff_eq] at hb
  have h1:=hall e he hb.1
  rcases hb.2 with h2|h2
  ·rw [← h2];exact h1
  ·exact zft h n e.on h2 h1
theorem z0dr {listed:Array Bool} {i:Nat} (h:listed.getD i true=false):listed.getD i false=false:=by
 rcases Nat.lt_or_ge i listed.size with h'|h'
 ·simp [h'] at h ⊢;exact h
 ·simp [Array.getElem?_eq_none h'] at h
variable {md:Region.Mode} {Q:Exit→Act→World→Prop} {S:World→Prop} {late:List Nat}
def z3y (P:Program) (md:Region.Mode) (ops:Array Oper) (Q:Exit→Act→World→Prop) (S:World→Prop) (late:List Nat):Nat→Array Bool→Act→World→Prop
 | 0,listed,a,w=>Region.ready md ops listed=[]∧Q .normal a w
 | fuel+1,listed,a,w =>
  (Region.ready md ops listed=[]→Q .normal a w) ∧
  ∀ i ∈ Region.ready md ops listed,wpOp P ops Q i (fun a' w'=>(z63 late (listed.setIfInBounds i true)=false→S w')∧z3y P md ops Q S late fuel (listed.setIfInBounds i true) a' w') a w
theorem zkf:∀ (fuel:Nat) (listed:Array Bool) (a:Act) (w:World),z3y P md ops Q S late fuel listed a w→wpAny P md ops Q fuel listed a w
 | 0,_,_,_,h=>h
 | fuel+1,_,_,_,h=>⟨h.1,fun i hi=>wpOp_mono (fun a' w' h'=>zkf fuel _ a' w' h'.2) (h.2 i hi)⟩
theorem zkg {listed:Array Bool} {j:Nat} (h:z63 late listed=false) (hj:j ∉ late):z63 late (listed.setIfInBounds j true)=false:=by
 rw [z63,List.any_eq_false] at h ⊢
 intro s hs
 have hne:j≠s:=fun e=>hj (e ▸ hs)
 rw [getD_set_ne false hne]
 exact h s hs
theorem zvf {i:Nat} {oi:Oper} {v:Value} (hi:ops[i]? = some oi) (hsel:∀ (j:Nat) (o:Oper) cs b,ops[j]? = some o→o.op ≠ .select cs b)
  (hQ:∀ c a w,Q (.panic c) (a.put oi.dst v) w→Q (.panic c) a w) (hlw:zfs md ops late i=true) :
  ∀ (fuel:Nat) (listed:Array Bool) (a:Act) (w:World),
   (∀ j oj,ops[j]? = some oj→j≠i→listed.getD j true=false→(∀ e ∈ oj.after,Region.binds md e=true→e.on≠i)→oi.apart ops oj=true) →
   i ∈ Region.ready md ops listed→YieldsIf P ops S oi v a→S w→z63 late listed=false→zd0 md ops listed →
   z3y P md ops Q S late fuel (listed.setIfInBounds i true) (a.put oi.dst v) w→z3y P md ops Q S late (fuel+1) listed a w:=by
 have hil:i ∉ late:=fun h=>by
  have:=(List.all_eq_true.1 hlw) i h
  simp at this
 intro fuel
 induction fuel with
 | zero =>
  intro listed a w _ hr hy hS hl hcl H
  refine ⟨fun h=>(by rw [h] at hr;cases hr),fun j hj=>?_⟩
  by_cases hji:j=i
  ·subst hji;exact hy.wpOp hi hS ⟨fun _=>hS,H⟩
  ·have:=ready_mono hj hji
   rw [H.1] at this
   cases this
 | succ fuel ih =>
  intro listed a w hfree hr hy hS hl hcl H
  refine ⟨fun h=>(by rw [h] at hr;cases hr),fun j hj=>?_⟩
  by_cases hji:j=i
  ·subst hji;exact hy.wpOp hi hS ⟨fun _=>hS,H⟩
  ·have h1:=H.2 j (ready_mono hj hji)
   obtain ⟨hjun,oj,hoj,hall⟩:=mem_ready.1 hj
   have hnot:∀ e ∈ oj.after,Region.binds md e=true→e.on≠i:=fun e he hb heq=>by
    have h1:=hall e he hb
    have h0:=(mem_ready.1 hr).1
    rw [heq] at h1
    rcases Nat.lt_or_ge i listed.size with h'|h'
    ·simp [h'] at h0 h1;rw [h0] at h1;cases h1
    ·simp [Array.getElem?_eq_none h'] at h1
   have hjl:j ∉ late:=fun hmem=>by
    have:=(List.all_eq_true.1 hlw) j hmem
    simp only [Bool.and_eq_true] at this
    have h5:=z00j hcl this.2 hj
    rw [z0dr (mem_ready.1 hr).1] at h5
    cases h5
   have hl':=zkg hl hjl
   have h2:=wpOp_putIf hoj (hfree j oj hoj hji hjun hnot) (fun cs b=>hsel i oi cs b hi) (fun cs b=>hsel j oj cs b hoj) hQ hy h1
   have hfree':∀ k ok,ops[k]? = some ok→k≠i→(listed.setIfInBounds j true).getD k true=false →
     (∀ e ∈ ok.after,Region.binds md e=true→e.on≠i)→oi.apart ops ok=true:=fun k ok hk hki hun hno=>by
    refine hfree k ok hk hki ?_ hno
    by_cases hjk:j=k
    ·subst hjk;exact hjun
    ·rw [getD_set_ne true hjk] at hun;exact hun
   have hl2:z63 late ((listed.setIfInBounds i true).setIfInBounds j true)=false:=by
    rw [Array.setIfInBounds_comm _ _ (Ne.symm hji)]
    exact zkg hl' hil
   refine wpOp_mono (fun a' w' h3=>⟨fun _=>h3.2.1 hl2,ih (listed.setIfInBounds j true) a' w' hfree' (ready_mono hr (Ne.symm hji)) h3.1 (h3.2.1 hl2) hl' (z04o hcl hj) ?_⟩) h2
   rw [Array.setIfInBounds_comm _ _ hji]
   exact h3.2.2
theorem z00k (i:Nat) {oi:Oper} {v:Value} {fuel:Nat} {listed:Array Bool} (hi:ops[i]? = some oi) (hw:Region.wanted oi (yielded ops a.tmps)=true) (hy:Yl P w0 F0 Γ oi a v) (h:Sep w0 F0 Γ W)
  (hs:(Region.noSelect ops && Region.free md ops listed i && (Region.ready md ops listed).contains i && zfs md ops late i && !z63 late listed && zm1 md ops listed)=true)
  (hQ:∀ c a w,Q (.panic c) (a.put oi.dst v) w→Q (.panic c) a w)
  (k:z3y P md ops Q (Sep w0 F0 Γ) late fuel (listed.setIfInBounds i true) (a.put oi.dst v) W):z3y P md ops Q (Sep w0 F0 Γ) late (fuel+1) listed a W:=by
 simp only [Bool.and_eq_true,Bool.not_eq_true'] at hs
 obtain ⟨⟨⟨⟨⟨h1,h2⟩,h3⟩,h4⟩,h5⟩,h6⟩:=hs
 exact zvf hi (Region.noSelect_spec h1) hQ h4 fuel listed a W (Region.free_spec hi h2) (by simpa using h3) (.inl ⟨hw,fun W hS=>hy W hS⟩) h h5 (z07n h6) k
structure NextT (P:Program) (md:Region.Mode) (ops:Array Oper) (Q:Exit→Act→World→Prop) (S:World→Prop) (late:List Nat) (fuel:Nat) (listed:Array Bool) (a:Act) (w:World):Prop where
 s:z63 late listed=false→S w
 t:z3y P md ops Q S late fuel listed a w
theorem z0g6 {Q Q':Exit→Act→World→Prop} {K K':Act→World→Prop} {w:World} (hK:∀ a w,K' a w→K a w) (hp:∀ c w,Q' (.panic c) a w→Q (.panic c) a w) (hl:LetsOut Q'→LetsOut Q) (h:o.wp P a w K' Q'):o.wp P a w K Q:=by
 unfold Oper.wp at *
 generalize (execOp a.eval o).run P w=r at *
 cases r with
 | ok n w' =>
  cases n <;> simp only [Oper.upon] at h ⊢ <;>
   first
    | exact hK _ _ h
    | exact Calls.mono h (fun e w'' he=>by cases e <;> first|exact hK _ _ he|exact hp _ _ he|exact hl he)
    | exact Rows.mono h (fun _ _ he=>hK _ _ he)
 | halt x w'=>cases x <;> simp only [Oper.upon] at h ⊢ <;> exact hp _ _ h
theorem z04p (i:Nat) {fuel:Nat} {listed:Array Bool} {w:World} (hr:(Region.ready md ops listed == [i])=true) (ho:ops[i]? = some o)
  (h:wpList P ops (Exit.then (NextT P md ops Q S late fuel (listed.setIfInBounds i true)) Q) [o] a w):z3y P md ops Q S late (fuel+1) listed a w:=by
 have hr':Region.ready md ops listed=[i]:=by simpa using hr
 refine ⟨fun h0=>(by rw [h0] at hr';cases hr'),fun j hj=>?_⟩
 rw [hr'] at hj
 have hji:j=i:=by simpa using hj
 subst hji
 unfold wpOp
 simp only [ho]
 unfold wpList at h
 split
 ·rename_i hw
  rw [if_pos hw] at h
  rcases h with h|⟨h1,h2⟩
  ·exact .inl (z0g6 (fun a w hk=>⟨hk.s,hk.t⟩) (fun c w hp=>hp) (fun hl=>hl) h)
  ·exact .inr ⟨h1,h2⟩
 ·rename_i hw
  rw [if_neg hw] at h
  exact ⟨h.s,h.t⟩
theorem zh7 {fuel:Nat} {listed:Array Bool} {w:World} (hr:((Region.ready md ops listed) == [])=true) (h:Q .normal a w):z3y P md ops Q S late fuel listed a w:=by
 have hr':Region.ready md ops listed=[]:=by simpa using hr
 cases fuel with
 | zero=>exact ⟨hr',h⟩
 | succ n=>exact ⟨fun _=>h,by rw [hr'];simp⟩
theorem z1m {l:List Oper} (i:Nat) {oi:Oper} {v:Value} {fuel:Nat} {listed:Array Bool} (hi:l[i]? = some oi) (hw:Region.wanted oi (yielded l.toArray a.tmps)=true) (hy:Yl P w0 F0 Γ oi a v) (h:Sep w0 F0 Γ W)
  (hs:(Region.noSelect l.toArray && Region.free md l.toArray listed i && (Region.ready md l.toArray listed).contains i && zfs md l.toArray late i && !z63 late listed && zm1 md l.toArray listed)=true)
  (hQ:∀ c a w,Q (.panic c) (a.put oi.dst v) w→Q (.panic c) a w)
  (k:z3y P md l.toArray Q (Sep w0 F0 Γ) late fuel (listed.setIfInBounds i true) (a.put oi.dst v) W):z3y P md l.toArray Q (Sep w0 F0 Γ) late (fuel+1) listed a W :=
 z00k i (by simpa using hi) hw hy h hs hQ k
theorem zfu {l:List Oper} (i:Nat) {fuel:Nat} {listed:Array Bool} {w:World} (hr:(Region.ready md l.toArray listed == [i])=true) (ho:l[i]? = some o)
  (h:wpList P l.toArray (Exit.then (NextT P md l.toArray Q S late fuel (listed.setIfInBounds i true)) Q) [o] a w):z3y P md l.toArray Q S late (fuel+1) listed a w :=
 z04p i hr (by simpa using ho) h
theorem z035 {late:List Nat} {listed:Array Bool} {p:Prop} (h:z63 late listed=true) (h':z63 late listed=false):p:=by rw [h] at h';cases h'
theorem Sep.regionT (h:Sep w0 F0 Γ W) (late:List Nat) {id:Nat} {l:List Oper} (hm:P.follows .mixedOrders=true) (k:∀ W',Sep w0 F0 Γ W'→z3y P .any l.toArray Q (Sep w0 F0 Γ) late l.length (Array.replicate l.length false) a W'):(Code.region id l.toArray true).wp P Q a W:=by
 refine wp_region_any hm (zkf (S:=Sep w0 F0 Γ) (late:=late) _ _ _ _ ?_)
 have:=k W.drew h.drew
 simpa using this
end
def Got (P:Program) (W:World) (tmps:Array Value):ResultVar→Value→Prop
 | .tmp t,v=>tmps.getD t undef=v
 | .cell a t,v=>∃ p,tmps.getD a undef = .pointer (some p)∧(loadVar t p).run P W = .ok v W
def getR (tmps:Array Value):ResultVar→Sem Value
 | .tmp t=>Pure.pure (tmps.getD t undef)
 | .cell a t=>do loadVar t (← asAddr (tmps.getD a undef))
theorem Got.run {P:Program} {W:World} {tmps:Array Value} {r:ResultVar} {v:Value} (h:Got P W tmps r v):(getR tmps r).run P W = .ok v W:=by
 cases r with
 | tmp t=>simp only [Got] at h;simp only [getR,h,Sem.run_pure]
 | cell a t=>obtain ⟨p,h1,h2⟩:=h;simp only [getR,h1,asAddr,Sem.run_bind,Sem.run_pure,Result.andThen_ok,h2]
theorem z04r (fn:Func) (tmps:Array Value):results fn tmps=(do let vs ← fn.results.mapM (getR tmps);Pure.pure (if h:vs.size=1 then vs[0] else .tuple vs)):=rfl
section
variable {P:Program} {w0 W:World} {F0:Nat→Prop} {Γ:List Res} {fn:Func} {tmps:Array Value} {r s q p:ResultVar} {v u x y:Value}
theorem Got.tmp {t:Tmp} (h:tmps.getD t undef=v):Got P W tmps (.tmp t) v:=h
theorem Got.boxN (hS:Sep w0 F0 Γ W) {a g t ty:Nat} {cs:List Value} (hx:tmps.getD a undef = .pointer (some ⟨g,0,none⟩)) (hm:At Γ (box g cs ty)) (h1:AggN P t cs.length):Got P W tmps (.cell a t) (.agg cs.toArray):=⟨_,hx,h1.load (hS.boxAt hm)⟩
theorem Got.box1 (hS:Sep w0 F0 Γ W) {a g t ty:Nat} {v:Value} (hx:tmps.getD a undef = .pointer (some ⟨g,0,none⟩)) (hm:At Γ (box g [v] ty)) (h1:OneT P t):Got P W tmps (.cell a t) v:=⟨_,hx,h1.load (by have:=hS.boxAt hm 0 v rfl;simpa using this)⟩
theorem ze2 (h:fn.results=#[r,s]) (g:Got P W tmps r v) (g':Got P W tmps s u):(results fn tmps).run P W = .ok (.tuple #[v,u]) W:=by
 rw [z04r,h];simp [g.run,g'.run]
end
attribute [irreducible] Yl z3y
end
section
open Go.RowKit
attribute [local semireducible] z3y Yl
section
variable {P:Program} {ops:Array Oper} {a:Act} {w:World} {md:Region.Mode} {Q:Exit→Act→World→Prop} {S:World→Prop} {late:List Nat}
def Yp (P:Program) (o:Oper) (a:Act) (v:Value):Prop:=∀ W,(execOp a.eval o).run P W = .ok (.value v) W
theorem Yp.mk {o:Oper} {v:Value} (h:∀ W,(execOp a.eval o).run P W = .ok (.value v) W):Yp P o a v:=h
theorem Yp.move {o:Oper} {x:Operand} (ho:o.op = .move x):Yp P o a (a.eval x):=fun W=>by unfold execOp;simp only [ho];rfl
theorem Yp.assign {o:Oper} {x:Operand} (ho:o.op = .assign x):Yp P o a (a.eval x):=fun W=>by unfold execOp;simp only [ho];rfl
end
attribute [irreducible] Yp
end
section
open Go.RowKit
theorem z0gz:AggN Tryz.prog 217 2:=.mk Tryz.underlying217 rfl (by kernel_rfl)
theorem z59:z2v Tryz.prog 217 [.int .i64 0,.int .i64 0]:=⟨.agg #[.int .i64 0,.int .i64 0],rfl,fun _=>by kernel_rfl⟩
theorem z0av:AggN Tryz.prog 95 2:=.mk Tryz.underlying95 rfl (by kernel_rfl)
theorem z8y:z2v Tryz.prog 95 [.int .i64 0,.int .i64 0]:=⟨.agg #[.int .i64 0,.int .i64 0],rfl,fun _=>by kernel_rfl⟩
theorem z0h0:AggN Tryz.prog 97 3:=.mk Tryz.underlying97 rfl (by kernel_rfl)
theorem zce:z2v Tryz.prog 97 [.int .i64 0,.int .i64 0,.slice none 0 0]:=⟨.agg #[.int .i64 0,.int .i64 0,.slice none 0 0],rfl,fun _=>by kernel_rfl⟩
theorem z0g7:AggN Tryz.prog 100 2:=.mk Tryz.underlying100 rfl (by kernel_rfl)
theorem z8a:z2v Tryz.prog 100 [.int .i64 0,.slice none 0 0]:=⟨.agg #[.int .i64 0,.slice none 0 0],rfl,fun _=>by kernel_rfl⟩
theorem z0h1:AggN Tryz.prog 56 3:=.mk Tryz.underlying56 rfl (by kernel_rfl)
theorem zcf:z2v Tryz.prog 56 [.int .i64 0,.slice none 0 0,.slice none 0 0]:=⟨.agg #[.int .i64 0,.slice none 0 0,.slice none 0 0],rfl,fun _=>by kernel_rfl⟩
theorem z0ds:AggN Tryz.prog 37 1:=.mk Tryz.underlying37 rfl (by kernel_rfl)
theorem zbb:z2v Tryz.prog 37 [.slice none 0 0]:=⟨.agg #[.slice none 0 0],rfl,fun _=>by kernel_rfl⟩
theorem z0dt:AggN Tryz.prog 102 6:=.mk Tryz.underlying102 rfl (by kernel_rfl)
theorem zbc:z2v Tryz.prog 102 [.int .i64 0,.int .i64 0,.int .i64 0,.slice none 0 0,.int .i64 0,.bool false]:=⟨.agg #[.int .i64 0,.int .i64 0,.int .i64 0,.slice none 0 0,.int .i64 0,.bool false],rfl,fun _=>by kernel_rfl⟩
theorem z0du:AggN Tryz.prog 207 1:=.mk Tryz.underlying207 rfl (by kernel_rfl)
theorem zbd:z2v Tryz.prog 207 [.slice none 0 0]:=⟨.agg #[.slice none 0 0],rfl,fun _=>by kernel_rfl⟩
theorem z0aw:AggN Tryz.prog 24 5:=.mk Tryz.underlying24 rfl (by kernel_rfl)
theorem z8z:z2v Tryz.prog 24 [.int .i64 0,.int .i64 0,.int .i64 0,.int .i64 0,.slice none 0 0]:=⟨.agg #[.int .i64 0,.int .i64 0,.int .i64 0,.int .i64 0,.slice none 0 0],rfl,fun _=>by kernel_rfl⟩
theorem z0dv:AggN Tryz.prog 41 2:=.mk Tryz.underlying41 rfl (by kernel_rfl)
theorem zbe:z2v Tryz.prog 41 [.slice none 0 0,.slice none 0 0]:=⟨.agg #[.slice none 0 0,.slice none 0 0],rfl,fun _=>by kernel_rfl⟩
theorem z0dw:AggN Tryz.prog 43 4:=.mk Tryz.underlying43 rfl (by kernel_rfl)
theorem zbf:z2v Tryz.prog 43 [.slice none 0 0,.slice none 0 0,.slice none 0 0,.int .i64 0]:=⟨.agg #[.slice none 0 0,.slice none 0 0,.slice none 0 0,.int .i64 0],rfl,fun _=>by kernel_rfl⟩
theorem z04s:AggN Tryz.prog 82 12:=.mk Tryz.underlying82 rfl (by kernel_rfl)
theorem z64:z2v Tryz.prog 82 [.int .i64 0,.int .i64 0,.int .i64 0,.int .i64 0,.int .i64 0,.int .i64 0,.int .i64 0,.int .i64 0,.slice none 0 0,.int .i64 0,.slice none 0 0,.slice none 0 0]:=⟨.agg #[.int .i64 0,.int .i64 0,.int .i64 0,.int .i64 0,.int .i64 0,.int .i64 0,.int .i64 0,.int .i64 0,.slice none 0 0,.int .i64 0,.slice none 0 0,.slice none 0 0],rfl,fun _=>by kernel_rfl⟩
theorem z0g8:AggN Tryz.prog 72 3:=.mk Tryz.underlying72 rfl (by kernel_rfl)
theorem ze4:z2v Tryz.prog 72 [.slice none 0 0,.slice none 0 0,.slice none 0 0]:=⟨.agg #[.slice none 0 0,.slice none 0 0,.slice none 0 0],rfl,fun _=>by kernel_rfl⟩
theorem zvg:AggN Tryz.prog 78 9:=.mk Tryz.underlying78 rfl (by kernel_rfl)
theorem z4g:z2v Tryz.prog 78 [.int .i64 0,.int .i64 0,.int .i64 0,.int .i64 0,.int .i64 0,.int .i64 0,.int .i64 0,.slice none 0 0,.slice none 0 0]:=⟨.agg #[.int .i64 0,.int .i64 0,.int .i64 0,.int .i64 0,.int .i64 0,.int .i64 0,.int .i64 0,.slice none 0 0,.slice none 0 0],rfl,fun _=>by kernel_rfl⟩
theorem z0dx:OneT Tryz.prog 3:=.mk Tryz.underlying3 rfl (by kernel_rfl)
theorem ze5:z2v Tryz.prog 3 [.int .i64 0]:=⟨.int .i64 0,rfl,fun _=>by kernel_rfl⟩
theorem z0dy:OneT Tryz.prog 9:=.mk Tryz.underlying9 rfl (by kernel_rfl)
theorem ze6:z2v Tryz.prog 9 [.string ⟨#[]⟩]:=⟨.string ⟨#[]⟩,rfl,fun _=>by kernel_rfl⟩
theorem z0ax:OneT Tryz.prog 4:=.mk Tryz.underlying4 rfl (by kernel_rfl)
theorem zbg:z2v Tryz.prog 4 [.bool false]:=⟨.bool false,rfl,fun _=>by kernel_rfl⟩
theorem z07o:OneT Tryz.prog 25:=.mk Tryz.underlying25 rfl (by kernel_rfl)
theorem z90:z2v Tryz.prog 25 [.int .i64 0]:=⟨.int .i64 0,rfl,fun _=>by kernel_rfl⟩
theorem z0dz:OneT Tryz.prog 57:=.mk Tryz.underlying57 rfl (by kernel_rfl)
theorem z04t:OneT Tryz.prog 199:=.mk Tryz.underlying199 rfl (by kernel_rfl)
theorem zvh:SliceT Tryz.prog 199 95 2 16:=.mk Tryz.underlying199 (by kernel_rfl)
theorem z0e0:OneT Tryz.prog 53:=.mk Tryz.underlying53 rfl (by kernel_rfl)
theorem z0ay:OneT Tryz.prog 54:=.mk Tryz.underlying54 rfl (by kernel_rfl)
theorem z0e1:OneT Tryz.prog 22:=.mk Tryz.underlying22 rfl (by kernel_rfl)
theorem z07p:OneT Tryz.prog 64:=.mk Tryz.underlying64 rfl (by kernel_rfl)
theorem zm2:SliceT Tryz.prog 64 102 6 64:=.mk Tryz.underlying64 (by kernel_rfl)
theorem z07q:OneT Tryz.prog 133:=.mk Tryz.underlying133 rfl (by kernel_rfl)
theorem z04u:OneT Tryz.prog 39:=.mk Tryz.underlying39 rfl (by kernel_rfl)
theorem z07r:OneT Tryz.prog 69:=.mk Tryz.underlying69 rfl (by kernel_rfl)
theorem zvi:OneT Tryz.prog 70:=.mk Tryz.underlying70 rfl (by kernel_rfl)
theorem zm3:OneT Tryz.prog 86:=.mk Tryz.underlying86 rfl (by kernel_rfl)
theorem z0az:OneT Tryz.prog 38:=.mk Tryz.underlying38 rfl (by kernel_rfl)
theorem z07s:SliceT Tryz.prog 38 3 1 8:=.mk Tryz.underlying38 (by kernel_rfl)
theorem z0b0:OneT Tryz.prog 35:=.mk Tryz.underlying35 rfl (by kernel_rfl)
theorem z29 {t:Nat} (h:[3,25,4,9,57,199,53,54,22,64,133,39,69,70,86,38,35].contains t=true):OneT Tryz.prog t:=by
 have h':=List.contains_iff_mem.1 h
 simp only [List.mem_cons,List.not_mem_nil,or_false] at h'
 rcases h' with rfl|rfl|rfl|rfl|rfl|rfl|rfl|rfl|rfl|rfl|rfl|rfl|rfl|rfl|rfl|rfl|rfl
 ·exact z0dx
 ·exact z07o
 ·exact z0ax
 ·exact z0dy
 ·exact z0dz
 ·exact z04t
 ·exact z0e0
 ·exact z0ay
 ·exact z0e1
 ·exact z07p
 ·exact z07q
 ·exact z04u
 ·exact z07r
 ·exact zvi
 ·exact zm3
 ·exact z0az
 ·exact z0b0
theorem z02 {t n:Nat} (h:[(217,2),(95,2),(97,3),(100,2),(56,3),(37,1),(102,6),(207,1),(24,5),(41,2),(43,4),(82,12),(72,3),(78,9)].contains (t,n)=true):AggN Tryz.prog t n:=by
 have h':=List.contains_iff_mem.1 h
 simp only [List.mem_cons,List.not_mem_nil,or_false,Prod.mk.injEq] at h'
 rcases h' with ⟨rfl,rfl⟩|⟨rfl,rfl⟩|⟨rfl,rfl⟩|⟨rfl,rfl⟩|⟨rfl,rfl⟩|⟨rfl,rfl⟩|⟨rfl,rfl⟩|⟨rfl,rfl⟩|⟨rfl,rfl⟩|⟨rfl,rfl⟩|⟨rfl,rfl⟩|⟨rfl,rfl⟩|⟨rfl,rfl⟩|⟨rfl,rfl⟩
 ·exact z0gz
 ·exact z0av
 ·exact z0h0
 ·exact z0g7
 ·exact z0h1
 ·exact z0ds
 ·exact z0dt
 ·exact z0du
 ·exact z0aw
 ·exact z0dv
 ·exact z0dw
 ·exact z04s
 ·exact z0g8
 ·exact zvg
end
section
open Go.RowKit
end
section
open Go.RowKit
section
variable {P:Program} {w0 W:World} {F0:Nat→Prop} {Γ Γ' Γ1:List Res}
variable {ops:Array Oper} {Q:Exit→Act→World→Prop} {a:Act} {rest:List Oper} {o:Oper} {t:TypeId} {x y:Operand}
end
end
section
open Go.RowKit
set_option maxRecDepth 100000
section
variable {P:Program} (w:World)
end
theorem wpList_append_run {P:Program} {w w':World} {v':Value} {ops:Array Oper} {rest:List Oper} {o:Oper} {a:Act} {Q:Exit→Act→World→Prop} (hgd:o.guard=none) (s x:Operand) (t tn:TypeId)
  (ho:o.op = .call { callee:=.builtin .append,args:=#[s,x],argTypes:=#[t,tn] }) (vs vx:Value) (hs:a.eval s=vs) (hx:a.eval x=vx)
  (hrun:(Builtin.append_ #[t,tn] o.type #[vs,vx]).run P w = .ok v' w') (h:wpList P ops Q rest (a.put o.dst v') w'):wpList P ops Q (o::rest) a w :=
 wpList_plain hgd fun _ hK=>by
  unfold Oper.wp execOp
  simp only [ho,resolve,invoke,builtin,Sem.run_bind,Sem.run_pure,Result.andThen_ok,List.map_toArray,List.map_cons,List.map_nil,hs,hx,hrun]
  exact hK _ _ h
def total {α:Type}:List (List α)→Nat
 | []=>0
 | xs::l=>xs.length+total l
end
section
open Go.RowKit
attribute [local semireducible] zfa rds rep cells box row At Put Del Sub
section
variable {P:Program} {w0 W:World} {F0:Nat→Prop} {Γ Γ' Γ1:List Res}
variable {ops:Array Oper} {Q:Exit→Act→World→Prop} {a:Act} {rest:List Oper} {o:Oper} {t:TypeId} {x y:Operand}
end
end
section
open Go.RowKit
set_option maxRecDepth 100000
end
section
open Go.RowKit
set_option maxRecDepth 100000
end
section
theorem z0bf {α:Type} [DecidableEq α] (x:α) (l:List α) (k:Nat) (h:0≤z1a x l k):∃ j:Nat,z1a x l k=k+j∧l[j]? = some x:=by
 induction l generalizing k with
 | nil=>simp [z1a] at h
 | cons y l ih =>
  by_cases hxy:x=y
  ·subst hxy;exact ⟨0,by simp [z1a],by simp⟩
  ·rw [z1a,if_neg hxy] at h ⊢
   obtain ⟨j,h1,h2⟩:=ih (k+1) h
   exact ⟨j+1,by rw [h1];omega,by simpa using h2⟩
theorem z08b {α:Type} [DecidableEq α] {l:List α} {x:α} (h:0≤idx l x):∃ j:Nat,idx l x=j∧l[j]? = some x:=by
 obtain ⟨j,h1,h2⟩:=z0bf x l 0 h
 exact ⟨j,by unfold idx;omega,h2⟩
theorem zx9 {α:Type} [DecidableEq α] (x:α) (l m:List α) (k:Nat) (h:0≤z1a x l k):z1a x (l++m) k=z1a x l k:=by
 induction l generalizing k with
 | nil=>simp [z1a] at h
 | cons y l ih =>
  by_cases hxy:x=y
  ·subst hxy;simp [z1a]
  ·rw [z1a,if_neg hxy] at h
   rw [List.cons_append,z1a,if_neg hxy,z1a,if_neg hxy]
   exact ih _ h
theorem z05g {α:Type} [DecidableEq α] {l m:List α} (hp:l <+: m) {x:α} (h:0≤idx l x):idx m x=idx l x:=by
 obtain ⟨r,rfl⟩:=hp
 exact zx9 x l r 0 h
end
section
open Go.RowKit
set_option maxRecDepth 100000
def z9d (bs:List Block) (i:Int):Block:=(bs[i.toNat]?).getD ⟨0,0,0,0,[]⟩
def zd8 (ns:List Int) (bs:List Block) (b:Block) (m:Nat):Int :=
 if b.parent=0 then (if b.height≠1 then 4 else 0)
 else if idx (ns.take m) b.parent<0 then 5 else if b.height≠(z9d bs (idx (ns.take m) b.parent)).height+1 then 4 else 0
end
section
open Go.RowKit
set_option maxRecDepth 100000
def zd9 (ns:List Int) (k:Nat):Int:=(ns[k]?).getD 0
def zbl (ns:List Int) (bs:List Block) (k:Nat) (n:Int) (b:Block):Int :=
 if n<1∨120<n then 3 else if ze b≠0 then ze b else if zca (ns.take k) n=true then 6 else zd8 ns bs b k
def z08c (ns:List Int) (bs:List Block):Nat→Nat→Int
 | _,0=>0
 | k,f+1=>if zbl ns bs k (zd9 ns k) (z9d bs k)≠0 then zbl ns bs k (zd9 ns k) (z9d bs k) else z08c ns bs (k+1) f
def z9p (t:Tree):Int:=if t.names.length≠t.blocks.length then 4 else if 24<t.names.length then 2 else z08c t.names t.blocks 0 t.names.length
end
section
open Go.RowKit
structure TreeOK (ns:List Int) (bs:List Block):Prop where
 len:ns.length=bs.length
 le:ns.length≤24
 step:∀ k,k<ns.length→zbl ns bs k (zd9 ns k) (z9d bs k)=0
theorem z01u {ns:List Int} {bs:List Block} {k:Nat} {n:Int} {b:Block} (h:zbl ns bs k n b=0):(1≤n∧n≤120)∧ze b=0∧n ∉ ns.take k∧zd8 ns bs b k=0:=by
 unfold zbl at h
 by_cases h1:n<1∨120<n
 ·rw [if_pos h1] at h;cases h
 ·rw [if_neg h1] at h
  by_cases h2:ze b=0
  ·rw [h2,if_neg (show ¬ ((0:Int)≠0) by decide)] at h
   by_cases h3:zca (ns.take k) n=true
   ·rw [if_pos h3] at h;cases h
   ·rw [if_neg h3] at h
    exact ⟨by omega,h2,by simpa [zca] using h3,h⟩
  ·rw [if_pos h2] at h;exact absurd h h2
theorem z05h {ns:List Int} {bs:List Block} {k:Nat} {b:Block} (h:zd8 ns bs b k=0):(b.parent=0∧b.height=1)∨(b.parent≠0∧∃ j:Nat,j<k∧idx ns b.parent=j∧ns[j]? = some b.parent∧b.height=(z9d bs j).height+1):=by
 unfold zd8 at h
 by_cases h1:b.parent=0
 ·rw [if_pos h1] at h
  by_cases h2:b.height=1
  ·exact .inl ⟨h1,h2⟩
  ·rw [if_pos h2] at h;cases h
 ·rw [if_neg h1] at h
  by_cases h2:idx (ns.take k) b.parent<0
  ·rw [if_pos h2] at h;cases h
  ·rw [if_neg h2] at h
   by_cases h3:b.height=(z9d bs (idx (ns.take k) b.parent)).height+1
   ·obtain ⟨j,hj,hjs⟩:=z08b (show 0≤idx (ns.take k) b.parent by omega)
    have hp:=z05g (List.take_prefix k ns) (x:=b.parent) (by omega)
    have hlt:=(List.getElem?_eq_some_iff.1 hjs).1
    rw [List.getElem?_take] at hjs
    split at hjs
    ·exact .inr ⟨h1,j,by assumption,by omega,hjs,by rw [hj] at h3;exact h3⟩
    ·cases hjs
   ·rw [if_pos h3] at h;cases h
def z6a (ns:List Int) (bs:List Block) (m:Int):Int:=(z9d bs (idx ns m)).parent
def remN (ns:List Int) (m:Int):Nat:=if m=0 then 0 else (idx ns m+1).toNat
def up (ns:List Int) (bs:List Block):Nat→Int→List Int
 | 0,_=>[]
 | f+1,m=>if m=0 then [] else m::up ns bs f (z6a ns bs m)
def z0h4 (ns:List Int) (bs:List Block) (m:Int):List Int:=(up ns bs ns.length m).reverse
theorem TreeOK.name {ns:List Int} {bs:List Block} (h:TreeOK ns bs) {m:Int} (hm:0≤idx ns m):1≤m∧m≤120∧∃ j:Nat,j<ns.length∧idx ns m=j∧zd9 ns j=m∧(z6a ns bs m=0∨(z6a ns bs m≠0∧0≤idx ns (z6a ns bs m)∧idx ns (z6a ns bs m)<j)):=by
 obtain ⟨j,hj,hjs⟩:=z08b hm
 have hlt:=(List.getElem?_eq_some_iff.1 hjs).1
 have hn:zd9 ns j=m:=by simp [zd9,hjs]
 obtain ⟨⟨a,b⟩,c,d,e⟩:=z01u (h.step j hlt)
 refine ⟨by omega,by omega,j,hlt,hj,hn,?_⟩
 have hp:z6a ns bs m=(z9d bs j).parent:=by unfold z6a;rw [hj]
 rw [hp]
 rcases z05h e with ⟨h1,h2⟩|⟨h1,i,hi,hi2,hi3,hi4⟩
 ·exact .inl h1
 ·exact .inr ⟨h1,by omega,by omega⟩
theorem TreeOK.rem {ns:List Int} {bs:List Block} (h:TreeOK ns bs) {m:Int} (h0:m≠0) (hm:0≤idx ns m):remN ns (z6a ns bs m)<remN ns m:=by
 obtain ⟨_,_,j,hj,he,_,hp⟩:=h.name hm
 unfold remN
 rw [if_neg h0]
 rcases hp with hp|⟨hp,h1,h2⟩
 ·rw [if_pos hp];omega
 ·rw [if_neg hp];omega
end
section
open Go.RowKit Go.Shelf
set_option maxRecDepth 100000
end
section
open Go.RowKit
set_option maxRecDepth 100000
end
section
open Go.RowKit
set_option maxRecDepth 100000
def z0ca (t:Tree) (m:Int):List Int × Int :=
 if z9p t≠0 then ([],z9p t) else if m≠0∧idx t.names m<0 then ([],5) else (z0h4 t.names t.blocks m,0)
end
section
open Go.RowKit
set_option maxRecDepth 100000
end
section
open Go.RowKit
end
section
open Go.RowKit Go.ChangeShapes Go.WideShapes
theorem zg7 {α:Type} (l:List α) (k m:Nat):(l.drop k).take m++l.drop (k+m)=l.drop k:=by rw [← List.drop_drop,List.take_append_drop]
def z06 {α:Type} (P:Program) (S:Sh α) (t:TypeId):Prop :=
 ∀ {H:Type} {enc:TypeId × Value→H} {w:World} {base:Nat} {spare:Nat→Bool} {held:Bool} {fuel:Nat} {cs:List Value} {x:DataW H × List MemPlace},
  DataW.trod enc P w base spare held fuel t cs=some x→∃ a,S.rep w (Lt w.heap.size) a cs
section
variable {P:Program} {t:TypeId}
theorem z09a (ht:P.underlying t=some (.int .i64)):z06 P shInt t:=by
 intro H enc w base spare held fuel cs x h
 obtain ⟨n,rfl,_,hw⟩:=DataW.trod_int ht h
 exact ⟨n,rfl,by simp [Lit.wf,IntKind.min,IntKind.max,IntKind.signed,IntKind.bits] at hw;omega⟩
theorem z05u (ht:P.underlying t=some .bool):z06 P shBool t:=by
 intro H enc w base spare held fuel cs x h
 obtain ⟨n,rfl,_⟩:=DataW.trod_bool ht h
 exact ⟨n,rfl⟩
theorem z09b (ht:P.underlying t=some .string):z06 P shStr t:=by
 intro H enc w base spare held fuel cs x h
 obtain ⟨s,rfl,_,hw⟩:=DataW.trod_string ht h
 exact ⟨s.data.toList,by simp,by unfold maxLen at hw;simpa using hw⟩
theorem z31 {α:Type} {S:Sh α} {e:TypeId} (ht:P.underlying t=some (.slice e)) (hs:P.cellsOf e=S.size) (h0:0<S.size) (he:z06 P S e):z06 P (z0h S) t:=by
 intro H enc w base spare held fuel cs x h
 rcases Go.Deep.open_slice ht h with ⟨rfl,_⟩|⟨a,len,cap,m,n,D,Pl,rfl,_,hl,hm,hmm,-,hi⟩
 ·exact ⟨[],_,_,_,rfl,Rds.nil _ _ _⟩
 ·have hlm:len≤m:=by rw [hmm];split <;> omega
  have key:∀ i,i<len→∃ y:α × List Value,S.rep w (Lt w.heap.size) y.1 y.2∧∀ j,j<S.size→w.cell? (a.add (i * S.size+j))=y.2[j]?:=by
   intro i hlt
   obtain ⟨cs',hc,ht'⟩:=hi i (by omega)
   obtain ⟨y,hy⟩:=he ht'
   obtain ⟨_,hcl,hat⟩:=World.cells?_some hc
   refine ⟨(y,cs'),hy,fun j hj=>?_⟩
   have:=hat j (by omega)
   rw [hs,Go.Deep.add_add] at this
   exact this
  have key2:∃ ys:List (α × List Value),ys.length=len∧∀ i (hi:i<ys.length),S.rep w (Lt w.heap.size) ys[i].1 ys[i].2∧∀ j,j<S.size→w.cell? (a.add (i * S.size+j))=ys[i].2[j]?:=by
   clear hi hmm hlm hl h
   induction len with
   | zero=>exact ⟨[],rfl,fun i hi=>by simp at hi⟩
   | succ l ih =>
    obtain ⟨ys,hy1,hy2⟩:=ih (fun i hi=>key i (by omega))
    obtain ⟨y,hy⟩:=key l (by omega)
    refine ⟨ys++[y],by simp [hy1],fun i hi=>?_⟩
    by_cases h':i<ys.length
    ·rw [List.getElem_append_left h'];exact hy2 i h'
    ·have:i=l:=by simp at hi;omega
     subst this
     rw [List.getElem_append_right (by omega)]
     simpa [hy1] using hy
  obtain ⟨ys,hy1,hy2⟩:=key2
  refine ⟨ys.map (·.1),_,_,_,rfl,by simp [hy1],hl,by unfold maxLen at hm;omega,fun hn=>?_⟩
  have c0:=(hy2 0 (by omega)).2 0 h0
  have hl0:=S.len (hy2 0 (by omega)).1
  have hspot:a.spot=none:=by
   have:(ys[0]'(by omega)).2[0]? = some ((ys[0]'(by omega)).2[0]'(by omega)):=List.getElem?_eq_getElem (by omega)
   rw [this] at c0
   have:=World.cell?_spot c0
   simpa [Addr.add] using this
  obtain ⟨b,off,spot⟩:=a
  simp only at hspot
  subst hspot
  have hadd:∀ k,(Addr.mk b off none).add k=⟨b,off+k,none⟩:=by
   intro k;unfold Addr.add;split <;> simp_all
  refine ⟨b,off,rfl,?_,fun i hi=>?_⟩
  ·show b<w.heap.size
   rcases Nat.lt_or_ge b w.heap.size with h'|h'
   ·exact h'
   ·have e:w.cell? ((Addr.mk b off none).add (0 * S.size+0))=none:=by
     rw [hadd];simp [World.cell?,Array.getElem?_eq_none h']
    rw [e] at c0
    have:(ys[0]'(by omega)).2[0]? = some ((ys[0]'(by omega)).2[0]'(by omega)):=List.getElem?_eq_getElem (by omega)
    rw [this] at c0;cases c0
  ·have hi':i<ys.length:=by simpa using hi
   refine ⟨ys[i].2,by simpa using (hy2 i hi').1,fun j v hj=>?_⟩
   have hjl:j<S.size:=by
    have:=S.len (hy2 i hi').1
    have:=(List.getElem?_eq_some_iff.1 hj).1
    omega
   have:=(hy2 i hi').2 j hjl
   rw [hadd,hj] at this
   rw [← this,Nat.add_assoc]
theorem zbq {α β τ:Type} {S0:Sh α} {S1:Sh β} {f:α→β→τ} {f0 f1:Field} (ht:P.underlying t=some (.struct #[f0,f1])) (hc:P.cellsOf t=S0.size+S1.size)
  (o0:f0.offset=0) (o1:f1.offset=S0.size) (c0:P.cellsOf f0.type=S0.size) (c1:P.cellsOf f1.type=S1.size) (h0:z06 P S0 f0.type) (h1:z06 P S1 f1.type):z06 P (z3t S0 S1 f) t:=by
 intro H enc w base spare held fuel cs x h
 obtain ⟨xs,n,_,_,hl,hxl,hf⟩:=DataW.trod_struct ht h
 match xs,hxl with
 | [x0,x1],_ =>
  have g0:=hf 0 f0 rfl
  have g1:=hf 1 f1 rfl
  rw [o0,c0] at g0
  rw [o1,c1] at g1
  obtain ⟨a,ha⟩:=h0 g0
  obtain ⟨b,hb⟩:=h1 g1
  refine ⟨f a b,a,b,_,_,rfl,?_,ha,hb⟩
  rw [List.drop_zero,List.take_of_length_le (l:=cs.drop S0.size) (by simp;omega),List.take_append_drop]
theorem zz5 {α τ:Type} {S0:Sh α} {f:α→τ} {f0:Field} (ht:P.underlying t=some (.struct #[f0])) (hc:P.cellsOf t=S0.size)
  (o0:f0.offset=0) (c0:P.cellsOf f0.type=S0.size) (h0:z06 P S0 f0.type):z06 P (shS1 S0 f) t:=by
 intro H enc w base spare held fuel cs x h
 obtain ⟨xs,n,_,_,hl,hxl,hf⟩:=DataW.trod_struct ht h
 match xs,hxl with
 | [x0],_ =>
  have g0:=hf 0 f0 rfl
  rw [o0,c0] at g0
  obtain ⟨a,ha⟩:=h0 g0
  refine ⟨f a,a,rfl,?_⟩
  rwa [List.drop_zero,List.take_of_length_le (by omega)] at ha
theorem zz6 {α β γ τ:Type} {S0:Sh α} {S1:Sh β} {S2:Sh γ} {f:α→β→γ→τ} {f0 f1 f2:Field} (ht:P.underlying t=some (.struct #[f0,f1,f2])) (hc:P.cellsOf t=S0.size+(S1.size+S2.size))
  (o0:f0.offset=0) (o1:f1.offset=S0.size) (o2:f2.offset=S0.size+S1.size) (c0:P.cellsOf f0.type=S0.size) (c1:P.cellsOf f1.type=S1.size) (c2:P.cellsOf f2.type=S2.size)
  (h0:z06 P S0 f0.type) (h1:z06 P S1 f1.type) (h2:z06 P S2 f2.type):z06 P (zhw S0 S1 S2 f) t:=by
 intro H enc w base spare held fuel cs x h
 obtain ⟨xs,n,_,_,hl,hxl,hf⟩:=DataW.trod_struct ht h
 match xs,hxl with
 | [x0,x1,x2],_ =>
  have g0:=hf 0 f0 rfl
  have g1:=hf 1 f1 rfl
  have g2:=hf 2 f2 rfl
  rw [o0,c0] at g0
  rw [o1,c1] at g1
  rw [o2,c2] at g2
  obtain ⟨a,ha⟩:=h0 g0
  obtain ⟨b,hb⟩:=h1 g1
  obtain ⟨c,hc'⟩:=h2 g2
  refine ⟨f a b c,a,(b,c),_,_,rfl,?_,ha,b,c,_,_,rfl,rfl,hb,hc'⟩
  rw [List.drop_zero,List.take_of_length_le (l:=cs.drop (S0.size+S1.size)) (by simp;omega),← List.drop_drop,List.take_append_drop,List.take_append_drop]
theorem z0c0 {α β γ δ τ:Type} {S0:Sh α} {S1:Sh β} {S2:Sh γ} {S3:Sh δ} {f:α→β→γ→δ→τ} {f0 f1 f2 f3:Field} (ht:P.underlying t=some (.struct #[f0,f1,f2,f3])) (hc:P.cellsOf t=S0.size+(S1.size+(S2.size+S3.size)))
  (o0:f0.offset=0) (o1:f1.offset=S0.size) (o2:f2.offset=S0.size+S1.size) (o3:f3.offset=S0.size+S1.size+S2.size) (c0:P.cellsOf f0.type=S0.size) (c1:P.cellsOf f1.type=S1.size) (c2:P.cellsOf f2.type=S2.size) (c3:P.cellsOf f3.type=S3.size)
  (h0:z06 P S0 f0.type) (h1:z06 P S1 f1.type) (h2:z06 P S2 f2.type) (h3:z06 P S3 f3.type):z06 P (shS4 S0 S1 S2 S3 f) t:=by
 intro H enc w base spare held fuel cs x h
 obtain ⟨xs,n,_,_,hl,hxl,hf⟩:=DataW.trod_struct ht h
 match xs,hxl with
 | [x0,x1,x2,x3],_ =>
  have g0:=hf 0 f0 rfl
  have g1:=hf 1 f1 rfl
  have g2:=hf 2 f2 rfl
  have g3:=hf 3 f3 rfl
  rw [o0,c0] at g0
  rw [o1,c1] at g1
  rw [o2,c2] at g2
  rw [o3,c3] at g3
  obtain ⟨a,ha⟩:=h0 g0
  obtain ⟨b,hb⟩:=h1 g1
  obtain ⟨c,hc'⟩:=h2 g2
  obtain ⟨d,hd⟩:=h3 g3
  refine ⟨f a b c d,a,(b,c,d),_,_,rfl,?_,ha,b,(c,d),_,_,rfl,rfl,hb,c,d,_,_,rfl,rfl,hc',hd⟩
  rw [List.drop_zero,List.take_of_length_le (l:=cs.drop (S0.size+S1.size+S2.size)) (by simp;omega),zg7,zg7,List.take_append_drop]
theorem z0c1 {α β γ δ ε τ:Type} {S0:Sh α} {S1:Sh β} {S2:Sh γ} {S3:Sh δ} {S4:Sh ε} {f:α→β→γ→δ→ε→τ} {f0 f1 f2 f3 f4:Field} (ht:P.underlying t=some (.struct #[f0,f1,f2,f3,f4]))
  (hc:P.cellsOf t=S0.size+(S1.size+(S2.size+(S3.size+S4.size))))
  (o0:f0.offset=0) (o1:f1.offset=S0.size) (o2:f2.offset=S0.size+S1.size) (o3:f3.offset=S0.size+S1.size+S2.size) (o4:f4.offset=S0.size+S1.size+S2.size+S3.size)
  (c0:P.cellsOf f0.type=S0.size) (c1:P.cellsOf f1.type=S1.size) (c2:P.cellsOf f2.type=S2.size) (c3:P.cellsOf f3.type=S3.size) (c4:P.cellsOf f4.type=S4.size)
  (h0:z06 P S0 f0.type) (h1:z06 P S1 f1.type) (h2:z06 P S2 f2.type) (h3:z06 P S3 f3.type) (h4:z06 P S4 f4.type):z06 P (shS5 S0 S1 S2 S3 S4 f) t:=by
 intro H enc w base spare held fuel cs x h
 obtain ⟨xs,n,_,_,hl,hxl,hf⟩:=DataW.trod_struct ht h
 match xs,hxl with
 | [x0,x1,x2,x3,x4],_ =>
  have g0:=hf 0 f0 rfl
  have g1:=hf 1 f1 rfl
  have g2:=hf 2 f2 rfl
  have g3:=hf 3 f3 rfl
  have g4:=hf 4 f4 rfl
  rw [o0,c0] at g0
  rw [o1,c1] at g1
  rw [o2,c2] at g2
  rw [o3,c3] at g3
  rw [o4,c4] at g4
  obtain ⟨a,ha⟩:=h0 g0
  obtain ⟨b,hb⟩:=h1 g1
  obtain ⟨c,hc'⟩:=h2 g2
  obtain ⟨d,hd⟩:=h3 g3
  obtain ⟨e,he⟩:=h4 g4
  refine ⟨f a b c d e,a,(b,c,d,e),_,_,rfl,?_,ha,b,(c,d,e),_,_,rfl,rfl,hb,c,(d,e),_,_,rfl,rfl,hc',d,e,_,_,rfl,rfl,hd,he⟩
  rw [List.drop_zero,List.take_of_length_le (l:=cs.drop (S0.size+S1.size+S2.size+S3.size)) (by simp;omega),zg7,zg7,zg7,List.take_append_drop]
end
theorem z4x:z06 Tryz.prog shInt 3:=z09a Tryz.underlying3
theorem z0ef:z06 Tryz.prog shBool 4:=z05u Tryz.underlying4
theorem z0gj:z06 Tryz.prog shStr 9:=z09b Tryz.underlying9
theorem z0eg:z06 Tryz.prog (z0h shInt) 38:=z31 Tryz.underlying38 (by kernel_rfl) (by decide) z4x
theorem z0eh:z06 Tryz.prog (z0h shStr) 35:=z31 Tryz.underlying35 (by kernel_rfl) (by decide) z0gj
theorem z0hg:z06 Tryz.prog shBook 37:=zz5 Tryz.underlying37 (by kernel_rfl) rfl (by kernel_rfl) z0eh
theorem z0h6:z06 Tryz.prog shOp 217:=zbq Tryz.underlying217 (by kernel_rfl) rfl rfl (by kernel_rfl) (by kernel_rfl) z4x z4x
theorem z09c:z06 Tryz.prog (z0h shOp) 57:=z31 Tryz.underlying57 (by kernel_rfl) (by decide) z0h6
theorem zz7:z06 Tryz.prog shPoint 95:=zbq Tryz.underlying95 (by kernel_rfl) rfl rfl (by kernel_rfl) (by kernel_rfl) z4x z4x
theorem z0h7:z06 Tryz.prog shIn 97:=zbq Tryz.underlying97 (by kernel_rfl) rfl rfl (by kernel_rfl) (by kernel_rfl) zz7 z09c
theorem z0gk:z06 Tryz.prog (z0h shIn) 53:=z31 Tryz.underlying53 (by kernel_rfl) (by decide) z0h7
theorem z09d:z06 Tryz.prog shOut 100:=zbq Tryz.underlying100 (by kernel_rfl) rfl rfl (by kernel_rfl) (by kernel_rfl) z4x z09c
theorem z0ei:z06 Tryz.prog (z0h shOut) 54:=z31 Tryz.underlying54 (by kernel_rfl) (by decide) z09d
theorem z0h8:z06 Tryz.prog shTx 56:=zz6 Tryz.underlying56 (by kernel_rfl) rfl rfl rfl (by kernel_rfl) (by kernel_rfl) (by kernel_rfl) z4x z0gk z0ei
theorem z09e:z06 Tryz.prog (z0h shTx) 22:=z31 Tryz.underlying22 (by kernel_rfl) (by decide) z0h8
theorem z0ej:z06 Tryz.prog shCoin 102:=z0c0 Tryz.underlying102 (by kernel_rfl) rfl rfl rfl rfl (by kernel_rfl) (by kernel_rfl) (by kernel_rfl) (by kernel_rfl) zz7 z09d z4x z0ef
theorem z0c2:z06 Tryz.prog (z0h shCoin) 64:=z31 Tryz.underlying64 (by kernel_rfl) (by decide) z0ej
theorem z0ek:z06 Tryz.prog z06n 207:=zz5 Tryz.underlying207 (by kernel_rfl) rfl (by kernel_rfl) z0c2
theorem z0hf:z06 Tryz.prog (z0h z06n) 133:=z31 Tryz.underlying133 (by kernel_rfl) (by decide) z0ek
theorem op_block:z06 Tryz.prog shBlock 24:=z0c1 Tryz.underlying24 (by kernel_rfl) rfl rfl rfl rfl rfl (by kernel_rfl) (by kernel_rfl) (by kernel_rfl) (by kernel_rfl) (by kernel_rfl) z4x z4x z4x z4x z09e
theorem z09f:z06 Tryz.prog (z0h shBlock) 39:=z31 Tryz.underlying39 (by kernel_rfl) (by decide) op_block
theorem z0el:z06 Tryz.prog z06o 41:=zbq Tryz.underlying41 (by kernel_rfl) rfl rfl (by kernel_rfl) (by kernel_rfl) z0eg z09f
theorem z0hh:z06 Tryz.prog z0f3 43:=zz6 Tryz.underlying43 (by kernel_rfl) rfl rfl rfl (by kernel_rfl) (by kernel_rfl) (by kernel_rfl) z0el z09e z4x
end
end Go.Proofs.YtgkfhlnklienoaaGreatDoor
