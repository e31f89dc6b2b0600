/- Own texts, put together by wip/bundle.py: Base, Data, Own, Clones, Mk, Sep, Slices, Slices2, Book, Book2, Lock, Coin, Tx, Block, Draw, Draw2, Types, OwnSet, Row, Append, Row2, Concat, Book3, BookLaw, Tree, Tree2, TreeLaw, Reverse, Path, Path2, Fork, ForkLaw, Opens. -/
import Derived.WalkKit
import Derived.WalkLawsBesides
import Derived.BigQuiet
import Derived.Deep.QuietTactic
import Derived.Deep.DeepFit
import Derived.Deep.LoopGhost
import Derived.Lib.Hide
import Derived.Test.YtaddehddalnliaaGreatDoorProg
import Derived.Maps.AppendAt
import Derived.Lib.SliceRun
import Derived.Deep.MidRow
import Derived.Great.BuildSlice
import Derived.OwnWalk
import Derived.BigFrame
import Derived.Maps.OwnOps
import Derived.Maps.Views
import Derived.Deep.Quiet
import Derived.OrdersHeld
import Derived.KernelRfl
import Derived.Lib.AppendZerosOnto
import Derived.Test.YtaddehddalnliaaGreatDoorShelf
import Derived.ProofKit
import Derived.Deep.Slices
set_option linter.unusedVariables false
set_option linter.unusedSimpArgs false
namespace Go.Proofs.YtaddehddalnliaaGreatDoor
section
abbrev zY00:=@Option.some.injEq
abbrev zY01:=@Option.bind_eq_some_iff
abbrev zY02:=@List.getElem?_eq_some_iff
abbrev zY03:=@List.getElem?_eq_getElem
abbrev zY04:=@List.length_append
abbrev zY05:=@List.getElem?_cons_zero
abbrev zY06:=@Option.bind_some
abbrev zY07:=@List.mem_of_getElem?
abbrev zY08:=@List.setIfInBounds_toArray
abbrev zY09:=@Option.bind_eq_bind
abbrev zY0a:=@List.length_cons
abbrev zY0b:=@Option.bind_none
abbrev zY0c:=@List.eq_nil_of_length_eq_zero
abbrev zY0d:=@Bool.and_eq_true
abbrev zY0e:=@List.getElem?_set_self
abbrev zY0f:=@List.length_take
abbrev zY0g:=@List.mem_cons
abbrev zY0h:=@List.getElem?_set_ne
abbrev zY0i:=@List.mem_cons_of_mem
abbrev zY0j:=@List.mem_cons_self
abbrev zY0k:=@Nat.le_refl
abbrev zY0l:=@List.getElem?_append_left
abbrev zY0m:=@List.getElem?_map
abbrev zY0n:=@List.set_cons_zero
abbrev zY0o:=@List.set_cons_succ
abbrev zY0p:=@List.getElem?_append_right
abbrev zY0q:=@List.length_nil
abbrev zY0r:=@Array.getD_eq_getD_getElem?
abbrev zY0s:=@Option.map_eq_some_iff
abbrev zY0t:=@List.take_of_length_le
abbrev zY0u:=@Decidable.not_not
abbrev zY0v:=@Bool.false_eq_true
abbrev zY0w:=@List.getD_eq_getElem?_getD
abbrev zY0x:=@Nat.zero_add
abbrev zY0y:=@List.length_map
abbrev zY0z:=@Nat.eq_of_beq_eq_true
abbrev zY10:=@List.take_append_drop
abbrev zY11:=@List.length_drop
abbrev zY12:=@List.mem_append
abbrev zY13:=@List.mem_singleton
abbrev zY14:=@Array.getElem?_eq_getElem
abbrev zY15:=@Array.getElem?_eq_some_iff
abbrev zY16:=@Prod.mk.injEq
abbrev zY17:=@List.nil_append
abbrev zY18:=@List.getElem?_take
abbrev zY19:=@Array.getElem?_eq_none
abbrev zY1a:=@Option.map_some
abbrev zY1b:=@List.append_assoc
abbrev zY1c:=@Option.pure_def
abbrev zY1d:=@List.pairwise_cons
abbrev zY1e:=@List.append_nil
abbrev zY1f:=@List.all_eq_true
abbrev zY1g:=@List.not_mem_nil
abbrev zY1h:=@List.cons_append
abbrev zY1i:=@List.length_singleton
abbrev zY1j:=@List.take_length
abbrev zY1k:=@List.take_append_of_le_length
abbrev zY1l:=@List.drop_eq_nil_of_le
abbrev zY1m:=@List.getElem?_drop
abbrev zY1n:=@List.flatten_cons
abbrev zY1o:=@Option.getD_some
abbrev zY1p:=@Array.toArray_toList
abbrev zY1q:=@List.map_cons
abbrev zY1r:=@Array.getElem?_toList
abbrev zY1s:=@Nat.eq_zero_or_pos
abbrev zY1t:=@Nat.lt_of_lt_of_le
abbrev zY1u:=@Nat.mul_le_mul_right
abbrev zY1v:=@List.flatMap_cons
abbrev zY1w:=@List.getElem_mem
abbrev zY1x:=@Nat.lt_or_ge
abbrev zY1y:=@List.drop_eq_getElem_cons
abbrev zY1z:=@Array.getElem?_setIfInBounds
abbrev zY20:=@Nat.succ_mul
abbrev zY21:=@Int.toNat_natCast
abbrev zY22:=@List.cons.injEq
abbrev zY23:=@List.map_append
abbrev zY24:=@List.length_replicate
abbrev zY25:=@List.mem_map_of_mem
abbrev zY26:=@List.drop_of_length_le
abbrev zY27:=@Nat.min_eq_left
abbrev zY28:=@List.contains_iff_mem
abbrev zY29:=@Nat.lt_succ_self
abbrev zY2a:=@List.getElem?_set
abbrev zY2b:=@List.getElem?_of_mem
abbrev zY2c:=@Nat.add_zero
abbrev zY2d:=@List.mem_of_mem_take
abbrev zY2e:=@List.mem_of_mem_drop
abbrev zY2f:=@Array.length_toList
abbrev zY2g:=@List.getElem_of_mem
abbrev zY2h:=@Array.getElem?_modify
abbrev zY2i:=@List.getElem?_eq_none
abbrev zY2j:=@List.size_toArray
abbrev zY2k:=@List.getElem?_cons_succ
abbrev zY2l:=@List.pairwise_append
abbrev zY2m:=@List.length_set
abbrev zY2n:=@List.mem_range
abbrev zY2o:=@List.flatMap_nil
abbrev zY2p:=@List.flatten_append
abbrev zY2q:=@List.pairwise_iff_getElem
abbrev zY2r:=@Bool.not_eq_true'
abbrev zY2s:=@Bool.not_eq_false
abbrev zY2t:=@List.ext_getElem?
abbrev zY2u:=@List.map_nil
abbrev zY2v:=@Array.size_append
abbrev zY2w:=@List.mem_map
abbrev zY2x:=@List.singleton_append
abbrev zY2y:=@Option.isSome_iff_exists
abbrev zY2z:=@Nat.add_sub_cancel
abbrev zY30:=@Bool.or_eq_false_iff
abbrev zY31:=@Bool.not_eq_true
abbrev zY32:=@List.getElem?_replicate
abbrev zY33:=@List.toList_toArray
abbrev zY34:=@List.any_eq_true
abbrev zY35:=@Bool.false_or
abbrev zY36:=@Bool.true_and
abbrev zY37:=@Nat.add_assoc
abbrev zY38:=@List.any_cons
abbrev zY39:=@List.take_take
abbrev zY3a:=@Array.eq_empty_of_size_eq_zero
abbrev zY3b:=@Bool.or_eq_true
abbrev zY3c:=@Bool.not_true
abbrev zY3d:=@List.map_toArray
abbrev zY3e:=@Array.all_eq_true'
abbrev zY3f:=@List.drop_zero
abbrev zY3g:=@Bool.false_ne_true
abbrev zY3h:=@Classical.choose_spec
abbrev zY3i:=@List.mem_append_right
abbrev zY3j:=@List.any_eq_false
abbrev zY3k:=@Bool.false_and
abbrev zY3l:=@Array.toList_map
abbrev zY3m:=@List.take_succ_cons
abbrev zY3n:=@Array.getElem?_push
abbrev zY3o:=@Nat.zero_mul
abbrev zY3p:=@List.map_map
abbrev zY3q:=@Int.tmod_nonneg
abbrev zY3r:=@Option.map_none
abbrev zY3s:=@List.mem_filter
abbrev zY3t:=@List.map_take
open Go.RowKit
theorem z0n {k:IntKind} {a b:Int} (h:a=b):Ending.returned (.int k a) = .returned (.int k b):=by rw [h]
theorem z7f {a b:Bool} (h:a=b):Ending.returned (.bool a) = .returned (.bool b):=by rw [h]
theorem zd1 {k l:IntKind} {a b c d:Int} (h:a=b) (h':c=d):Ending.returned (.tuple #[.int k a,.int l c]) = .returned (.tuple #[.int k b,.int l d]):=by rw [h,h']
def Lt (B:Nat):Nat→Prop:=fun b=>b<B
def Agree (F:Nat→Prop) (w w':World):Prop:=∀ b,F b→w'.heap[b]? = w.heap[b]?
theorem Agree.cell {F:Nat→Prop} {w w':World} (h:Agree F w w') {p:Addr} (hp:F p.block):w'.cell? p=w.cell? p:=World.cell?_of_block (w:=w) (h p.block hp)
theorem Agree.below {B:Nat} {w w':World} (h:Below B w w'):Agree (Lt B) w w':=fun b hb=>h.block b hb
theorem Agree.mono {F F':Nat→Prop} {w w':World} (h:Agree F w w') (hF:∀ b,F' b→F b):Agree F' w w':=fun b hb=>h b (hF b hb)
theorem Agree.trans {F:Nat→Prop} {w w' w'':World} (h:Agree F w w') (h':Agree F w' w''):Agree F w w'':=fun b hb=>(h' b hb).trans (h b hb)
structure Sh (α:Type) where
 size:Nat
 rep:World→(Nat→Prop)→α→List Value→Prop
 len:∀ {w F x cs},rep w F x cs→cs.length=size
 keep:∀ {w w':World} {F x cs},Agree F w w'→rep w F x cs→rep w' F x cs
 more:∀ {w F F' x cs},(∀ b,F b→F' b)→rep w F x cs→rep w F' x cs
def Rds {α:Type} (S:Sh α) (w:World) (F:Nat→Prop) (xs:List α) (A:Option Addr) (n c:Nat):Prop :=
 xs.length=n∧n≤c∧c≤9223372036854775807∧(0<n→∃ b off,A=some ⟨b,off,none⟩∧F b ∧
  ∀ i (hi:i<xs.length),∃ cs,S.rep w F xs[i] cs∧∀ j v,cs[j]? = some v→w.cell? ⟨b,off+i * S.size+j,none⟩=some v)
theorem Rds.keep {α:Type} {S:Sh α} {w w':World} {F:Nat→Prop} {xs:List α} {A:Option Addr} {n c:Nat} (ha:Agree F w w') (h:Rds S w F xs A n c):Rds S w' F xs A n c :=
 ⟨h.1,h.2.1,h.2.2.1,fun hn=>by
  obtain ⟨b,off,e,hF,hc⟩:=h.2.2.2 hn;refine ⟨b,off,e,hF,fun i hi=>?_⟩;obtain ⟨cs,hr,hv⟩:=hc i hi;exact ⟨cs,S.keep ha hr,fun j v hj=>(ha.cell (p:=⟨b,_,none⟩) hF).trans (hv j v hj)⟩⟩
theorem Rds.more {α:Type} {S:Sh α} {w:World} {F F':Nat→Prop} {xs:List α} {A:Option Addr} {n c:Nat} (hF':∀ b,F b→F' b) (h:Rds S w F xs A n c):Rds S w F' xs A n c :=
 ⟨h.1,h.2.1,h.2.2.1,fun hn=>by
  obtain ⟨b,off,e,hF,hc⟩:=h.2.2.2 hn;refine ⟨b,off,e,hF' b hF,fun i hi=>?_⟩;obtain ⟨cs,hr,hv⟩:=hc i hi;exact ⟨cs,S.more hF' hr,hv⟩⟩
theorem Rds.take {α:Type} {S:Sh α} {w:World} {F:Nat→Prop} {xs:List α} {A:Option Addr} {n c k:Nat} (h:Rds S w F xs A n c) (hk:k≤n):Rds S w F (xs.take k) A k c:=by
 obtain ⟨h1,h2,h3,h4⟩:=h;refine ⟨by rw [zY0f,h1];omega,by omega,h3,fun hn=>?_⟩;obtain ⟨b,off,e,hF,hc⟩:=h4 (by omega);refine ⟨b,off,e,hF,fun i hi=>?_⟩;rw [zY0f] at hi;obtain ⟨cs,hr,hv⟩:=hc i (by omega);exact ⟨cs,by rw [List.getElem_take];exact hr,hv⟩
theorem Rds.nil {α:Type} (S:Sh α) (w:World) (F:Nat→Prop):Rds S w F [] none 0 0:=⟨rfl,by omega,by omega,fun h=>by omega⟩
theorem Rds.at_ {α:Type} {S:Sh α} {w:World} {F:Nat→Prop} {xs:List α} {A:Option Addr} {n c k:Nat} (h:Rds S w F xs A n c) (hk:k<n) :
  ∃ b off x cs,A=some ⟨b,off,none⟩∧F b∧xs[k]? = some x∧S.rep w F x cs∧∀ j v,cs[j]? = some v→w.cell? ⟨b,off+k * S.size+j,none⟩=some v:=by
 obtain ⟨b,off,e,hF,hc⟩:=h.2.2.2 (by omega);have hl:k<xs.length:=by have:=h.1;omega
 obtain ⟨cs,hr,hv⟩:=hc k hl;exact ⟨b,off,xs[k],cs,e,hF,zY03 hl,hr,hv⟩
def z0h {α:Type} (S:Sh α):Sh (List α):={
 size:=1
 rep w F xs cs:=∃ A n c,cs=[.slice A n c]∧Rds S w F xs A n c
 len:=by rintro w F x cs ⟨A,n,c,rfl,_⟩;rfl
 keep:=by rintro w w' F x cs ha ⟨A,n,c,rfl,h⟩;exact ⟨A,n,c,rfl,h.keep ha⟩
 more:=by rintro w F F' x cs hF ⟨A,n,c,rfl,h⟩;exact ⟨A,n,c,rfl,h.more hF⟩ }
def I64 (n:Int):Prop:=-9223372036854775808≤n∧n≤9223372036854775807
def shInt:Sh Int:={
 size:=1
 rep _ _ n cs:=cs=[.int .i64 n] ∧ -9223372036854775808≤n∧n≤9223372036854775807
 len:=by rintro w F x cs ⟨rfl,_⟩;rfl
 keep:=fun _ h=>h
 more:=fun _ h=>h }
def shBool:Sh Bool:={
 size:=1
 rep _ _ b cs:=cs=[.bool b]
 len:=by rintro w F x cs rfl;rfl
 keep:=fun _ h=>h
 more:=fun _ h=>h }
def shStr:Sh (List UInt8):={
 size:=1
 rep _ _ s cs:=cs=[.string ⟨s.toArray⟩]∧s.length≤9223372036854775807
 len:=by rintro w F x cs ⟨rfl,_⟩;rfl
 keep:=fun _ h=>h
 more:=fun _ h=>h }
theorem Rds.int {w:World} {F:Nat→Prop} {xs:List Int} {A:Option Addr} {n c k:Nat} (h:Rds shInt w F xs A n c) (hk:k<n) :
  ∃ b off x,A=some ⟨b,off,none⟩∧F b∧xs[k]? = some x∧w.cell? ⟨b,off+k,none⟩=some (.int .i64 x) ∧ -9223372036854775808≤x∧x≤9223372036854775807:=by
 obtain ⟨b,off,x,cs,e,hF,hx,⟨rfl,h1,h2⟩,hc⟩:=h.at_ hk;exact ⟨b,off,x,e,hF,hx,by simpa [shInt] using hc 0 _ rfl,h1,h2⟩
theorem Rds.str {w:World} {F:Nat→Prop} {xs:List (List UInt8)} {A:Option Addr} {n c k:Nat} (h:Rds shStr w F xs A n c) (hk:k<n) :
  ∃ b off x,A=some ⟨b,off,none⟩∧F b∧xs[k]? = some x∧w.cell? ⟨b,off+k,none⟩=some (.string ⟨x.toArray⟩)∧x.length≤9223372036854775807:=by
 obtain ⟨b,off,x,cs,e,hF,hx,⟨rfl,h1⟩,hc⟩:=h.at_ hk;exact ⟨b,off,x,e,hF,hx,by simpa [shStr] using hc 0 _ rfl,h1⟩
theorem Rds.of_own_int {w:World} {base e n:Nat} {v:Value} {xs:List Int} (h:w.ownsRow base e 1 v n (xs.map (Value.int .i64))) (hb:∀ x ∈ xs,-9223372036854775808≤x∧x≤9223372036854775807) :
  ∃ A c,v = .slice A n c∧Rds shInt w (fun b=>base≤b∧b<w.heap.size) xs A n c:=by
 obtain ⟨hl,h2⟩:=h;simp at hl;rcases h2 with ⟨rfl,rfl⟩|⟨g,cap,cur,rfl,hg,hh,hnc,hcm,hcs,ht⟩
 ·refine ⟨none,0,rfl,?_⟩
  obtain rfl:xs=[]:=zY0c hl;exact Rds.nil _ _ _
 ·refine ⟨_,cap,rfl,hl,hnc,by unfold maxLen at hcm;omega,fun hn=>⟨g,0,rfl,⟨hg,?_⟩,fun i hi=>⟨_,⟨rfl,hb _ (zY1w hi)⟩,?_⟩⟩⟩
  ·rcases zY1x g w.heap.size with h|h
   ·exact h
   ·rw [zY19 h] at hh;cases hh
  ·intro j v hj
   match j,hj with
   | 0,hj =>
    simp at hj;subst hj;have e1:(cur.toList.take (n * 1))[i]? = some (.int .i64 xs[i]):=by rw [ht];simp [hi]
    rw [zY18] at e1
    split at e1
    ·rw [cell_of_row w g _ cur _ (0,0) hh];simpa [shInt] using e1
    ·cases e1
theorem zf0 {B:Nat} {a w:World} (h:Below B a w) (n:Nat):Below B a (w.drewN n):=⟨h.os,h.tape,h.output,h.size,h.block⟩
theorem z4r {α:Type} {l:List α} {k:Nat} {x:α} (h:l[k]? = some x):l.drop k=x::l.drop (k+1):=by
 obtain ⟨hk,e⟩:=zY02.1 h;rw [zY1y hk,e]
theorem z3h {α:Type} {l:List α} {k:Nat} {x:α} (h:l[k]? = some x):l.take (k+1)=l.take k++[x]:=by
 rw [List.take_add_one,h];rfl
end
section
open Go.RowKit
def z3j {α β τ:Type} (S0:Sh α) (S1:Sh β) (f:α→β→τ):Sh τ:={
 size:=S0.size+S1.size
 rep w F x cs:=∃ a b ca cb,x=f a b∧cs=ca++cb∧S0.rep w F a ca∧S1.rep w F b cb
 len:=by rintro w F x cs ⟨a,b,ca,cb,rfl,rfl,ha,hb⟩;simp [S0.len ha,S1.len hb]
 keep:=by rintro w w' F x cs hk ⟨a,b,ca,cb,e,e',ha,hb⟩;exact ⟨a,b,ca,cb,e,e',S0.keep hk ha,S1.keep hk hb⟩
 more:=by rintro w F F' x cs hk ⟨a,b,ca,cb,e,e',ha,hb⟩;exact ⟨a,b,ca,cb,e,e',S0.more hk ha,S1.more hk hb⟩ }
def shS1 {α τ:Type} (S0:Sh α) (f:α→τ):Sh τ:={
 size:=S0.size
 rep w F x cs:=∃ a,x=f a∧S0.rep w F a cs
 len:=by rintro w F x cs ⟨a,rfl,ha⟩;exact S0.len ha
 keep:=by rintro w w' F x cs hk ⟨a,e,ha⟩;exact ⟨a,e,S0.keep hk ha⟩
 more:=by rintro w F F' x cs hk ⟨a,e,ha⟩;exact ⟨a,e,S0.more hk ha⟩ }
def zdd {α β γ τ:Type} (S0:Sh α) (S1:Sh β) (S2:Sh γ) (f:α→β→γ→τ):Sh τ:=z3j S0 (z3j S1 S2 Prod.mk) (fun a p=>f a p.1 p.2)
def zii {α β γ δ τ:Type} (S0:Sh α) (S1:Sh β) (S2:Sh γ) (S3:Sh δ) (f:α→β→γ→δ→τ):Sh τ:=z3j S0 (zdd S1 S2 S3 fun a b c=>(a,b,c)) (fun a p=>f a p.1 p.2.1 p.2.2)
def zlu {α β γ δ ε τ:Type} (S0:Sh α) (S1:Sh β) (S2:Sh γ) (S3:Sh δ) (S4:Sh ε) (f:α→β→γ→δ→ε→τ):Sh τ:=z3j S0 (zii S1 S2 S3 S4 fun a b c d=>(a,b,c,d)) (fun a p=>f a p.1 p.2.1 p.2.2.1 p.2.2.2)
structure Op where (kind n:Int) deriving DecidableEq,Repr
structure Point where (tx at_:Int) deriving DecidableEq,Repr
structure In where (p:Point) (key:List Op) deriving DecidableEq,Repr
structure Out where (coin:Int) (lock:List Op) deriving DecidableEq,Repr
structure Tx where (height:Int) (ins:List In) (outs:List Out) deriving DecidableEq,Repr
structure Book where (texts:List (List UInt8)) deriving DecidableEq,Repr
structure Coin where (p:Point) (o:Out) (height:Int) (reward:Bool) deriving DecidableEq,Repr
structure Undo where (spent:List Coin) deriving DecidableEq,Repr
structure Block where (parent height work nonce:Int) (txs:List Tx) deriving DecidableEq,Repr
structure Tree where (names:List Int) (blocks:List Block) deriving DecidableEq,Repr
structure Message where (kind src to name:Int) (b:Block) (t:Tx) deriving DecidableEq,Repr
structure Node where (t:Tree) (pool:List Tx) (tip:Int) deriving DecidableEq,Repr
structure Wld where (book:Book) (nodes:List Node) (net:List Message) deriving DecidableEq,Repr
structure Happening where (kind node to k work n:Int) (t:Tx) deriving DecidableEq,Repr
def shOp:Sh Op:=z3j shInt shInt Op.mk
def shPoint:Sh Point:=z3j shInt shInt Point.mk
def shIn:Sh In:=z3j shPoint (z0h shOp) In.mk
def shOut:Sh Out:=z3j shInt (z0h shOp) Out.mk
def shTx:Sh Tx:=zdd shInt (z0h shIn) (z0h shOut) Tx.mk
def shBook:Sh Book:=shS1 (z0h shStr) Book.mk
def shCoin:Sh Coin:=zii shPoint shOut shInt shBool Coin.mk
def z0ka:Sh Undo:=shS1 (z0h shCoin) Undo.mk
def shBlock:Sh Block:=zlu shInt shInt shInt shInt (z0h shTx) Block.mk
def shTree:Sh Tree:=z3j (z0h shInt) (z0h shBlock) Tree.mk
theorem z0tl {w:World} {F:Nat→Prop} {x:Op} {cs:List Value} (h:shOp.rep w F x cs) :
  cs=[.int .i64 x.kind,.int .i64 x.n]∧I64 x.kind∧I64 x.n:=by
 obtain ⟨a,b,ca,cb,rfl,rfl,⟨rfl,h1⟩,rfl,h2⟩:=h;exact ⟨rfl,h1,h2⟩
theorem zu6 {w:World} {F:Nat→Prop} {x:Point} {cs:List Value} (h:shPoint.rep w F x cs) :
  cs=[.int .i64 x.tx,.int .i64 x.at_]∧I64 x.tx∧I64 x.at_:=by
 obtain ⟨a,b,ca,cb,rfl,rfl,⟨rfl,h1⟩,rfl,h2⟩:=h;exact ⟨rfl,h1,h2⟩
theorem z0kb {w:World} {F:Nat→Prop} {x:In} {cs:List Value} (h:shIn.rep w F x cs) :
  ∃ A n c,cs=[.int .i64 x.p.tx,.int .i64 x.p.at_,.slice A n c]∧I64 x.p.tx∧I64 x.p.at_∧Rds shOp w F x.key A n c:=by
 obtain ⟨a,b,ca,cb,rfl,rfl,ha,A,n,c,rfl,hr⟩:=h;obtain ⟨rfl,h1,h2⟩:=zu6 ha;exact ⟨A,n,c,rfl,h1,h2,hr⟩
theorem zrg {w:World} {F:Nat→Prop} {x:Out} {cs:List Value} (h:shOut.rep w F x cs) :
  ∃ A n c,cs=[.int .i64 x.coin,.slice A n c]∧I64 x.coin∧Rds shOp w F x.lock A n c:=by
 obtain ⟨a,b,ca,cb,rfl,rfl,⟨rfl,h1⟩,A,n,c,rfl,hr⟩:=h;exact ⟨A,n,c,rfl,h1,hr⟩
theorem z023 {w:World} {F:Nat→Prop} {x:Tx} {cs:List Value} (h:shTx.rep w F x cs) :
  ∃ A n c A' n' c',cs=[.int .i64 x.height,.slice A n c,.slice A' n' c']∧I64 x.height∧Rds shIn w F x.ins A n c∧Rds shOut w F x.outs A' n' c':=by
 obtain ⟨a,b,ca,cb,rfl,rfl,⟨rfl,h1⟩,a1,b1,ca1,cb1,rfl,rfl,⟨A,n,c,rfl,hr⟩,A',n',c',rfl,hr'⟩:=h;exact ⟨A,n,c,A',n',c',rfl,h1,hr,hr'⟩
theorem z0o1 {w:World} {F:Nat→Prop} {x:Book} {cs:List Value} (h:shBook.rep w F x cs) :
  ∃ A n c,cs=[.slice A n c]∧Rds shStr w F x.texts A n c:=by
 obtain ⟨a,rfl,A,n,c,rfl,hr⟩:=h;exact ⟨A,n,c,rfl,hr⟩
theorem z0o2 {w:World} {F:Nat→Prop} {x:Coin} {cs:List Value} (h:shCoin.rep w F x cs) :
  ∃ A n c,cs=[.int .i64 x.p.tx,.int .i64 x.p.at_,.int .i64 x.o.coin,.slice A n c,.int .i64 x.height,.bool x.reward]∧I64 x.p.tx∧I64 x.p.at_∧I64 x.o.coin∧I64 x.height∧Rds shOp w F x.o.lock A n c:=by
 obtain ⟨a,b,ca,cb,rfl,rfl,ha,a1,b1,ca1,cb1,rfl,rfl,hb,a2,b2,ca2,cb2,rfl,rfl,⟨rfl,h3⟩,rfl⟩:=h;obtain ⟨rfl,h1,h2⟩:=zu6 ha;obtain ⟨A,n,c,rfl,h4,hr⟩:=zrg hb;exact ⟨A,n,c,rfl,h1,h2,h4,h3,hr⟩
theorem zij {w:World} {F:Nat→Prop} {x:Block} {cs:List Value} (h:shBlock.rep w F x cs) :
  ∃ A n c,cs=[.int .i64 x.parent,.int .i64 x.height,.int .i64 x.work,.int .i64 x.nonce,.slice A n c]∧I64 x.parent∧I64 x.height∧I64 x.work∧I64 x.nonce∧Rds shTx w F x.txs A n c:=by
 obtain ⟨a,b,ca,cb,rfl,rfl,⟨rfl,h1⟩,a1,b1,ca1,cb1,rfl,rfl,⟨rfl,h2⟩,a2,b2,ca2,cb2,rfl,rfl,⟨rfl,h3⟩,a3,b3,ca3,cb3,rfl,rfl,⟨rfl,h4⟩,A,n,c,rfl,hr⟩:=h;exact ⟨A,n,c,rfl,h1,h2,h3,h4,hr⟩
end
section
open Go.RowKit
def flat {α:Type} (zs:List (α × List Value)):List Value:=(zs.map (·.2)).flatten
theorem zub {α:Type} (z:α × List Value) (zs:List (α × List Value)):flat (z::zs)=z.2++flat zs:=by simp [flat]
theorem zf3 {α:Type} (zs ys:List (α × List Value)):flat (zs++ys)=flat zs++flat ys:=by simp [flat]
theorem z8h {α:Type} {s:Nat} {zs:List (α × List Value)} (h:∀ z ∈ zs,z.2.length=s):(flat zs).length=zs.length * s:=by
 induction zs with
 | nil=>simp [flat]
 | cons z zs ih =>
  rw [zub,zY04,ih (fun y hy=>h y (by simp [hy])),h z (by simp),zY0a,zY20];omega
theorem z0r4 {α:Type} {s:Nat} {zs:List (α × List Value)} (h:∀ z ∈ zs,z.2.length=s) {i:Nat} {z:α × List Value} (hi:zs[i]? = some z) {j:Nat} (hj:j<s):(flat zs)[i * s+j]? = z.2[j]?:=by
 induction zs generalizing i with
 | nil=>simp at hi
 | cons y zs ih =>
  have hy:=h y (by simp);rw [zub]
  cases i with
  | zero =>
   simp at hi;subst hi;rw [zY3o,zY0x,zY0l (by omega)]
  | succ i =>
   simp at hi;rw [zY0p (by rw [hy,zY20];omega),hy,show (i+1) * s+j - s=i * s+j by rw [zY20];omega];exact ih (fun z hz=>h z (by simp [hz])) hi
theorem Rds.pairs {α:Type} {S:Sh α} {w:World} {F:Nat→Prop} {xs:List α} {A:Option Addr} {n c:Nat} (h:Rds S w F xs A n c) :
  ∃ zs:List (α × List Value),zs.map (·.1)=xs∧(∀ z ∈ zs,S.rep w F z.1 z.2)∧(0<n→∃ b off,A=some ⟨b,off,none⟩∧F b∧∀ j v,(flat zs)[j]? = some v→w.cell? ⟨b,off+j,none⟩=some v):=by
 obtain ⟨h1,h2,h3,h4⟩:=h;rcases zY1s n with h0|h0
 ·have:xs=[]:=zY0c (by omega)
  subst this;exact ⟨[],rfl,by simp,fun h=>by omega⟩
 ·obtain ⟨b,off,e,hF,hc⟩:=h4 h0
  have key:∀ m,m≤xs.length→∃ zs:List (α × List Value),zs.map (·.1)=xs.take m∧(∀ z ∈ zs,S.rep w F z.1 z.2)∧∀ j v,(flat zs)[j]? = some v→w.cell? ⟨b,off+j,none⟩=some v:=by
   intro m
   induction m with
   | zero=>intro _;exact ⟨[],by simp,by simp,by simp [flat]⟩
   | succ m ih =>
    intro hm;obtain ⟨zs,z1,z2,z3⟩:=ih (by omega);obtain ⟨cs,hr,hv⟩:=hc m (by omega);have hl:∀ z ∈ zs,z.2.length=S.size:=fun z hz=>S.len (z2 z hz)
    have hzl:zs.length=m:=by have:=congrArg List.length z1;simp at this;omega
    refine ⟨zs++[(xs[m],cs)],?_,?_,?_⟩
    ·rw [z3h (zY03 (by omega)),zY23,z1];rfl
    ·intro z hz
     rcases zY12.1 hz with h|h
     ·exact z2 z h
     ·simp at h;subst h;exact hr
    ·intro j v hj
     rw [zf3] at hj
     by_cases hjl:j<(flat zs).length
     ·rw [zY0l hjl] at hj;exact z3 j v hj
     ·rw [zY0p (by omega)] at hj
      have e2:flat [(xs[m],cs)]=cs:=by simp [flat]
      rw [e2] at hj;have:=hv _ v hj;rw [z8h hl,hzl] at hjl this;rw [show off+m * S.size+(j - m * S.size)=off+j by omega] at this;exact this
  obtain ⟨zs,z1,z2,z3⟩:=key xs.length (zY0k _);exact ⟨zs,by rw [z1,zY1j],z2,fun _=>⟨b,off,e,hF,z3⟩⟩
theorem zik {w:World} {base e size n k:Nat} {v:Value} {xs:List Value} (h:w.ownsRow base e size v n xs) (hk:v.ownBlock=some k):base≤k:=by
 rcases h.2 with ⟨rfl,_⟩|⟨g,cap,cur,rfl,hg,_⟩
 ·cases hk
 ·have:g=k:=by simpa [Value.ownBlock] using hk
  omega
theorem Rds.of_block {α:Type} {S:Sh α} {w:World} {F:Nat→Prop} {g e cap:Nat} {cur:Array Value} {z:Nat × Nat} {zs:List (α × List Value)} (hh:w.heap[g]? = some (.cells cur e z)) (hc:cur.toList=flat zs)
  (hz:∀ z ∈ zs,S.rep w F z.1 z.2) (hF:F g) (hcap:zs.length≤cap) (hm:cap≤9223372036854775807):Rds S w F (zs.map (·.1)) (some ⟨g,0,none⟩) zs.length cap:=by
 refine ⟨by simp,hcap,hm,fun _=>⟨g,0,rfl,hF,fun i hi=>?_⟩⟩;have hi':i<zs.length:=by simpa using hi
 refine ⟨zs[i].2,by simpa using hz _ (zY1w hi'),fun j u hj=>?_⟩;have hjl:j<S.size:=by
  have:=S.len (hz _ (zY1w hi'));have:=(zY02.1 hj).1;omega
 have e1:=z0r4 (fun z hz'=>S.len (hz z hz')) (zY03 hi') hjl;rw [hj,← hc] at e1;rw [cell_of_row w g _ cur _ z hh,zY0x];simpa using e1
theorem zil {w:World} {g:Nat} {x:Obj} (h:w.heap[g]? = some x):g<w.heap.size:=by
 rcases zY1x g w.heap.size with h'|h'
 ·exact h'
 ·rw [zY19 h'] at h;cases h
theorem z6g {w w':World} {B g:Nat} {x:Obj} (h:w.heap[g]? = some x) (hb:Below B w w') (hg:g<B):w'.heap[g]? = some x:=(hb.block g hg).trans h
theorem z61 {w:World} {g i t:Nat} {cs:Array Value} (h:w.heap[g]? = some (.cells cs t (0,0))):w.cell? ⟨g,i,none⟩=cs[i]?:=cell_of_row w g i cs t (0,0) h
theorem zly {w:World} {g i t:Nat} {cs:Array Value} (h:w.heap[g]? = some (.cells cs t (0,0))):w.frozen? ⟨g,i,none⟩=false:=frozen_of_row w g i cs t h
theorem z0fs {w:World} {g i t:Nat} {cs:Array Value} {u:Value} (h:w.heap[g]? = some (.cells cs t (0,0))):(w.setCell ⟨g,i,none⟩ u).heap[g]? = some (.cells (cs.setIfInBounds i u) t (0,0)):=by simp [World.setCell,zY2h,h]
def zlz (cs:List Value):Prop:=∀ u ∈ cs,u.oneCell'=true
def Sh.ones {α:Type} (S:Sh α):Prop:=∀ {w F x cs},S.rep w F x cs→zlz cs
theorem zuc {α:Type} {S:Sh α} (hS:S.ones) {w:World} {F:Nat→Prop} {zs:List (α × List Value)} (hz:∀ z ∈ zs,S.rep w F z.1 z.2):zlz (flat zs):=by
 intro u hu;simp only [flat,List.mem_flatten,zY2w] at hu;obtain ⟨l,⟨z,hz',rfl⟩,hu⟩:=hu;exact hS (hz z hz') u hu
theorem z4e:shInt.ones:=by rintro w F x cs ⟨rfl,_⟩ u hu;simp at hu;subst hu;rfl
theorem z0ke:shBool.ones:=by rintro w F x cs rfl u hu;simp at hu;subst hu;rfl
theorem z027:shStr.ones:=by rintro w F x cs ⟨rfl,_⟩ u hu;simp at hu;subst hu;rfl
theorem z9s {α:Type} (S:Sh α):(z0h S).ones:=by rintro w F x cs ⟨A,n,c,rfl,_⟩ u hu;simp at hu;subst hu;rfl
theorem z4v {α β τ:Type} {S0:Sh α} {S1:Sh β} {f:α→β→τ} (h0:S0.ones) (h1:S1.ones):(z3j S0 S1 f).ones:=by
 rintro w F x cs ⟨a,b,ca,cb,rfl,rfl,ha,hb⟩ u hu;rcases zY12.1 hu with h|h
 ·exact h0 ha u h
 ·exact h1 hb u h
theorem z0r5:shOp.ones:=z4v z4e z4e
theorem zoo:shPoint.ones:=z4v z4e z4e
theorem z0r6:shIn.ones:=z4v zoo (z9s _)
theorem z028:shOut.ones:=z4v z4e (z9s _)
theorem z0r7:shTx.ones:=z4v z4e (z4v (z9s _) (z9s _))
theorem zud:shCoin.ones:=z4v zoo (z4v z028 (z4v z4e z0ke))
theorem z0gy:shBlock.ones:=z4v z4e (z4v z4e (z4v z4e (z4v z4e (z9s _))))
end
section
open Go.RowKit
set_option maxRecDepth 100000
theorem z9t (b off k:Nat):(Addr.mk b off none).add k=⟨b,off+k,none⟩:=by unfold Addr.add;split <;> simp_all
theorem z3i (w:World) (e s:Nat):(w.alloc (.cells #[] e)).ownsRow w.heap.size e s (.slice (some ⟨w.heap.size,0,none⟩) 0 0) 0 [] :=
 ⟨by simp,.inr ⟨w.heap.size,0,#[],rfl,zY0k _,heap_alloc_new w _,zY0k _,by unfold maxLen;omega,by simp,by simp⟩⟩
def z4i {α:Type} (S:Sh α) (e:Nat) (w:World) (F:Nat→Prop) (xs:List α) (n:Nat) (r:Ending) (w':World):Prop :=
 ∃ (v:Value) (zs:List (α × List Value)),r = .returned v∧zs.map (·.1)=xs∧(∀ z ∈ zs,S.rep w F z.1 z.2)∧w'.ownsRow w.heap.size e S.size v n (flat zs)∧Below w.heap.size w w'
theorem z97 {α:Type} {S:Sh α} {w:World} {F:Nat→Prop} {xs:List α} {n c e:Nat} (h:Rds S w F xs none n c):n=0∧z4i S e w F xs n (.returned (.slice none 0 0)) w:=by
 have h0:n=0:=by
  rcases zY1s n with h0|h0
  ·exact h0
  ·obtain ⟨b,off,e,_⟩:=h.2.2.2 h0;cases e
 subst h0;have hx:xs=[]:=zY0c h.1;subst hx;exact ⟨rfl,_,[],rfl,rfl,by simp,World.ownsRow_nil _ _ _ _,Below.refl _ _⟩
theorem z98 {α:Type} {S:Sh α} {w:World} {F:Nat→Prop} {xs:List α} {ad:Addr} {n c:Nat} (e k:Nat) (hS:S.ones) (hk:S.size=k) (h:Rds S w F xs (some ad) n c) (hF:∀ b,F b→b<w.heap.size):∃ zs:List (α × List Value),Hid (zs.map (·.1)=xs)∧(∀ z ∈ zs,S.rep w F z.1 z.2)∧Hid ((flat zs).length=n * k)∧Hid (∀ j u,(flat zs)[j]? = some u→(w.alloc (.cells #[] e)).cell? (ad.add j)=some u)∧Hid (∀ u ∈ flat zs,u.oneCell'=true):=by
 obtain ⟨zs,z1,z2,z3⟩:=h.pairs;have hl:zs.length=n:=by have:=congrArg List.length z1;simp at this;have:=h.1;omega
 have hfl:(flat zs).length=n * S.size:=by rw [z8h (fun z hz=>S.len (z2 z hz)),hl]
 refine ⟨zs,Lib.hid z1,z2,Lib.hid (by rw [hfl,hk]),Lib.hid fun j u hj=>?_,Lib.hid (zuc hS z2)⟩;have hj':=(zY02.1 hj).1;have hn0:n≠0:=fun h0=>by rw [hfl,h0,zY3o] at hj';omega
 obtain ⟨b,off,e,hFb,hc⟩:=z3 (by omega);injection e with e
 subst e;rw [z9t,World.cell?_alloc_lt w _ _ (hF b hFb)];exact hc j u hj
theorem zef {P:Program} {e k y:Nat} (h1:(P.info? e).map (fun i=>(i.zero.map (·.cells.size),i.size,i.bytes))=some (some k,k,y)):∃ i z,P.info? e=some i∧i.zero=some z∧i.size=k∧i.bytes=y∧z.cells.size=k :=
 match hh:P.info? e,h1 with
 | some i,h1=>by
  simp only [zY1a,zY00,zY16] at h1
  match hz:i.zero,h1 with
  | some z,h1=>exact ⟨i,z,rfl,hz,h1.2.1,h1.2.2,by simpa using h1.1⟩
theorem zbn {α:Type} {S:Sh α} {w w1:World} {F:Nat→Prop} {xs:List α} {zs:List (α × List Value)} {e n:Nat} {v':Value} (z1:Hid (zs.map (·.1)=xs)) (z2:∀ z ∈ zs,S.rep w F z.1 z.2) (ho:w1.ownsRow w.heap.size e S.size v' (0+n) ([]++flat zs)) (hg:(w.alloc (.cells #[] e)).grownBy w1 (Value.slice (some ⟨w.heap.size,0,none⟩) 0 0).ownBlock):z4i S e w F xs n (.returned v') w1:=by
 rw [zY0x,zY17] at ho;exact ⟨v',zs,rfl,z1.out,z2,ho,((Below.refl _ _).alloc (zY0k _) _).grown hg (by simp) (fun k hk=>by injection hk with hk;exact Nat.le_of_eq hk)⟩
theorem z0kf (xs:List (Int)) (A:Option Addr) (n c:Nat) (w:World) (F:Nat→Prop) (h:Rds shInt w F xs A n c) (hF:∀ b,F b→b<w.heap.size) (hn:n * 8≤140737488355328) :
  Calls Tryz.prog 87 #[.slice A n c] w (z4i shInt 3 w F xs n):=by
 have hq:=fun (W:World)=>Lib.run_eql_slice_nil (P:=Tryz.prog) W 58 3 A n c 0 0 Tryz.underlying58
 cases A with
 | none =>
  obtain ⟨rfl,hc⟩:=z97 (e:=3) h;clear h;go_enter Tryz.func87,Tryz.ntmps87;go_wp2;go_ret;exact hc
 | some ad =>
  obtain ⟨zs,z1,z2,HL,HN,H1⟩:=z98 3 1 z4e rfl h hF;obtain ⟨i0,zv,hi,hz0,hz1,hz2,hz3⟩:=zef (P:=Tryz.prog) (e:=3) (k:=1) (y:=8) (by kernel_rfl);clear h;go_enter Tryz.func87,Tryz.ntmps87;go_wp2_with (at_builtin;refine wpList_append_own_at _ rfl _ _ 58 rfl w.heap.size 3 i0 zv 1 8 Tryz.underlying58 hi hz0 hz1 hz2 hz3 (by omega) _ 0 [] rfl (z3i w _ _) ad n c (flat zs) rfl HL.out HN.out H1.out (by unfold maxLen;omega) (by rw [zY0x];exact hn) (by simp) ?_;intro v' w1 hown hgr _ _);go_ret;exact zbn z1 z2 hown hgr
theorem z0kg (xs:List (List UInt8)) (A:Option Addr) (n c:Nat) (w:World) (F:Nat→Prop) (h:Rds shStr w F xs A n c) (hF:∀ b,F b→b<w.heap.size) (hn:n * 16≤140737488355328) :
  Calls Tryz.prog 46 #[.slice A n c] w (z4i shStr 9 w F xs n):=by
 have hq:=fun (W:World)=>Lib.run_eql_slice_nil (P:=Tryz.prog) W 22 9 A n c 0 0 Tryz.underlying22
 cases A with
 | none =>
  obtain ⟨rfl,hc⟩:=z97 (e:=9) h;clear h;go_enter Tryz.func46,Tryz.ntmps46;go_wp2;go_ret;exact hc
 | some ad =>
  obtain ⟨zs,z1,z2,HL,HN,H1⟩:=z98 9 1 z027 rfl h hF;obtain ⟨i0,zv,hi,hz0,hz1,hz2,hz3⟩:=zef (P:=Tryz.prog) (e:=9) (k:=1) (y:=16) (by kernel_rfl);clear h;go_enter Tryz.func46,Tryz.ntmps46;go_wp2_with (at_builtin;refine wpList_append_own_at _ rfl _ _ 22 rfl w.heap.size 9 i0 zv 1 16 Tryz.underlying22 hi hz0 hz1 hz2 hz3 (by omega) _ 0 [] rfl (z3i w _ _) ad n c (flat zs) rfl HL.out HN.out H1.out (by unfold maxLen;omega) (by rw [zY0x];exact hn) (by simp) ?_;intro v' w1 hown hgr _ _);go_ret;exact zbn z1 z2 hown hgr
theorem z0o4 (xs:List (Op)) (A:Option Addr) (n c:Nat) (w:World) (F:Nat→Prop) (h:Rds shOp w F xs A n c) (hF:∀ b,F b→b<w.heap.size) (hn:n * 16≤140737488355328) :
  Calls Tryz.prog 64 #[.slice A n c] w (z4i shOp 103 w F xs n):=by
 have hq:=fun (W:World)=>Lib.run_eql_slice_nil (P:=Tryz.prog) W 47 103 A n c 0 0 Tryz.underlying47
 cases A with
 | none =>
  obtain ⟨rfl,hc⟩:=z97 (e:=103) h;clear h;go_enter Tryz.func64,Tryz.ntmps64;go_wp2;go_ret;exact hc
 | some ad =>
  obtain ⟨zs,z1,z2,HL,HN,H1⟩:=z98 103 2 z0r5 rfl h hF;obtain ⟨i0,zv,hi,hz0,hz1,hz2,hz3⟩:=zef (P:=Tryz.prog) (e:=103) (k:=2) (y:=16) (by kernel_rfl);clear h;go_enter Tryz.func64,Tryz.ntmps64;go_wp2_with (at_builtin;refine wpList_append_own_at _ rfl _ _ 47 rfl w.heap.size 103 i0 zv 2 16 Tryz.underlying47 hi hz0 hz1 hz2 hz3 (by omega) _ 0 [] rfl (z3i w _ _) ad n c (flat zs) rfl HL.out HN.out H1.out (by unfold maxLen;omega) (by rw [zY0x];exact hn) (by simp) ?_;intro v' w1 hown hgr _ _);go_ret;exact zbn z1 z2 hown hgr
theorem z0o5 (xs:List (In)) (A:Option Addr) (n c:Nat) (w:World) (F:Nat→Prop) (h:Rds shIn w F xs A n c) (hF:∀ b,F b→b<w.heap.size) (hn:n * 40≤140737488355328) :
  Calls Tryz.prog 95 #[.slice A n c] w (z4i shIn 105 w F xs n):=by
 have hq:=fun (W:World)=>Lib.run_eql_slice_nil (P:=Tryz.prog) W 27 105 A n c 0 0 Tryz.underlying27
 cases A with
 | none =>
  obtain ⟨rfl,hc⟩:=z97 (e:=105) h;clear h;go_enter Tryz.func95,Tryz.ntmps95;go_wp2;go_ret;exact hc
 | some ad =>
  obtain ⟨zs,z1,z2,HL,HN,H1⟩:=z98 105 3 z0r6 rfl h hF;obtain ⟨i0,zv,hi,hz0,hz1,hz2,hz3⟩:=zef (P:=Tryz.prog) (e:=105) (k:=3) (y:=40) (by kernel_rfl);clear h;go_enter Tryz.func95,Tryz.ntmps95;go_wp2_with (at_builtin;refine wpList_append_own_at _ rfl _ _ 27 rfl w.heap.size 105 i0 zv 3 40 Tryz.underlying27 hi hz0 hz1 hz2 hz3 (by omega) _ 0 [] rfl (z3i w _ _) ad n c (flat zs) rfl HL.out HN.out H1.out (by unfold maxLen;omega) (by rw [zY0x];exact hn) (by simp) ?_;intro v' w1 hown hgr _ _);go_ret;exact zbn z1 z2 hown hgr
theorem z0kh (xs:List (Out)) (A:Option Addr) (n c:Nat) (w:World) (F:Nat→Prop) (h:Rds shOut w F xs A n c) (hF:∀ b,F b→b<w.heap.size) (hn:n * 32≤140737488355328) :
  Calls Tryz.prog 96 #[.slice A n c] w (z4i shOut 99 w F xs n):=by
 have hq:=fun (W:World)=>Lib.run_eql_slice_nil (P:=Tryz.prog) W 28 99 A n c 0 0 Tryz.underlying28
 cases A with
 | none =>
  obtain ⟨rfl,hc⟩:=z97 (e:=99) h;clear h;go_enter Tryz.func96,Tryz.ntmps96;go_wp2;go_ret;exact hc
 | some ad =>
  obtain ⟨zs,z1,z2,HL,HN,H1⟩:=z98 99 2 z028 rfl h hF;obtain ⟨i0,zv,hi,hz0,hz1,hz2,hz3⟩:=zef (P:=Tryz.prog) (e:=99) (k:=2) (y:=32) (by kernel_rfl);clear h;go_enter Tryz.func96,Tryz.ntmps96;go_wp2_with (at_builtin;refine wpList_append_own_at _ rfl _ _ 28 rfl w.heap.size 99 i0 zv 2 32 Tryz.underlying28 hi hz0 hz1 hz2 hz3 (by omega) _ 0 [] rfl (z3i w _ _) ad n c (flat zs) rfl HL.out HN.out H1.out (by unfold maxLen;omega) (by rw [zY0x];exact hn) (by simp) ?_;intro v' w1 hown hgr _ _);go_ret;exact zbn z1 z2 hown hgr
theorem z0o6 (xs:List (Tx)) (A:Option Addr) (n c:Nat) (w:World) (F:Nat→Prop) (h:Rds shTx w F xs A n c) (hF:∀ b,F b→b<w.heap.size) (hn:n * 56≤140737488355328) :
  Calls Tryz.prog 62 #[.slice A n c] w (z4i shTx 30 w F xs n):=by
 have hq:=fun (W:World)=>Lib.run_eql_slice_nil (P:=Tryz.prog) W 26 30 A n c 0 0 Tryz.underlying26
 cases A with
 | none =>
  obtain ⟨rfl,hc⟩:=z97 (e:=30) h;clear h;go_enter Tryz.func62,Tryz.ntmps62;go_wp2;go_ret;exact hc
 | some ad =>
  obtain ⟨zs,z1,z2,HL,HN,H1⟩:=z98 30 3 z0r7 rfl h hF;obtain ⟨i0,zv,hi,hz0,hz1,hz2,hz3⟩:=zef (P:=Tryz.prog) (e:=30) (k:=3) (y:=56) (by kernel_rfl);clear h;go_enter Tryz.func62,Tryz.ntmps62;go_wp2_with (at_builtin;refine wpList_append_own_at _ rfl _ _ 26 rfl w.heap.size 30 i0 zv 3 56 Tryz.underlying26 hi hz0 hz1 hz2 hz3 (by omega) _ 0 [] rfl (z3i w _ _) ad n c (flat zs) rfl HL.out HN.out H1.out (by unfold maxLen;omega) (by rw [zY0x];exact hn) (by simp) ?_;intro v' w1 hown hgr _ _);go_ret;exact zbn z1 z2 hown hgr
theorem z0bu (xs:List (Block)) (A:Option Addr) (n c:Nat) (w:World) (F:Nat→Prop) (h:Rds shBlock w F xs A n c) (hF:∀ b,F b→b<w.heap.size) (hn:n * 56≤140737488355328) :
  Calls Tryz.prog 149 #[.slice A n c] w (z4i shBlock 49 w F xs n):=by
 have hq:=fun (W:World)=>Lib.run_eql_slice_nil (P:=Tryz.prog) W 73 49 A n c 0 0 Tryz.underlying73
 cases A with
 | none =>
  obtain ⟨rfl,hc⟩:=z97 (e:=49) h;clear h;go_enter Tryz.func149,Tryz.ntmps149;go_wp2;go_ret;exact hc
 | some ad =>
  obtain ⟨zs,z1,z2,HL,HN,H1⟩:=z98 49 5 z0gy rfl h hF;obtain ⟨i0,zv,hi,hz0,hz1,hz2,hz3⟩:=zef (P:=Tryz.prog) (e:=49) (k:=5) (y:=56) (by kernel_rfl);clear h;go_enter Tryz.func149,Tryz.ntmps149;go_wp2_with (at_builtin;refine wpList_append_own_at _ rfl _ _ 73 rfl w.heap.size 49 i0 zv 5 56 Tryz.underlying73 hi hz0 hz1 hz2 hz3 (by omega) _ 0 [] rfl (z3i w _ _) ad n c (flat zs) rfl HL.out HN.out H1.out (by unfold maxLen;omega) (by rw [zY0x];exact hn) (by simp) ?_;intro v' w1 hown hgr _ _);go_ret;exact zbn z1 z2 hown hgr
theorem zop (xs:List (Coin)) (A:Option Addr) (n c:Nat) (w:World) (F:Nat→Prop) (h:Rds shCoin w F xs A n c) (hF:∀ b,F b→b<w.heap.size) (hn:n * 64≤140737488355328) :
  Calls Tryz.prog 93 #[.slice A n c] w (z4i shCoin 101 w F xs n):=by
 have hq:=fun (W:World)=>Lib.run_eql_slice_nil (P:=Tryz.prog) W 25 101 A n c 0 0 Tryz.underlying25
 cases A with
 | none =>
  obtain ⟨rfl,hc⟩:=z97 (e:=101) h;clear h;go_enter Tryz.func93,Tryz.ntmps93;go_wp2;go_ret;exact hc
 | some ad =>
  obtain ⟨zs,z1,z2,HL,HN,H1⟩:=z98 101 6 zud rfl h hF;obtain ⟨i0,zv,hi,hz0,hz1,hz2,hz3⟩:=zef (P:=Tryz.prog) (e:=101) (k:=6) (y:=64) (by kernel_rfl);clear h;go_enter Tryz.func93,Tryz.ntmps93;go_wp2_with (at_builtin;refine wpList_append_own_at _ rfl _ _ 25 rfl w.heap.size 101 i0 zv 6 64 Tryz.underlying25 hi hz0 hz1 hz2 hz3 (by omega) _ 0 [] rfl (z3i w _ _) ad n c (flat zs) rfl HL.out HN.out H1.out (by unfold maxLen;omega) (by rw [zY0x];exact hn) (by simp) ?_;intro v' w1 hown hgr _ _);go_ret;exact zbn z1 z2 hown hgr
end
section
open Go.RowKit
end
section
open Go.RowKit
structure Stop (p:Prop):Prop where
 go:p
structure Res where
 block:Option Nat
 holds:Nat→(Nat→Prop)→World→Prop
 keep:∀ {h0:Nat} {F F':Nat→Prop} {W W':World},Agree F W W'→(∀ b,F b→F' b)→(∀ g,block=some g→W'.heap[g]? = W.heap[g]?)→holds h0 F W→holds h0 F' W'
 lt:∀ {h0:Nat} {F:Nat→Prop} {W:World} {g:Nat},holds h0 F W→block=some g→h0≤g∧g<W.heap.size
def zm0 (p:World→(Nat→Prop)→Prop) (k:∀ {W W':World} {F F':Nat→Prop},Agree F W W'→(∀ b,F b→F' b)→p W F→p W' F'):Res:={
 block:=none
 holds _ F W:=p W F
 keep:=fun ha hF _ h=>k ha hF h
 lt:=fun _ h=>by cases h }
def rds {α:Type} (xs:List α) (A:Option Addr) (n c:Nat) (S:Sh α):Res:=zm0 (fun W F=>Rds S W F xs A n c) fun ha hF h=>(h.keep ha).more hF
def rep {α:Type} (x:α) (cs:List Value) (S:Sh α):Res:=zm0 (fun W F=>S.rep W F x cs) fun ha hF h=>S.more hF (S.keep ha h)
def cells (b o:Nat) (cs:List Value):Res:=zm0 (fun W F=>F b∧W.rangeAt b o cs) fun ha hF h=>⟨hF _ h.1,fun j v hj=>(ha.cell (p:=⟨b,o+j,none⟩) h.1).trans (h.2 j v hj)⟩
def box (g:Nat) (cs:List Value) (t:Nat):Res:={
 block:=some g
 holds h0 _ W:=h0≤g∧W.heap[g]? = some (.cells cs.toArray t (0,0))
 keep:=fun _ _ hb h=>⟨h.1,(hb g rfl).trans h.2⟩
 lt:=fun h e=>by injection e with e;subst e;exact ⟨h.1,zil h.2⟩ }
theorem zim {w w':World} {base e size n:Nat} {v:Value} {xs:List Value} (h:w.ownsRow base e size v n xs) (hb:∀ g,v.ownBlock=some g→w'.heap[g]? = w.heap[g]?):w'.ownsRow base e size v n xs:=by
 refine ⟨h.1,?_⟩;rcases h.2 with h0|⟨g,cap,cur,hv,hg,hh,r⟩
 ·exact .inl h0
 ·exact .inr ⟨g,cap,cur,hv,hg,by rw [hb g (by rw [hv];rfl)];exact hh,r⟩
def row {α:Type} (e:Nat) (v:Value) (xs:List α) (S:Sh α):Res:={
 block:=v.ownBlock
 holds h0 F W:=∃ zs:List (α × List Value),zs.map (·.1)=xs∧W.ownsRow h0 e S.size v xs.length (flat zs)∧∀ z ∈ zs,S.rep W F z.1 z.2
 keep:=fun ha hF hb ⟨zs,h1,h2,h3⟩=>⟨zs,h1,zim h2 hb,fun z hz=>S.more hF (S.keep ha (h3 z hz))⟩
 lt:=fun ⟨_,_,h2,_⟩ e=>h2.lt _ e }
def Free (h0:Nat) (F0:Nat→Prop) (Γ:List Res) (W:World) (b:Nat):Prop:=(F0 b∨(h0≤b∧b<W.heap.size))∧∀ r ∈ Γ,r.block≠some b
def All (h0:Nat) (F0:Nat→Prop) (W:World) (b:Nat):Prop:=F0 b∨(h0≤b∧b<W.heap.size)
structure Sep (w0:World) (F0:Nat→Prop) (Γ:List Res) (W:World):Prop where
 below:Below w0.heap.size w0 W
 low:∀ b,F0 b→b<w0.heap.size
 all:∀ r ∈ Γ,r.holds w0.heap.size (Free w0.heap.size F0 Γ W) W
 dj:Γ.Pairwise fun r r'=>∀ g,r.block=some g→r'.block≠some g
def At (Γ:List Res) (r:Res):Prop:=r ∈ Γ
theorem At.z {Γ:List Res} {r:Res}:At (r::Γ) r:=zY0j ..
theorem At.s {Γ:List Res} {r q:Res} (h:At Γ r):At (q::Γ) r:=zY0i _ h
def Put (Γ:List Res) (r r':Res) (Γ':List Res):Prop:=∃ l1 l2,Γ=l1++r::l2∧Γ'=l1++r'::l2
theorem Put.z {Γ:List Res} {r r':Res}:Put (r::Γ) r r' (r'::Γ):=⟨[],Γ,rfl,rfl⟩
theorem Put.s {Γ Γ':List Res} {r r' q:Res} (h:Put Γ r r' Γ'):Put (q::Γ) r r' (q::Γ'):=by
 obtain ⟨l1,l2,rfl,rfl⟩:=h;exact ⟨q::l1,l2,rfl,rfl⟩
def Del (Γ:List Res) (r:Res) (Γ':List Res):Prop:=∃ l1 l2,Γ=l1++r::l2∧Γ'=l1++l2
theorem Del.z {Γ:List Res} {r:Res}:Del (r::Γ) r Γ:=⟨[],Γ,rfl,rfl⟩
theorem Del.s {Γ Γ':List Res} {r q:Res} (h:Del Γ r Γ'):Del (q::Γ) r (q::Γ'):=by
 obtain ⟨l1,l2,rfl,rfl⟩:=h;exact ⟨q::l1,l2,rfl,rfl⟩
theorem Put.at_ {Γ Γ':List Res} {r r':Res} (h:Put Γ r r' Γ'):At Γ r:=by
 obtain ⟨l1,l2,rfl,rfl⟩:=h;simp [At]
def Sub (Γ' Γ:List Res):Prop:=∃ l,Γ.Perm (Γ'++l)
theorem Sub.nil {Γ:List Res}:Sub [] Γ:=⟨Γ,by simp⟩
theorem Sub.refl {Γ:List Res}:Sub Γ Γ:=⟨[],by simp⟩
theorem Sub.skip {Γ Γ':List Res} {r:Res} (h:Sub Γ' Γ):Sub Γ' (r::Γ):=by
 obtain ⟨l,hl⟩:=h;exact ⟨r::l,(hl.cons r).trans List.perm_middle.symm⟩
theorem Sub.take {Γ Γ1 Γ':List Res} {r:Res} (hd:Del Γ r Γ1) (h:Sub Γ' Γ1):Sub (r::Γ') Γ:=by
 obtain ⟨l1,l2,rfl,rfl⟩:=hd;obtain ⟨l,hl⟩:=h;exact ⟨l,List.perm_middle.trans (hl.cons r)⟩
section
variable {w0 W W':World} {F0:Nat→Prop} {Γ Γ':List Res}
theorem Sep.size (h:Sep w0 F0 Γ W):w0.heap.size≤W.heap.size:=h.below.size
theorem Free.lt (h:Sep w0 F0 Γ W) {b:Nat} (hb:Free w0.heap.size F0 Γ W b):b<W.heap.size:=by
 rcases hb.1 with h1|h1
 ·exact zY1t (h.low b h1) h.size
 ·exact h1.2
theorem Free.all {h0:Nat} {b:Nat} (hb:Free h0 F0 Γ W b):All h0 F0 W b:=hb.1
theorem All.lt (h:Sep w0 F0 Γ W) {b:Nat} (hb:All w0.heap.size F0 W b):b<W.heap.size:=by
 rcases hb with h1|h1
 ·exact zY1t (h.low b h1) h.size
 ·exact h1.2
theorem Sep.start (w:World) (F:Nat→Prop) (hF:∀ b,F b→b<w.heap.size):Sep w F [] w:=⟨Below.refl _ _,hF,by simp,List.Pairwise.nil⟩
theorem Sep.get (h:Sep w0 F0 Γ W) {r:Res} (hr:At Γ r):r.holds w0.heap.size (Free w0.heap.size F0 Γ W) W:=h.all r hr
theorem Sep.out (h:Sep w0 F0 Γ W) {r:Res} (hr:At Γ r):r.holds w0.heap.size (All w0.heap.size F0 W) W:=r.keep (fun _ _=>rfl) (fun b hb=>hb.1) (fun _ _=>rfl) (h.all r hr)
theorem Sep.lts (h:Sep w0 F0 Γ W) {r:Res} (hr:At Γ r):r.holds w0.heap.size (Lt W.heap.size) W:=r.keep (fun _ _=>rfl) (fun b hb=>Free.lt h hb) (fun _ _=>rfl) (h.all r hr)
theorem Sep.sub (h:Sep w0 F0 Γ W) (hs:Sub Γ' Γ):Sep w0 F0 Γ' W:=by
 obtain ⟨l,hl⟩:=hs;have hm:∀ r ∈ Γ',r ∈ Γ:=fun r hr=>hl.mem_iff.2 (List.mem_append_left _ hr)
 refine ⟨h.below,h.low,fun r hr=>r.keep (fun _ _=>rfl) (fun b hb=>⟨hb.1,fun q hq=>hb.2 q (hm q hq)⟩) (fun _ _=>rfl) (h.all r (hm r hr)),?_⟩;have hp:=(hl.pairwise_iff (R:=fun r r':Res=>∀ g,r.block=some g→r'.block≠some g) (fun hab g hb ha=>hab g ha hb)).1 h.dj;exact (zY2l.1 hp).1
theorem Sep.grow (h:Sep w0 F0 Γ W) (hg:W.grownBy W' none) {r:Res} (hr:r.holds w0.heap.size (Free w0.heap.size F0 (r::Γ) W') W') (hb:∀ g,r.block=some g→W.heap.size≤g):Sep w0 F0 (r::Γ) W':=by
 have hsz:=h.size;have hfree:∀ b,Free w0.heap.size F0 Γ W b→Free w0.heap.size F0 (r::Γ) W' b:=by
  intro b hb';have hlt:=Free.lt h hb';refine ⟨hb'.1.imp (fun x=>x) (fun x=>⟨x.1,zY1t x.2 hg.size⟩),fun q hq=>?_⟩;rcases zY0g.1 hq with rfl|hq
  ·intro e
   have:=hb b e;omega
  ·exact hb'.2 q hq
 refine ⟨h.below.grown hg hsz (fun k hk=>by cases hk),h.low,?_,?_⟩
 ·intro q hq
  rcases zY0g.1 hq with rfl|hq
  ·exact hr
  ·exact q.keep (fun b hb'=>hg.block b (Free.lt h hb') (by simp)) hfree (fun g hg'=>hg.block g (q.lt (h.all q hq) hg').2 (by simp)) (h.all q hq)
 ·refine zY1d.2 ⟨fun q hq g h1 h2=>?_,h.dj⟩
  have h3:=hb g h1;have h4:=(q.lt (h.all q hq) h2).2;omega
theorem Sep.more (h:Sep w0 F0 Γ W) (hg:W.grownBy W' none):Sep w0 F0 Γ W':=by
 have hfree:∀ b,Free w0.heap.size F0 Γ W b→Free w0.heap.size F0 Γ W' b:=fun b hb' =>
  ⟨hb'.1.imp (fun x=>x) (fun x=>⟨x.1,zY1t x.2 hg.size⟩),hb'.2⟩
 exact ⟨h.below.grown hg h.size (fun k hk=>by cases hk),h.low,fun q hq=>q.keep (fun b hb'=>hg.block b (Free.lt h hb') (by simp)) hfree (fun g hg'=>hg.block g (q.lt (h.all q hq) hg').2 (by simp)) (h.all q hq),h.dj⟩
theorem zri {W W':World} {row:Option Nat} (h:Below W.heap.size W W'):W.grownBy W' row:=⟨h.os,h.tape,h.output,h.size,fun k hk _=>h.block k hk⟩
theorem Sep.belows (h:Sep w0 F0 Γ W) (hb:Below W.heap.size W W'):Sep w0 F0 Γ W':=h.more (zri hb)
theorem Sep.drew (h:Sep w0 F0 Γ W):Sep w0 F0 Γ W.drew:=h.belows (Below.refl _ _).drew
theorem Sep.drewN (h:Sep w0 F0 Γ W) (n:Nat):Sep w0 F0 Γ (W.drewN n):=h.belows (zf0 (Below.refl _ _) n)
theorem Sep.add (h:Sep w0 F0 Γ W) {r:Res} (hn:r.block=none) (hr:r.holds w0.heap.size (Free w0.heap.size F0 Γ W) W):Sep w0 F0 (r::Γ) W:=by
 refine h.grow ⟨rfl,rfl,rfl,zY0k _,fun _ _ _=>rfl⟩ (r.keep (fun _ _=>rfl) (fun b hb=>⟨hb.1,fun q hq=>?_⟩) (fun _ _=>rfl) hr) (fun g hg=>by rw [hn] at hg;cases hg);rcases zY0g.1 hq with rfl|hq
 ·rw [hn];simp
 ·exact hb.2 q hq
theorem Sep.lift (h:Sep w0 F0 Γ W) {r q:Res} (hn:q.block=none) (hr:r.holds w0.heap.size (Free w0.heap.size F0 Γ W) W):r.holds w0.heap.size (Free w0.heap.size F0 (q::Γ) W) W :=
 r.keep (fun _ _=>rfl) (fun b hb=>⟨hb.1,fun p hp=>by
  rcases zY0g.1 hp with rfl|hp
  ·rw [hn];simp
  ·exact hb.2 p hp⟩) (fun _ _=>rfl) hr
theorem Sep.add2 (h:Sep w0 F0 Γ W) {r q:Res} (hn:r.block=none) (hm:q.block=none) (hr:r.holds w0.heap.size (Free w0.heap.size F0 Γ W) W) (hq:q.holds w0.heap.size (Free w0.heap.size F0 Γ W) W):Sep w0 F0 (r::q::Γ) W :=
 (h.add hm hq).add hn (h.lift hm hr)
theorem Sep.put (h:Sep w0 F0 Γ W) {r r':Res} (hp:Put Γ r r' Γ') (hg:W.grownBy W' r.block) (hb:∀ g,r'.block=some g→r.block=some g∨W.heap.size≤g)
  (hr:(∀ b,Free w0.heap.size F0 Γ W b→Free w0.heap.size F0 Γ' W' b)→Agree (Free w0.heap.size F0 Γ W) W W'→r.holds w0.heap.size (Free w0.heap.size F0 Γ W) W→r'.holds w0.heap.size (Free w0.heap.size F0 Γ' W') W'):Sep w0 F0 Γ' W':=by
 obtain ⟨l1,l2,rfl,rfl⟩:=hp;have hmr:r ∈ l1++r::l2:=by simp
 have hother:∀ q,q ∈ l1∨q ∈ l2→q ∈ l1++r::l2:=fun q hq=>by rcases hq with hq|hq <;> simp [hq]
 have hp:=zY2l.1 h.dj;have hp2:=zY1d.1 hp.2.1;have hdj:∀ q,q ∈ l1∨q ∈ l2→∀ g,q.block=some g→r.block≠some g:=by
  intro q hq g h1 h2;rcases hq with hq|hq
  ·exact hp.2.2 q hq r (by simp) g h1 h2
  ·exact hp2.1 q hq g h2 h1
 have hfree:∀ b,Free w0.heap.size F0 (l1++r::l2) W b→Free w0.heap.size F0 (l1++r'::l2) W' b:=by
  intro b hb';have hlt:=Free.lt h hb';refine ⟨hb'.1.imp (fun x=>x) (fun x=>⟨x.1,zY1t x.2 hg.size⟩),fun q hq=>?_⟩;simp only [zY12,zY0g] at hq;rcases hq with hq|rfl|hq
  ·exact hb'.2 q (hother q (.inl hq))
  ·intro e
   rcases hb b e with h1|h1
   ·exact hb'.2 r hmr h1
   ·omega
  ·exact hb'.2 q (hother q (.inr hq))
 have hag:Agree (Free w0.heap.size F0 (l1++r::l2) W) W W':=fun b hb'=>hg.block b (Free.lt h hb') (fun e=>hb'.2 r hmr e.symm)
 have hkeep:∀ q,q ∈ l1∨q ∈ l2→q.holds w0.heap.size (Free w0.heap.size F0 (l1++r'::l2) W') W':=fun q hq =>
  q.keep hag hfree (fun g hg'=>hg.block g (q.lt (h.all q (hother q hq)) hg').2 (fun e=>hdj q hq g hg' e.symm)) (h.all q (hother q hq))
 refine ⟨h.below.grown hg h.size (fun k hk=>(r.lt (h.all r hmr) hk).1),h.low,?_,?_⟩
 ·intro q hq
  simp only [zY12,zY0g] at hq;rcases hq with hq|rfl|hq
  ·exact hkeep q (.inl hq)
  ·exact hr hfree hag (h.all r hmr)
  ·exact hkeep q (.inr hq)
 ·have hnew:∀ q,q ∈ l1∨q ∈ l2→∀ g,q.block=some g→r'.block≠some g:=by
   intro q hq g h1 h2;rcases hb g h2 with h3|h3
   ·exact hdj q hq g h1 h3
   ·have:=(q.lt (h.all q (hother q hq)) h1).2
    omega
  refine zY2l.2 ⟨hp.1,zY1d.2 ⟨fun q hq g h1 h2=>hnew q (.inr hq) g h2 h1,hp2.2⟩,?_⟩;intro q hq q' hq' g h1 h2;rcases zY0g.1 hq' with rfl|hq'
  ·exact hnew q (.inl hq) g h1 h2
  ·exact hp.2.2 q hq q' (by simp [hq']) g h1 h2
theorem Sep.alloc (h:Sep w0 F0 Γ W) (cs:List Value) (t:Nat):Sep w0 F0 (box W.heap.size cs t::Γ) (W.alloc (.cells cs.toArray t)) :=
 h.grow (World.grownBy_alloc W _ none) ⟨h.size,heap_alloc_new W _⟩ (fun g hg=>by injection hg with hg;omega)
theorem Sep.store (h:Sep w0 F0 Γ W) {g t j:Nat} {cs:List Value} (u:Value) (hp:Put Γ (box g cs t) (box g (cs.set j u) t) Γ'):Sep w0 F0 Γ' (W.setCell ⟨g,j,none⟩ u):=by
 refine h.put hp ⟨rfl,rfl,rfl,by simp [World.setCell],fun k hk hne=>Below.heap_setCell _ _ _ _ (fun e=>hne (by rw [e];rfl))⟩ (fun g' hg'=>.inl hg') ?_;intro _ _ hr;refine ⟨hr.1,?_⟩;have:=z0fs (i:=j) (u:=u) hr.2;rw [this];simp
theorem Sep.freeze (h:Sep w0 F0 Γ W) {r r':Res} (hp:Put Γ r r' Γ') (hn:r'.block=none) (hr:(∀ b,Free w0.heap.size F0 Γ W b∨(r.block=some b∧w0.heap.size≤b∧b<W.heap.size)→Free w0.heap.size F0 Γ' W b)→r.holds w0.heap.size (Free w0.heap.size F0 Γ W) W→r'.holds w0.heap.size (Free w0.heap.size F0 Γ' W) W):Sep w0 F0 Γ' W:=by
 refine h.put hp ⟨rfl,rfl,rfl,zY0k _,fun _ _ _=>rfl⟩ (fun g hg=>by rw [hn] at hg;cases hg) ?_;intro hf _ hh;refine hr (fun b hb=>?_) hh;rcases hb with hb|⟨hb,h1,h2⟩
 ·exact hf b hb
 ·refine ⟨.inr ⟨h1,h2⟩,fun q hq e=>?_⟩
  obtain ⟨l1,l2,rfl,rfl⟩:=hp;have hp:=zY2l.1 h.dj;have hp2:=zY1d.1 hp.2.1;simp only [zY12,zY0g] at hq;rcases hq with hq|rfl|hq
  ·exact hp.2.2 q hq r (by simp) b e hb
  ·rw [hn] at e;cases e
  ·exact hp2.1 q hq b hb e
end
def AggN (P:Program) (t:TypeId) (n:Nat):Prop:=∃ d,P.underlying t=some d∧d.isRow=true∧(P.info? t).map (·.size)=some n
def OneT (P:Program) (t:TypeId):Prop:=∃ d,P.underlying t=some d∧d.isRow=false∧(P.info? t).map (·.size)=some 1
def z5n (P:Program) (t:TypeId) (cs:List Value):Prop:=∃ z:Value,z.cells=cs.toArray∧∀ W,(zeroValue t).run P W = .ok z W
def SliceT (P:Program) (t e size bytes:Nat):Prop:=P.underlying t=some (.slice e)∧∃ i z,P.info? e=some i∧i.zero=some z∧i.size=size∧i.bytes=bytes∧z.cells.size=size
theorem SliceT.mk {P:Program} {t e size bytes:Nat} (h:P.underlying t=some (.slice e)) (h1:(P.info? e).map (fun i=>(i.zero.map (·.cells.size),i.size,i.bytes))=some (some size,size,bytes)):SliceT P t e size bytes:=by
 refine ⟨h,?_⟩
 match hh:P.info? e,h1 with
 | some i,h1 =>
  simp only [zY1a,zY00,zY16] at h1
  match hz:i.zero,h1 with
  | some z,h1=>exact ⟨i,z,rfl,hz,h1.2.1,h1.2.2,by simpa using h1.1⟩
theorem AggN.mk {P:Program} {t n:Nat} {d:TypeDesc} (h:P.underlying t=some d) (hd:d.isRow=true) (hi:(P.info? t).map (·.size)=some n):AggN P t n:=⟨d,h,hd,hi⟩
theorem OneT.mk {P:Program} {t:Nat} {d:TypeDesc} (h:P.underlying t=some d) (hd:d.isRow=false) (hi:(P.info? t).map (·.size)=some 1):OneT P t:=⟨d,h,hd,hi⟩
theorem OneT.load {P:Program} {t:Nat} (h:OneT P t) {W:World} {p:Addr} {v:Value} (hv:W.cell? p=some v):(loadVar t p).run P W = .ok v W:=by
 obtain ⟨d,hu,hd,_⟩:=h;have hagg:(isAgg t).run P W = .ok false W:=by
  unfold isAgg;rw [Sem.run_bind,run_underlying hu W]
  cases d <;> simp_all
 simp [loadVar,Sem.run_bind,hagg,hv]
theorem AggN.load {P:Program} {t b o:Nat} {cs:List Value} (h:AggN P t cs.length) {W:World} (hv:W.rangeAt b o cs):(loadVar t ⟨b,o,none⟩).run P W = .ok (.agg cs.toArray) W:=by
 obtain ⟨d,hu,hd,hi⟩:=h;exact run_loadVar_mid W b o t cs d hv hu hd hi
theorem z0ki {v:Value} (h:v.oneCell'=true):v.cells=#[v]:=by cases v <;> first|rfl|cases h
theorem OneT.store {P:Program} {t:Nat} (h:OneT P t) {W:World} {p:Addr} {v u:Value} (hv:W.cell? p=some u) (hf:W.frozen? p=false) (h1:v.oneCell'=true):(storeVar t p v).run P W = .ok () (W.setCell p v):=by
 obtain ⟨d,hu,hd,hi⟩:=h
 match hh:P.info? t,hi with
 | some i,hi =>
  simp at hi;have e:p.add 0=p:=by unfold Addr.add;simp
  simp [storeVar,sizeOf,typeInfo,hh,z0ki h1,hi,storeCells,e,run_store P W p v _ h1,hv,hf]
theorem AggN.store {P:Program} {t g ty:Nat} {old cs:List Value} (h:AggN P t cs.length) {W:World} (hg:W.heap[g]? = some (.cells old.toArray ty (0,0))) (hl:old.length=cs.length) (h1:zlz cs) :
  (storeVar t ⟨g,0,none⟩ (.agg cs.toArray)).run P W = .ok () (W.setRow g cs.toArray):=by
 obtain ⟨d,hu,hd,hi⟩:=h;exact run_storeVar_row W g ty t old.toArray cs.toArray hg (by simpa using hi) (by simpa using hl) (all_oneCell_toArray h1)
def RV (w0:World) (F0:Nat→Prop) (Γ:List Res) (v:Value) (e:Ending) (W:World):Prop:=e = .returned v∧Sep w0 F0 Γ W
section
variable {P:Program} {w0 W:World} {F0:Nat→Prop} {Γ Γ' Γ1:List Res}
theorem Sep.old (h:Sep w0 F0 Γ W) {f:FuncId} {args:Array Value} {v:Value} (hc:Calls P f args W fun e w'=>e = .returned v∧Below W.heap.size W w'):Calls P f args W (RV w0 F0 Γ v) :=
 hc.mono fun e w' ⟨h1,h2⟩=>⟨h1,h.belows h2⟩
theorem Sep.boxAt (h:Sep w0 F0 Γ W) {g t:Nat} {cs:List Value} (hm:At Γ (box g cs t)):W.rangeAt g 0 cs:=fun j v hv=>by
 rw [zY0x,z61 (h.get hm).2];simpa using hv
theorem Sep.cellsAt (h:Sep w0 F0 Γ W) {b o:Nat} {cs:List Value} (hm:At Γ (cells b o cs)):W.rangeAt b o cs:=(h.get hm).2
section
variable {ops:Array Oper} {Q:Exit→Act→World→Prop} {a:Act} {rest:List Oper} {o:Oper} {t:TypeId} {x y:Operand}
theorem Sep.wbox (h:Sep w0 F0 Γ W) {cs:List Value} (hgd:Region.wanted o (yielded ops a.tmps)=true) (ho:o.op = .box t x) (hx:(a.eval x).cells=cs.toArray)
  (k:∀ g W',Sep w0 F0 (box g cs t::Γ) W'→wpList P ops Q rest (a.put o.dst (.pointer (some ⟨g,0,none⟩))) W'):wpList P ops Q (o::rest) a W :=
 BigFrame.wpList_want hgd fun K hK=>by
  unfold Oper.wp execOp;simp only [ho,Instr.box,newVar,newRow,Sem.run_bind,run_newObj_alloc,Result.andThen_ok,Sem.run_pure,hx];exact hK _ _ (k _ _ (h.alloc cs t))
theorem Sep.walloc (h:Sep w0 F0 Γ W) {cs:List Value} (hgd:Region.wanted o (yielded ops a.tmps)=true) (ho:o.op = .alloc t) (hz:z5n P t cs)
  (k:∀ g W',Sep w0 F0 (box g cs t::Γ) W'→wpList P ops Q rest (a.put o.dst (.pointer (some ⟨g,0,none⟩))) W'):wpList P ops Q (o::rest) a W :=
 BigFrame.wpList_want hgd fun K hK=>by
  obtain ⟨z,hz1,hz2⟩:=hz;unfold Oper.wp execOp;simp only [ho,Instr.alloc,newVar,newRow,Sem.run_bind,run_newObj_alloc,Result.andThen_ok,Sem.run_pure,hz2,hz1];exact hK _ _ (k _ _ (h.alloc cs t))
theorem zoq (hgd:Region.wanted o (yielded ops a.tmps)=true) (ho:o.op = .load t x) {p:Addr} {v:Value} (hx:a.eval x = .pointer (some p)) (hr:(loadVar t p).run P W = .ok v W)
  (k:wpList P ops Q rest (a.put o.dst v) W):wpList P ops Q (o::rest) a W :=
 BigFrame.wpList_want hgd fun K hK=>by
  unfold Oper.wp execOp;simp only [ho,Instr.loadAt,Instr.sureAddr,Sem.run_bind,Result.andThen_ok,Sem.run_pure,hx,hr];exact hK _ _ k
theorem Sep.wload1b (h:Sep w0 F0 Γ W) (hgd:Region.wanted o (yielded ops a.tmps)=true) (ho:o.op = .load t x) {g j ty:Nat} {cs:List Value} {v:Value} (hx:a.eval x = .pointer (some ⟨g,j,none⟩)) (h1:OneT P t) (hm:At Γ (box g cs ty)) (hv:cs[j]? = some v)
  (k:wpList P ops Q rest (a.put o.dst v) W):wpList P ops Q (o::rest) a W:=by
 refine zoq hgd ho hx (h1.load ?_) k;have:=h.boxAt hm j v hv
 rwa [zY0x] at this
theorem Sep.wloadNb (h:Sep w0 F0 Γ W) (hgd:Region.wanted o (yielded ops a.tmps)=true) (ho:o.op = .load t x) {g ty:Nat} {cs:List Value} (hx:a.eval x = .pointer (some ⟨g,0,none⟩)) (hm:At Γ (box g cs ty)) (h1:AggN P t cs.length)
  (k:wpList P ops Q rest (a.put o.dst (.agg cs.toArray)) W):wpList P ops Q (o::rest) a W :=
 zoq hgd ho hx (h1.load (h.boxAt hm)) k
theorem Sep.wload1c (h:Sep w0 F0 Γ W) (hgd:Region.wanted o (yielded ops a.tmps)=true) (ho:o.op = .load t x) {b q j:Nat} {cs:List Value} {v:Value} (hx:a.eval x = .pointer (some ⟨b,q+j,none⟩)) (h1:OneT P t) (hm:At Γ (cells b q cs)) (hv:cs[j]? = some v)
  (k:wpList P ops Q rest (a.put o.dst v) W):wpList P ops Q (o::rest) a W :=
 zoq hgd ho hx (h1.load (h.cellsAt hm j v hv)) k
theorem Sep.wload1z (h:Sep w0 F0 Γ W) (hgd:Region.wanted o (yielded ops a.tmps)=true) (ho:o.op = .load t x) {b q:Nat} {cs:List Value} {v:Value} (hx:a.eval x = .pointer (some ⟨b,q,none⟩)) (h1:OneT P t) (hm:At Γ (cells b q cs)) (hv:cs[0]? = some v)
  (k:wpList P ops Q rest (a.put o.dst v) W):wpList P ops Q (o::rest) a W :=
 zoq hgd ho hx (h1.load (h.cellsAt hm 0 v hv)) k
theorem Sep.wloadNz (h:Sep w0 F0 Γ W) (hgd:Region.wanted o (yielded ops a.tmps)=true) (ho:o.op = .load t x) {b q:Nat} {cs:List Value} (hx:a.eval x = .pointer (some ⟨b,q,none⟩)) (hm:At Γ (cells b q cs)) (h1:AggN P t cs.length)
  (k:wpList P ops Q rest (a.put o.dst (.agg cs.toArray)) W):wpList P ops Q (o::rest) a W :=
 zoq hgd ho hx (h1.load (h.cellsAt hm)) k
theorem z0tn (hgd:Region.wanted o (yielded ops a.tmps)=true) (ho:o.op = .store t x y) {p:Addr} {v:Value} {W':World} (hx:a.eval x = .pointer (some p)) (hy:a.eval y=v) (hr:(storeVar t p v).run P W = .ok () W')
  (k:wpList P ops Q rest (a.put o.dst undef) W'):wpList P ops Q (o::rest) a W :=
 BigFrame.wpList_want hgd fun K hK=>by
  unfold Oper.wp execOp;simp only [ho,Instr.storeAt,Instr.sureAddr,Sem.run_bind,Result.andThen_ok,Sem.run_pure,hx,hy,hr];exact hK _ _ k
theorem z0gz {W:World} {g k:Nat} {cs:Array Value} (h:k≠g):(W.setRow g cs).heap[k]? = W.heap[k]?:=setRow_other W g k cs h
theorem Sep.setRow (h:Sep w0 F0 Γ W) {g ty:Nat} {cs cs':List Value} (hp:Put Γ (box g cs ty) (box g cs' ty) Γ'):Sep w0 F0 Γ' (W.setRow g cs'.toArray):=by
 refine h.put hp ⟨rfl,rfl,rfl,by simp,fun k hk hne=>z0gz (fun e=>hne (by rw [e];rfl))⟩ (fun g' hg'=>.inl hg') ?_;intro _ _ hr;exact ⟨hr.1,setRow_heap W g cs.toArray cs'.toArray ty _ hr.2⟩
theorem Sep.wstoreNb (h:Sep w0 F0 Γ W) (hgd:Region.wanted o (yielded ops a.tmps)=true) (ho:o.op = .store t x y) {g ty:Nat} {cs cs':List Value} (hx:a.eval x = .pointer (some ⟨g,0,none⟩)) (hy:a.eval y = .agg cs'.toArray) (h1:AggN P t cs'.length) (hone:zlz cs')
  (hm:At Γ (box g cs ty)) (hl:cs.length=cs'.length) (hp:Put Γ (box g cs ty) (box g cs' ty) Γ')
  (k:∀ W',Sep w0 F0 Γ' W'→wpList P ops Q rest (a.put o.dst undef) W'):wpList P ops Q (o::rest) a W:=by
 have hb:=(h.get hm).2;exact z0tn hgd ho hx hy (h1.store hb hl hone) (k _ (h.setRow hp))
end
end
section
variable {P:Program} {w0 W:World} {F0:Nat→Prop} {Γ Γ' Γ1 Γ2:List Res}
theorem Del.sub {r:Res} (h:Del Γ r Γ1):Sub Γ1 Γ:=by
 obtain ⟨l1,l2,rfl,rfl⟩:=h;exact ⟨[r],by simpa using List.perm_middle.trans (List.perm_append_singleton r (l1++l2)).symm⟩
theorem Del.front {r:Res} (h:Del Γ r Γ1):Sub (r::Γ1) Γ:=Sub.take h Sub.refl
theorem Sep.front (h:Sep w0 F0 Γ W) {r:Res} (hd:Del Γ r Γ1):Sep w0 F0 (r::Γ1) W:=h.sub hd.front
theorem Sep.elem (h:Sep w0 F0 Γ W) {α:Type} {S:Sh α} {xs:List α} {A:Option Addr} {n c i:Nat} (hm:At Γ (rds xs A n c S)) (hi:i<n) :
  ∃ b off z cs,A=some ⟨b,off,none⟩∧xs[i]? = some z∧Sep w0 F0 (cells b (off+i * S.size) cs::rep z cs S::Γ) W:=by
 have hr:Rds S W (Free w0.heap.size F0 Γ W) xs A n c:=h.get hm;obtain ⟨b,off,z,cs,e,hF,hx,hz,hc⟩:=hr.at_ hi;refine ⟨b,off,z,cs,e,hx,?_⟩;have h1:Sep w0 F0 (rep z cs S::Γ) W:=h.add rfl hz;exact h1.add rfl ⟨⟨hF.1,fun q hq=>by
  rcases zY0g.1 hq with rfl|hq
  ·intro e;cases e
  ·exact hF.2 q hq⟩,hc⟩
section
variable {ops:Array Oper} {Q:Exit→Act→World→Prop} {a:Act} {rest:List Oper} {o:Oper} {t:TypeId} {x y:Operand}
end
theorem Sep.pure (h:Sep w0 F0 Γ W) {α:Type} {S:Sh α} {z:α} {cs:List Value} (hz:∀ W F,S.rep W F z cs):Sep w0 F0 (rep z cs S::Γ) W:=h.add rfl (hz _ _)
theorem Sep.open_int (h:Sep w0 F0 Γ W) {x:Int} {cs:List Value} (hm:At Γ (rep x cs shInt)):cs=[.int .i64 x]∧I64 x:=h.get hm
theorem Sep.open_in (h:Sep w0 F0 Γ W) {x:In} {cs:List Value} (hm:At Γ (rep x cs shIn)):∃ A n c,cs=[.int .i64 x.p.tx,.int .i64 x.p.at_,.slice A n c]∧I64 x.p.tx∧I64 x.p.at_∧Sep w0 F0 (rds x.key A n c shOp::Γ) W:=by
 obtain ⟨A,n,c,e,h1,h2,h3⟩:=z0kb (h.get hm);exact ⟨A,n,c,e,h1,h2,h.add rfl h3⟩
theorem Sep.open_out (h:Sep w0 F0 Γ W) {x:Out} {cs:List Value} (hm:At Γ (rep x cs shOut)):∃ A n c,cs=[.int .i64 x.coin,.slice A n c]∧I64 x.coin∧Sep w0 F0 (rds x.lock A n c shOp::Γ) W:=by
 obtain ⟨A,n,c,e,h1,h3⟩:=zrg (h.get hm);exact ⟨A,n,c,e,h1,h.add rfl h3⟩
theorem Sep.open_tx (h:Sep w0 F0 Γ W) {x:Tx} {cs:List Value} (hm:At Γ (rep x cs shTx)):∃ A n c A' n' c',cs=[.int .i64 x.height,.slice A n c,.slice A' n' c']∧I64 x.height∧Sep w0 F0 (rds x.ins A n c shIn::rds x.outs A' n' c' shOut::Γ) W:=by
 obtain ⟨A,n,c,A',n',c',e,h1,h3,h4⟩:=z023 (h.get hm);exact ⟨A,n,c,A',n',c',e,h1,h.add2 rfl rfl h3 h4⟩
theorem Sep.open_block (h:Sep w0 F0 Γ W) {x:Block} {cs:List Value} (hm:At Γ (rep x cs shBlock)):∃ A n c,cs=[.int .i64 x.parent,.int .i64 x.height,.int .i64 x.work,.int .i64 x.nonce,.slice A n c]∧I64 x.parent∧I64 x.height∧I64 x.work∧I64 x.nonce∧Sep w0 F0 (rds x.txs A n c shTx::Γ) W:=by
 obtain ⟨A,n,c,e,h1,h2,h3,h4,h5⟩:=zij (h.get hm);exact ⟨A,n,c,e,h1,h2,h3,h4,h.add rfl h5⟩
theorem Sep.lit (h:Sep w0 F0 Γ W) {α:Type} {S:Sh α} {g e:Nat} {cs:List Value} (zs:List (α × List Value)) (hd:Del Γ (Proofs.YtaddehddalnliaaGreatDoor.box g cs e) Γ1) (hc:cs=flat zs) (hz:∀ z ∈ zs,At Γ1 (rep z.1 z.2 S)) (hn:zs.length≤1000000):Sep w0 F0 (rds (zs.map (·.1)) (some ⟨g,0,none⟩) zs.length zs.length S::Γ1) W:=by
 have h1:=h.front hd;refine h1.freeze (r':=rds (zs.map (·.1)) (some ⟨g,0,none⟩) zs.length zs.length S) Put.z rfl ?_;intro hF hb;have hb':w0.heap.size≤g∧W.heap[g]? = some (.cells cs.toArray e (0,0)):=hb;refine Rds.of_block (zs:=zs) (F:=Free w0.heap.size F0 (rds (zs.map (·.1)) (some ⟨g,0,none⟩) zs.length zs.length S::Γ1) W) hb'.2 (by simp [hc]) (fun z hz'=>?_) (hF g (.inr ⟨rfl,hb'.1,zil hb'.2⟩)) (zY0k _) (by omega);have h2:S.rep W (Free w0.heap.size F0 (Proofs.YtaddehddalnliaaGreatDoor.box g cs e::Γ1) W) z.1 z.2:=h1.get (At.s (hz z hz'));exact S.more (fun b hb=>hF b (.inl hb)) h2
theorem Sep.getRds (h:Sep w0 F0 Γ W) {α:Type} {S:Sh α} {xs:List α} {A:Option Addr} {n c:Nat} (hm:At Γ (rds xs A n c S)):Rds S W (Free w0.heap.size F0 Γ W) xs A n c:=h.get hm
theorem Sep.ltsRds (h:Sep w0 F0 Γ W) {α:Type} {S:Sh α} {xs:List α} {A:Option Addr} {n c:Nat} (hm:At Γ (rds xs A n c S)):Rds S W (Lt W.heap.size) xs A n c:=h.lts hm
theorem Sep.ltsRep (h:Sep w0 F0 Γ W) {α:Type} {S:Sh α} {x:α} {cs:List Value} (hm:At Γ (rep x cs S)):S.rep W (Lt W.heap.size) x cs:=h.lts hm
theorem Sep.putRow {W':World} {α:Type} {S:Sh α} {e:Nat} {v:Value} {xs xs':List α} (h:Sep w0 F0 (Proofs.YtaddehddalnliaaGreatDoor.row e v xs S::Γ) W) (hg:W.grownBy W' v.ownBlock)
  (hr:(∀ b,Free w0.heap.size F0 (Proofs.YtaddehddalnliaaGreatDoor.row e v xs S::Γ) W b→Free w0.heap.size F0 (Proofs.YtaddehddalnliaaGreatDoor.row e v xs' S::Γ) W' b)→Agree (Free w0.heap.size F0 (Proofs.YtaddehddalnliaaGreatDoor.row e v xs S::Γ) W) W W'→∀ zs:List (α × List Value),zs.map (·.1)=xs→W.ownsRow w0.heap.size e S.size v xs.length (flat zs)→(∀ z ∈ zs,S.rep W (Free w0.heap.size F0 (Proofs.YtaddehddalnliaaGreatDoor.row e v xs S::Γ) W) z.1 z.2) →
   ∃ zs:List (α × List Value),zs.map (·.1)=xs'∧W'.ownsRow w0.heap.size e S.size v xs'.length (flat zs)∧∀ z ∈ zs,S.rep W' (Free w0.heap.size F0 (Proofs.YtaddehddalnliaaGreatDoor.row e v xs' S::Γ) W') z.1 z.2):Sep w0 F0 (Proofs.YtaddehddalnliaaGreatDoor.row e v xs' S::Γ) W' :=
 h.put (r:=Proofs.YtaddehddalnliaaGreatDoor.row e v xs S) (r':=Proofs.YtaddehddalnliaaGreatDoor.row e v xs' S) Put.z hg (fun g hg=>.inl hg) (fun hf ha ⟨zs,h1,h2,h3⟩=>hr hf ha zs h1 h2 h3)
theorem Sep.getBox (h:Sep w0 F0 Γ W) {g t:Nat} {cs:List Value} (hm:At Γ (box g cs t)):w0.heap.size≤g∧W.heap[g]? = some (.cells cs.toArray t (0,0)):=h.get hm
theorem Sep.len (h:Sep w0 F0 Γ W) {α:Type} {S:Sh α} {xs:List α} {A:Option Addr} {n c:Nat} (hm:At Γ (rds xs A n c S)):xs.length=n∧n≤c∧c≤9223372036854775807:=⟨(h.getRds hm).1,(h.getRds hm).2.1,(h.getRds hm).2.2.1⟩
theorem Sep.addRep (h:Sep w0 F0 Γ W) {α:Type} {S:Sh α} {x:α} {cs:List Value} (hr:S.rep W (Free w0.heap.size F0 Γ W) x cs):Sep w0 F0 (rep x cs S::Γ) W:=h.add rfl hr
end
attribute [irreducible] zm0 rds rep cells box row At Put Del Sub
end
section
open Go.RowKit
set_option maxRecDepth 100000
def eqB {α:Type} [DecidableEq α] (xs ys:List α):Bool:=decide (xs=ys)
end
section
open Go.RowKit
set_option maxRecDepth 100000
theorem Rds.op {w:World} {F:Nat→Prop} {xs:List Op} {A:Option Addr} {n c k:Nat} (h:Rds shOp w F xs A n c) (hk:k<n) :
  ∃ b off x,A=some ⟨b,off,none⟩∧F b∧xs[k]? = some x∧(w.cell? ⟨b,off+k * 2,none⟩=some (.int .i64 x.kind)∧w.cell? ⟨b,off+k * 2+1,none⟩=some (.int .i64 x.n))∧I64 x.kind∧I64 x.n:=by
 obtain ⟨b,off,x,cs,e,hF,hx,hr,hc⟩:=h.at_ hk;obtain ⟨rfl,h1,h2⟩:=z0tl hr;exact ⟨b,off,x,e,hF,hx,⟨by simpa [shOp,z3j,shInt] using hc 0 _ rfl,by simpa [shOp,z3j,shInt] using hc 1 _ rfl⟩,h1,h2⟩
theorem z0of (xs ys:List (Op)) (A A':Option Addr) (n c n' c':Nat) (w:World) (F F':Nat→Prop) (h:Rds shOp w F xs A n c) (h':Rds shOp w F' ys A' n' c') :
  Calls Tryz.prog 57 #[.slice A n c,.slice A' n' c'] w fun e w'=>e = .returned (.bool (eqB xs ys))∧∃ m,w'=w.drewN m:=by
 have hn:=h.2.1;have hc:=h.2.2.1;have hn':=h'.2.1;have hc':=h'.2.2.1
 by_cases hl:n=n'
 ·obtain rfl:=hl
  go_enter Tryz.func57,Tryz.ntmps57;go_wp2;go_loopw [5,13] (fun _ i wr=>∃ (k m:Nat),k≤n∧i = .int .i64 k∧wr=w.drewN m∧xs.take k=ys.take k) (fun _ i _=>n - (intOf i).toNat)
  case atStart=>exact ⟨0,0,by omega,rfl,rfl,rfl⟩
  case round =>
   obtain ⟨k,m,hk,rfl,rfl,hs⟩:=hrel
   by_cases hlt:k<n
   ·obtain ⟨b,off,x,rfl,-,hx,hcell,x0⟩:=h.op hlt
    obtain ⟨b',off',y,rfl,-,hy,hcell',y0⟩:=h'.op hlt;have Hs:=Lib.hid hs;have Hx:=Lib.hid hx;have Hy:=Lib.hid hy;have i1:(0:Int)≤(k:Int):=by omega
    have i2:(k:Int)<(n:Int):=by omega
    clear hs hx hy h h' x0 y0
    by_cases hxy:x=y
    ·subst hxy
     go_wp2;go_quiet (fail);go_wp2;go_roundw
     case measure=>simp [intOf];omega
     case rel=>exact ⟨k+1,_,by omega,by go_num,rfl,by rw [z3h Hx.out,z3h Hy.out,Hs.out]⟩
    ·have hne:eqB xs ys=false:=by
      have:xs≠ys:=fun e=>hxy (by have:=Hx.out;rw [e,Hy.out] at this;injection this with this;exact this.symm)
      simp [eqB,this]
     obtain ⟨xk,xn⟩:=x;obtain ⟨yk,yn⟩:=y
     by_cases h1:xk=yk
     ·subst h1
      have h2:(xn == yn)=false:=by simpa using hxy
      clear hxy;go_wp2;go_quiet (fail);go_wp2
      all_goals (go_ret;refine ⟨z7f ?_,_,World.drewN_drewN _ _ _⟩;exact hne.symm)
     ·have h2:(xk == yk)=false:=by simpa using h1
      clear hxy h1;go_wp2;go_quiet (fail);go_wp2
      all_goals (go_ret;refine ⟨z7f ?_,_,World.drewN_drewN _ _ _⟩;exact hne.symm)
   ·obtain rfl:k=n:=by omega
    have Hs:=Lib.hid hs;clear hs;go_wp2;go_ret;refine ⟨z7f ?_,_,rfl⟩;have:=Hs.out;rw [zY0t (by have:=h.1;omega),zY0t (by have:=h'.1;omega)] at this;simp [eqB,this]
 ·have hd:((n:Int) == (n':Int))=false:=by simp;omega
  have e:eqB xs ys=false:=by
   have:xs≠ys:=fun e=>hl (by rw [← h.1,← h'.1,e])
   simp [eqB,this]
  rw [e];clear hl e;go_enter Tryz.func57,Tryz.ntmps57;go_wp2;go_ret;exact ⟨rfl,0,rfl⟩
def z13 {α:Type} [DecidableEq α] (x:α):List α→Nat→Int
 | [],_ => -1
 | y::l,k=>if x=y then k else z13 x l (k+1)
def idx {α:Type} [DecidableEq α] (xs:List α) (x:α):Int:=z13 x xs 0
def z1o {α:Type} [DecidableEq α] (xs:List α) (x:α):Bool:=decide (x ∈ xs)
theorem zui {α:Type} [DecidableEq α] (x:α) (l:List α) (k:Nat):(0≤z13 x l k↔x ∈ l):=by
 induction l generalizing k with
 | nil=>simp [z13]
 | cons y l ih =>
  by_cases h:x=y
  ·subst h;simp [z13]
  ·rw [z13,if_neg h,ih (k+1)];simp [h]
theorem zav {α:Type} [DecidableEq α] (xs:List α) (x:α):(0≤idx xs x↔x ∈ xs):=zui x xs 0
theorem z0og {α:Type} [DecidableEq α] (x:α) (l:List α) (k:Nat) : -1≤z13 x l k∧z13 x l k<k+l.length∨z13 x l k = -1:=by
 induction l generalizing k with
 | nil=>simp [z13]
 | cons y l ih =>
  by_cases h:x=y
  ·subst h;simp [z13];omega
  ·simp only [z13,if_neg h,zY0a]
   rcases ih (k+1) with h|h
   ·left;omega
   ·right;exact h
theorem zfr {α:Type} [DecidableEq α] (xs:List α) (x:α) : -1≤idx xs x∧idx xs x≤xs.length:=by
 rcases z0og x xs 0 with h|h <;> unfold idx <;> omega
theorem z0ku (xs:List (Int)) (y:Int) (A:Option Addr) (n c:Nat) (w:World) (F:Nat→Prop) (h:Rds shInt w F xs A n c) :
  Calls Tryz.prog 39 #[.slice A n c,.int .i64 y] w fun e w'=>e = .returned (.int .i64 (idx xs y))∧w=w':=by
 have hn:=h.2.1;have hc:=h.2.2.1;go_enter Tryz.func39,Tryz.ntmps39;go_wp2;go_loop [5,8] (fun _ i=>∃ (k:Nat),k≤n∧i = .int .i64 k∧z13 y (xs.drop k) k=idx xs y) (fun _ i=>n - (intOf i).toNat)
 case atStart=>exact ⟨0,by omega,rfl,rfl⟩
 case round =>
  obtain ⟨k,hk,rfl,hs⟩:=hrel
  by_cases hlt:k<n
  ·obtain ⟨b,off,x,rfl,-,hx,hcell,x0⟩:=h.int hlt
   rw [z4r hx,z13] at hs;clear hx h x0
   by_cases hxy:y=x
   ·subst hxy
    rw [if_pos rfl] at hs;have Hs:=Lib.hid hs;clear hs;go_wp2;go_ret;exact ⟨z0n Hs.out,rfl⟩
   ·rw [if_neg hxy] at hs
    have Hs:=Lib.hid hs;clear hs;have hd:(y == x)=false:=by simpa using hxy
    clear hxy;go_wp2;go_round
    case measure=>simp [intOf];omega
    case rel=>exact ⟨k+1,by omega,by go_num,Hs.out⟩
  ·obtain rfl:k=n:=by omega
   have Hs:=Lib.hid hs;clear hs;go_wp2;go_ret;have:=Hs.out;rw [zY1l (by have:=h.1;omega),z13] at this;exact ⟨z0n this,rfl⟩
theorem z0kv (xs:List (List UInt8)) (y:List UInt8) (A:Option Addr) (n c:Nat) (w:World) (F:Nat→Prop) (h:Rds shStr w F xs A n c) :
  Calls Tryz.prog 66 #[.slice A n c,.string ⟨y.toArray⟩] w fun e w'=>e = .returned (.int .i64 (idx xs y))∧w=w':=by
 have hn:=h.2.1;have hc:=h.2.2.1;go_enter Tryz.func66,Tryz.ntmps66;go_wp2;go_loop [5,8] (fun _ i=>∃ (k:Nat),k≤n∧i = .int .i64 k∧z13 y (xs.drop k) k=idx xs y) (fun _ i=>n - (intOf i).toNat)
 case atStart=>exact ⟨0,by omega,rfl,rfl⟩
 case round =>
  obtain ⟨k,hk,rfl,hs⟩:=hrel
  by_cases hlt:k<n
  ·obtain ⟨b,off,x,rfl,-,hx,hcell,x0⟩:=h.str hlt
   rw [z4r hx,z13] at hs;clear hx h x0
   by_cases hxy:y=x
   ·subst hxy
    rw [if_pos rfl] at hs;have Hs:=Lib.hid hs;clear hs;go_wp2;go_ret;exact ⟨z0n Hs.out,rfl⟩
   ·rw [if_neg hxy] at hs
    have Hs:=Lib.hid hs;clear hs;have hd:(y == x)=false:=by simpa using hxy
    clear hxy;go_wp2;go_round
    case measure=>simp [intOf];omega
    case rel=>exact ⟨k+1,by omega,by go_num,Hs.out⟩
  ·obtain rfl:k=n:=by omega
   have Hs:=Lib.hid hs;clear hs;go_wp2;go_ret;have:=Hs.out;rw [zY1l (by have:=h.1;omega),z13] at this;exact ⟨z0n this,rfl⟩
end
section
open Go.RowKit
set_option maxRecDepth 100000
theorem z0qf (s:List UInt8):(⟨s.toArray⟩:ByteArray).size=s.length:=by simp [ByteArray.size]
def zis:List (List UInt8)→DataW Unit
 | []=>.map []
 | s::l=>(zis l).put (.string s) (.lit (.bool true))
theorem z0oh (l:List (List UInt8)):Maps.IsMap (zis l):=by
 induction l with
 | nil=>exact ⟨[],rfl⟩
 | cons s l ih =>
  obtain ⟨es,h⟩:=ih;rw [zis,h];exact ⟨_,rfl⟩
theorem z0rj (l:List (List UInt8)) (s:List UInt8):(zis l).atKey (.string s) (.lit (.bool false)) = .lit (.bool (decide (s ∈ l))):=by
 induction l with
 | nil=>rfl
 | cons t l ih =>
  rw [zis]
  by_cases h:s=t
  ·subst h
   rw [Maps.atKey_put_same (z0oh l) (by trivial)];simp
  ·rw [Maps.atKey_put_other (by intro e;injection e with e;exact h e),ih]
   simp [h]
def z41:List (List UInt8)→List (List UInt8)→Int
 | [],_=>0
 | s::l,seen=>if 4000<s.length then 2 else if s ∈ seen then 6 else z41 l (s::seen)
def zj (b:Book):Int:=if 120<b.texts.length then 2 else z41 b.texts []
theorem z0bz {P:Program} {k e t:TypeId} {w:World} {b n:Nat} {l:List (List UInt8)} (h:w.ownsMap P k (plainElem P e) b n (zis l)) (hk:P.underlying k=some .string) (ht:P.underlying t=some (.map k e)) (he:P.underlying e=some .bool)
  (hz:(zeroValue e).run P w = .ok (.bool false) w) (s:List UInt8) (hs:s.length≤9223372036854775807) :
  (Instr.lookup t (.map (some b)) (.string ⟨s.toArray⟩) false).run P w = .ok (.bool (decide (s ∈ l))) w:=by
 have hkey:=WideMaps.keyOf_string_mk (P:=P) hk (s:=⟨s.toArray⟩) (by rw [z0qf];unfold maxLen;exact hs);obtain ⟨v,ps,hrun,hv⟩:=h.lookup (Maps.string_keyed hk) ht hz (plainElem_bool he false) hkey;have e1:((⟨s.toArray⟩:ByteArray).data.toList)=s:=rfl;rw [e1,z0rj] at hv;unfold plainElem at hv;rw [he] at hv
 cases v <;> simp at hv
 obtain ⟨hv,_⟩:=hv;rw [hrun,hv]
theorem zvh (bk:Book) (cs:List Value) (w:World) (F:Nat→Prop) (h:shBook.rep w F bk cs) (hF:∀ b,F b→b<w.heap.size) :
  Calls Tryz.prog 43 #[.agg cs.toArray] w fun e w'=>e = .returned (.int .i64 (zj bk))∧Below w.heap.size w w':=by
 obtain ⟨A,n,c,rfl,hr⟩:=z0o1 h;obtain ⟨texts⟩:=bk;simp only at hr;have hn:=hr.2.1;have hc:=hr.2.2.1;have hl:=hr.1;have hmm:=@run_makeMap Tryz.prog;have hzf:∀ W:World,(zeroValue 4).run Tryz.prog W = .ok (.bool false) W:=fun W=>by kernel_rfl
 by_cases h120:120<n
 ·have e:zj ⟨texts⟩=2:=by simp only [zj];rw [if_pos (by omega)]
  rw [e];clear e hl;go_enter Tryz.func43,Tryz.ntmps43;go_wp2;go_ret;exact ⟨rfl,(Below.refl _ _).alloc (zY0k _) _⟩
 ·have e:zj ⟨texts⟩=z41 texts []:=by simp only [zj];rw [if_neg (by omega)]
  rw [e];have HR:=Lib.hid hr;have HZ:=Lib.hid hzf;clear e hl hr h hzf;go_enter Tryz.func43,Tryz.ntmps43;go_wp2;go_loopw [5,14] (fun _ i wr=>∃ k:Nat,k≤n∧i = .int .i64 k∧wr.ownsMap Tryz.prog 9 (plainElem Tryz.prog 4) (w.heap.size+1) k (zis (texts.take k).reverse)∧z41 (texts.drop k) (texts.take k).reverse=z41 texts []∧Below w.heap.size w wr) (fun _ i _=>n - (intOf i).toNat)
  case atStart =>
   refine ⟨0,by omega,rfl,?_,rfl,((Below.refl _ _).alloc (zY0k _) _).alloc (by simp) _⟩;have:=World.ownsMap_made (H:=Unit) (w.alloc (.cells #[.slice A n c] 24)) Tryz.prog 9 (plainElem Tryz.prog 4);simpa [zis] using this
  case round =>
   obtain ⟨k,hk,rfl,hown,hs,hb⟩:=hrel
   by_cases hlt:k<n
   ·obtain ⟨b,off,x,rfl,hFb,hx,hcell,x0⟩:=HR.out.str hlt
    rw [← hb.cell (p:=⟨b,off+k,none⟩) (hF b hFb)] at hcell;rw [z4r hx,z41] at hs;have ht:=z3h hx;have hlk:=z0bz hown Tryz.underlying9 Tryz.underlying155 Tryz.underlying4 (HZ.out wr) x x0;simp only [List.mem_reverse] at hlk hs;have HO:=Lib.hid hown;have HB:=Lib.hid hb;have HT:=Lib.hid ht;have HX:=Lib.hid hx;have kx:=Lib.hid (WideMaps.keyOf_string_mk (P:=Tryz.prog) Tryz.underlying9 (s:=⟨x.toArray⟩) (by rw [z0qf];unfold maxLen;exact x0));clear hown hb ht hx
    by_cases h4:4000<x.length
    ·rw [if_pos h4] at hs
     have HS:=Lib.hid hs;clear hs hlk;go_wp2;go_ret;exact ⟨z0n HS.out,HB.out⟩
    ·rw [if_neg h4] at hs
     by_cases hm:x ∈ texts.take k
     ·rw [if_pos hm] at hs
      rw [decide_eq_true hm] at hlk;have HS:=Lib.hid hs;clear hs hm;go_wp2;go_ret;exact ⟨z0n HS.out,HB.out⟩
     ·rw [if_neg hm] at hs
      rw [decide_eq_false hm] at hlk;have HS:=Lib.hid hs;clear hs hm;go_wp2_with (at_mapUpdate;refine wpList_mapUpdate_own _ rfl _ _ _ 155 rfl 9 4 (Maps.string_keyed Tryz.underlying9) Tryz.underlying155 (plainElem Tryz.prog 4) (w.heap.size+1) k _ rfl HO.out (by unfold maxLen;omega) _ _ (.string x) rfl rfl kx.out (.lit (.bool true)) [] (plainElem_bool Tryz.underlying4 true) ?_;intro w1 hown1 hgr1);go_roundw
      case measure=>simp [intOf];omega
      case rel =>
       refine ⟨k+1,by omega,by go_num,?_,?_,HB.out.grown hgr1 HB.out.size (fun j hj=>by injection hj with hj;omega)⟩
       ·rw [HT.out,List.reverse_append];exact hown1
       ·rw [HT.out,List.reverse_append];exact HS.out
   ·obtain rfl:k=n:=by omega
    have HS:=Lib.hid hs;clear hs;go_wp2;go_ret;have:=HS.out;rw [zY1l (by have:=HR.out.1;omega),z41] at this;exact ⟨z0n this,hb⟩
def z68 (l:List (List UInt8)) (s:List UInt8):List (List UInt8):=if 0≤idx l s then l else if l.length=120 then [] else l++[s]
def z7c (l:List (List UInt8)) (s:List UInt8):Int:=if 0≤idx l s then idx l s+1 else if l.length=120 then 0 else l.length+1
def z5o (l:List (List UInt8)) (s:List UInt8):Int:=if 0≤idx l s then 0 else if l.length=120 then 12 else 0
theorem zhm {bk:Book} (h:zj bk=0):bk.texts.length≤120:=by
 unfold zj at h
 split at h
 ·cases h
 ·omega
def z02g (bk:Book) (s:List UInt8):List (List UInt8):=if zj bk≠0 then [] else if 4000<s.length then [] else z68 bk.texts s
def zfs (bk:Book) (s:List UInt8):Int:=if zj bk≠0 then 0 else if 4000<s.length then 0 else z7c bk.texts s
def zoy (bk:Book) (s:List UInt8):Int:=if zj bk≠0 then zj bk else if 4000<s.length then 2 else z5o bk.texts s
end
section
open Go.RowKit
set_option maxRecDepth 100000
theorem zuj {w w':World} {base e size n:Nat} {v:Value} {xs:List Value} (h:w.ownsRow base e size v n xs) (hb:Below w.heap.size w w'):w'.ownsRow base e size v n xs:=by
 refine ⟨h.1,?_⟩;rcases h.2 with h0|⟨g,cap,cur,hv,hg,hh,r⟩
 ·exact .inl h0
 ·refine .inr ⟨g,cap,cur,hv,hg,?_,r⟩
  rw [hb.block g ?_]
  ·exact hh
  ·rcases zY1x g w.heap.size with h|h
   ·exact h
   ·rw [zY19 h] at hh;cases hh
theorem z0c0 {w:World} {base e size n:Nat} {v:Value} {xs:List Value} (h:w.ownsRow base e size v n xs) {p:Addr} (hp:p.block<base) (u:Value):(w.setCell p u).ownsRow base e size v n xs:=ownsRow_setCell_below h hp u
theorem zuk {t:List (List UInt8)} {s:List UInt8} (ht:t.length≤120) (he:z5o t s=0):(z68 t s).length≤120:=by
 unfold z5o at he;unfold z68
 split at he
 ·rename_i h;rw [if_pos h];exact ht
 ·rename_i h
  rw [if_neg h]
  split at he
  ·cases he
  ·rename_i h';rw [if_neg h'];simp;omega
def z27:List (List UInt8)→List (List UInt8)→List Int→List (List UInt8) × List Int × Int
 | [],t,o=>(t,o,0)
 | s::l,t,o=>if 4000<s.length then ([],[],2) else if z5o t s≠0 then ([],[],z5o t s) else z27 l (z68 t s) (o++[z7c t s])
def z2m (bk:Book) (l:List (List UInt8)):List (List UInt8) × List Int × Int:=if zj bk≠0 then ([],[],zj bk) else z27 l bk.texts []
theorem z0kw:∃ i z,Tryz.prog.info? 3=some i∧i.zero=some z∧i.size=1∧i.bytes=8∧z.cells.size=1:=by
 have h1:(Tryz.prog.info? 3).map (fun i=>(i.zero.map (·.cells.size),i.size,i.bytes))=some (some 1,1,8):=by kernel_rfl
 match hh:Tryz.prog.info? 3,h1 with
 | some i,h1 =>
  simp only [zY1a,zY00,zY16] at h1
  match hz:i.zero,h1 with
  | some z,h1=>exact ⟨i,z,rfl,hz,h1.2.1,h1.2.2,by simpa using h1.1⟩
end
section
open Go.RowKit
set_option maxRecDepth 100000
def z4a (o:Op):Int:=if o.kind<1∨13<o.kind then 4 else if (o.kind≠1∧o.n≠0)∨o.n < -1000000∨1000000<o.n then 3 else 0
def z5p:List Op→Int
 | []=>0
 | o::l=>if z4a o≠0 then z4a o else z5p l
def z9 (l:List Op):Int:=if 16<l.length then 2 else z5p l
theorem zby (xs:List Op) (A:Option Addr) (n c:Nat) (w:World) (F:Nat→Prop) (h:Rds shOp w F xs A n c) (hF:∀ b,F b→b<w.heap.size) :
  Calls Tryz.prog 91 #[.slice A n c] w fun e w'=>e = .returned (.int .i64 (z9 xs))∧Below w.heap.size w w':=by
 have hn:=h.2.1;have hc:=h.2.2.1;have hl:=h.1
 by_cases h16:16<n
 ·have e:z9 xs=2:=by simp only [z9];rw [if_pos (by omega)]
  rw [e];clear e hl;go_enter Tryz.func91,Tryz.ntmps91;go_wp2;go_ret;exact ⟨rfl,Below.refl _ _⟩
 ·have e:z9 xs=z5p xs:=by simp only [z9];rw [if_neg (by omega)]
  rw [e];have HR:=Lib.hid h;have HLN:=Lib.hid hl;clear e hl h;go_enter Tryz.func91,Tryz.ntmps91;go_wp2;go_loopw [4,10] (fun _ i wr=>∃ k:Nat,k≤n∧i = .int .i64 k∧Below w.heap.size w wr∧z5p (xs.drop k)=z5p xs) (fun _ i _=>n - (intOf i).toNat)
  case atStart=>exact ⟨0,by omega,rfl,Below.refl _ _,rfl⟩
  case round =>
   obtain ⟨k,hk,rfl,hb,hs⟩:=hrel
   by_cases hlt:k<n
   ·obtain ⟨b,off,x,rfl,hFb,hx,⟨hc1,hc2⟩,-,-⟩:=HR.out.op hlt
    rw [z4r hx,z5p] at hs;rw [← hb.cell (p:=⟨b,off+k * 2,none⟩) (hF b hFb)] at hc1;rw [← hb.cell (p:=⟨b,off+k * 2+1,none⟩) (hF b hFb)] at hc2;have HB:=Lib.hid (hb.alloc hb.size (.cells #[.int .i64 x.kind,.int .i64 x.n] 103));clear hx hb;have i1:(0:Int)≤(k:Int):=by omega
    have i2:(k:Int)<(n:Int):=by omega
    obtain ⟨xk,xn⟩:=x;simp only at hc1 hc2 HB;rcases Classical.em (xk<1∨13<xk) with hk1|hk1
    ·have e:z4a ⟨xk,xn⟩=4:=by simp only [z4a];rw [if_pos hk1]
     rw [e,if_pos (by decide)] at hs;have HS:=Lib.hid hs;clear hs e;rcases Classical.em (xk<1) with hk2|hk2
     ·clear hk1
      go_wp2;go_ret;exact ⟨z0n HS.out,HB.out⟩
     ·have hk3:13<xk:=by omega
      clear hk1;go_wp2;go_ret;exact ⟨z0n HS.out,HB.out⟩
    ·have g1:¬ xk<1:=by omega
     have g2:¬ 13<xk:=by omega
     have e0:z4a ⟨xk,xn⟩=if (xk≠1∧xn≠0)∨xn < -1000000∨1000000<xn then 3 else 0:=by simp only [z4a];rw [if_neg hk1]
     rw [e0] at hs;clear hk1 e0;rcases Classical.em ((xk≠1∧xn≠0)∨xn < -1000000∨1000000<xn) with h3|h3
     ·rw [if_pos h3,if_pos (by decide)] at hs
      have HS:=Lib.hid hs;clear hs
      by_cases h4:xk≠1∧xn≠0
      ·have k1:(xk != 1)=true:=by simpa using h4.1
       have k2:(xn != 0)=true:=by simpa using h4.2
       clear h3 h4;go_wp2;go_ret;exact ⟨z0n HS.out,HB.out⟩
      ·by_cases h5:xk=1
       ·subst h5
        clear h4;rcases Classical.em (xn < -1000000) with h6|h6
        ·clear h3
         go_wp2;go_ret;exact ⟨z0n HS.out,HB.out⟩
        ·have h7:1000000<xn:=by omega
         clear h3;go_wp2;go_ret;exact ⟨z0n HS.out,HB.out⟩
       ·exfalso;omega
     ·rw [if_neg h3,if_neg (by decide)] at hs
      have HS:=Lib.hid hs;clear hs;have h6:¬ xn < -1000000:=by omega
      have h7:¬ 1000000<xn:=by omega
      by_cases h5:xk=1
      ·subst h5
       clear h3;go_wp2;go_roundw
       case measure=>simp [intOf];omega
       case rel=>exact ⟨k+1,by omega,by go_num,HB.out,HS.out⟩
      ·obtain rfl:xn=0:=by omega
       have k1:(xk != 1)=true:=by simpa using h5
       clear h3 h5;go_wp2;go_roundw
       case measure=>simp [intOf];omega
       case rel=>exact ⟨k+1,by omega,by go_num,HB.out,HS.out⟩
   ·obtain rfl:k=n:=by omega
    rw [zY1l (by rw [HLN.out];omega),z5p] at hs;have HS:=Lib.hid hs;clear hs;go_wp2;go_ret;exact ⟨z0n HS.out,hb⟩
end
section
open Go.RowKit
set_option maxRecDepth 100000
def z9b (n:Int):Int:=if 0≤n∧n≤1000000000 then 0 else 3
def z0i (h:Int):Int:=if h<1∨1000<h then 0 else 64 / 2 ^ (min ((h - 1) / 8) 30).toNat
def z4b (h:Int):Int:=if h<1∨1000<h then 3 else 0
def zgw:Nat→Int→Int→Int→Int
 | 0,_,n,_=>n
 | f+1,h,n,H=>if h<H then zgw f (h+8) (n / 2) H else n
def zei (H:Int):Int:=zgw 130 8 64 H
theorem zbz (n:Int) (w:World):Calls Tryz.prog 162 #[.int .i64 n] w fun e w'=>e = .returned (.int .i64 (z9b n))∧w=w':=by
 go_enter Tryz.func162,Tryz.ntmps162;go_wp2
 all_goals (go_ret;refine ⟨z0n ?_,rfl⟩;unfold z9b;first|(rw [if_pos (by omega)])|(rw [if_neg (by omega)]))
theorem z02n (n:Int) (w:World) (h0:0≤n) (h1:n≤1000):Calls Tryz.prog 69 #[.int .i64 n] w fun e w'=>e = .returned (.int .i64 (zei n))∧w=w':=by
 go_enter Tryz.func69,Tryz.ntmps69;go_wp2;go_loop [3,4] (fun a h=>∃ (j:Nat) (hh aa:Int),j≤129∧h = .int .i64 hh∧a = .int .i64 aa∧hh=8+8 * (j:Int)∧0≤aa∧aa≤64∧(j=129→n≤hh)∧zgw (130 - j) hh aa n=zei n) (fun _ h=>(1100 - intOf h).toNat)
 case atStart=>exact ⟨0,8,64,by omega,rfl,rfl,by omega,by omega,by omega,by omega,rfl⟩
 case round =>
  obtain ⟨j,hh,aa,hj,rfl,rfl,hjh,a1,a2,a3,hs⟩:=hrel;have hj9:hh<n→j≤128:=by omega
  have b1:8≤hh:=by omega
  have b2:hh≤1040:=by omega
  have Hj:=Lib.hid hjh;clear hjh;rw [show 130 - j=(129 - j)+1 by omega,zgw] at hs
  by_cases hc:hh<n
  ·rw [if_pos hc] at hs
   have H:=Lib.hid hs;clear hs a3;have hj8:=hj9 hc;clear hj9;go_wp2;go_round
   case measure=>simp [intOf];omega
   case rel=>exact ⟨j+1,_,_,by omega,rfl,rfl,by have:=Hj.out;omega,by omega,by omega,by have:=Hj.out;omega,by have:=H.out;rw [show 130 - (j+1)=129 - j by omega];exact this⟩
  ·rw [if_neg hc] at hs
   have H:=Lib.hid hs;clear hs a3 hj9;go_wp2;go_ret;exact ⟨z0n H.out,rfl⟩
def z8s:List Int→Int→Int × Int
 | [],a=>(a,0)
 | x::l,a=>if 0≤x∧x≤1000000000 then (if 1000000000<a+x then (0,12) else z8s l (a+x)) else (0,3)
def z3q (l:List Int):Int × Int:=z8s l 0
theorem z0rm (xs:List Int) (A:Option Addr) (n c:Nat) (w:World) (F:Nat→Prop) (h:Rds shInt w F xs A n c) :
  Calls Tryz.prog 140 #[.slice A n c] w fun e w'=>e = .returned (.tuple #[.int .i64 (z3q xs).1,.int .i64 (z3q xs).2])∧w=w':=by
 have hn:=h.2.1;have hc:=h.2.2.1;go_enter Tryz.func140,Tryz.ntmps140;go_wp2;go_loop [4,10] (fun a i=>∃ (k:Nat) (aa:Int),k≤n∧i = .int .i64 k∧a = .int .i64 aa∧0≤aa∧aa≤1000000000∧z8s (xs.drop k) aa=z3q xs) (fun _ i=>n - (intOf i).toNat)
 case atStart=>exact ⟨0,0,by omega,rfl,rfl,by omega,by omega,rfl⟩
 case round =>
  obtain ⟨k,aa,hk,rfl,rfl,a0,a1,hs⟩:=hrel
  by_cases hlt:k<n
  ·obtain ⟨b,off,x,rfl,-,hx,hcell,x0,x1⟩:=h.int hlt
   rw [z4r hx,z8s] at hs;have Hs:=Lib.hid hs;clear hs hx h
   by_cases hv:0≤x∧x≤1000000000
   ·obtain ⟨v0,v1⟩:=hv
    have e:z9b x=0:=by unfold z9b;rw [if_pos ⟨v0,v1⟩]
    have E:=Lib.hid e;clear e
    by_cases hf:1000000000<aa+x
    ·go_wp2_with (go_at_call 162;refine (zbz _ _).mono ?_;rintro e w' ⟨rfl,rfl⟩;rw [E.out])
     go_ret2;have:=Hs.out;rw [if_pos (by omega),if_pos (by omega)] at this;exact ⟨zd1 (by rw [← this]) (by rw [← this]),rfl⟩
    ·go_wp2_with (go_at_call 162;refine (zbz _ _).mono ?_;rintro e w' ⟨rfl,rfl⟩;rw [E.out])
     go_round
     case measure=>simp [intOf];omega
     case rel =>
      have:=Hs.out;rw [if_pos (by omega),if_neg (by omega)] at this;exact ⟨k+1,_,by omega,by go_num,rfl,by omega,by omega,this⟩
   ·have e:z9b x=3:=by unfold z9b;rw [if_neg hv]
    have E:=Lib.hid e;clear e;have hv':x<0∨1000000000<x:=by omega
    have Hv:=Lib.hid hv;clear hv;go_wp2_with (go_at_call 162;refine (zbz _ _).mono ?_;rintro e w' ⟨rfl,rfl⟩;rw [E.out]);go_ret2;have:=Hs.out;rw [if_neg Hv.out] at this;exact ⟨zd1 (by rw [← this]) (by rw [← this]),rfl⟩
  ·obtain rfl:k=n:=by omega
   have Hs:=Lib.hid hs;clear hs;go_wp2;go_ret2;have:=Hs.out;rw [zY1l (by have:=h.1;omega)] at this;exact ⟨zd1 (by rw [← this];rfl) (by rw [← this];rfl),rfl⟩
end
section
open Go.RowKit
set_option maxRecDepth 100000
theorem Rds.inn {w:World} {F:Nat→Prop} {xs:List In} {A:Option Addr} {n c k:Nat} (h:Rds shIn w F xs A n c) (hk:k<n) :
  ∃ b off x A' n' c',A=some ⟨b,off,none⟩∧F b∧xs[k]? = some x∧(w.cell? ⟨b,off+k * 3,none⟩=some (.int .i64 x.p.tx)∧w.cell? ⟨b,off+k * 3+1,none⟩=some (.int .i64 x.p.at_)∧w.cell? ⟨b,off+k * 3+2,none⟩=some (.slice A' n' c'))∧I64 x.p.tx∧I64 x.p.at_∧Rds shOp w F x.key A' n' c':=by
 obtain ⟨b,off,x,cs,e,hF,hx,hr,hc⟩:=h.at_ hk;obtain ⟨A',n',c',rfl,h1,h2,h3⟩:=z0kb hr;exact ⟨b,off,x,A',n',c',e,hF,hx,⟨by simpa [shIn,shPoint,z3j,shInt,z0h] using hc 0 _ rfl,by simpa [shIn,shPoint,z3j,shInt,z0h] using hc 1 _ rfl,by simpa [shIn,shPoint,z3j,shInt,z0h] using hc 2 _ rfl⟩,h1,h2,h3⟩
theorem Rds.out_ {w:World} {F:Nat→Prop} {xs:List Out} {A:Option Addr} {n c k:Nat} (h:Rds shOut w F xs A n c) (hk:k<n) :
  ∃ b off x A' n' c',A=some ⟨b,off,none⟩∧F b∧xs[k]? = some x∧(w.cell? ⟨b,off+k * 2,none⟩=some (.int .i64 x.coin)∧w.cell? ⟨b,off+k * 2+1,none⟩=some (.slice A' n' c'))∧I64 x.coin∧Rds shOp w F x.lock A' n' c':=by
 obtain ⟨b,off,x,cs,e,hF,hx,hr,hc⟩:=h.at_ hk;obtain ⟨A',n',c',rfl,h1,h2⟩:=zrg hr;exact ⟨b,off,x,A',n',c',e,hF,hx,⟨by simpa [shOut,z3j,shInt,z0h] using hc 0 _ rfl,by simpa [shOut,z3j,shInt,z0h] using hc 1 _ rfl⟩,h1,h2⟩
theorem z0h9 (y:In) (A:Option Addr) (n c g:Nat) (x:In) (w:World) (h0:w.cell? ⟨g,0,none⟩=some (.int .i64 x.p.tx)) (h1:w.cell? ⟨g,1,none⟩=some (.int .i64 x.p.at_)) (hg:g<w.heap.size) :
  Calls Tryz.prog 139 #[.agg #[.int .i64 y.p.tx,.int .i64 y.p.at_,.slice A n c],.pointer (some ⟨g,0,none⟩)] w fun e w'=>e = .returned (.bool (decide (y.p=x.p)))∧Below w.heap.size w w':=by
 have hb:Below w.heap.size w (w.alloc (.cells #[.int .i64 y.p.tx,.int .i64 y.p.at_,.slice A n c] 105)):=(Below.refl _ _).alloc (zY0k _) _;have HB:=Lib.hid hb;have g0:(w.alloc (.cells #[.int .i64 y.p.tx,.int .i64 y.p.at_,.slice A n c] 105)).cell? ⟨g,0,none⟩=some (.int .i64 x.p.tx):=by rw [World.cell?_alloc_lt w _ _ hg];exact h0
 have g1:(w.alloc (.cells #[.int .i64 y.p.tx,.int .i64 y.p.at_,.slice A n c] 105)).cell? ⟨g,1,none⟩=some (.int .i64 x.p.at_):=by rw [World.cell?_alloc_lt w _ _ hg];exact h1
 clear hb h0 h1;obtain ⟨⟨yt,ya⟩,yk⟩:=y;obtain ⟨⟨xt,xa⟩,xk⟩:=x;simp only at g0 g1 HB ⊢
 by_cases e1:yt=xt
 ·subst e1
  by_cases e2:ya=xa
  ·subst e2
   go_enter Tryz.func139,Tryz.ntmps139;go_wp2
   all_goals skip
   go_ret;exact ⟨z7f (by simp),HB.out⟩
  ·go_enter Tryz.func139,Tryz.ntmps139
   go_wp2;go_ret;exact ⟨z7f (by simp [e2]),HB.out⟩
 ·go_enter Tryz.func139,Tryz.ntmps139
  go_wp2;go_ret;exact ⟨z7f (by simp [e1]),HB.out⟩
def z4l (xs:List In) (p:Point) (k:Nat):Int:=match xs with
 | [] => -1
 | y::l=>if y.p=p then k else z4l l p (k+1)
theorem z0c1 (xs:List In) (A:Option Addr) (n c g:Nat) (x:In) (w:World) (F:Nat→Prop) (h:Rds shIn w F xs A n c) (hF:∀ b,F b→b<w.heap.size) (h0:w.cell? ⟨g,0,none⟩=some (.int .i64 x.p.tx)) (h1:w.cell? ⟨g,1,none⟩=some (.int .i64 x.p.at_)) (hg:g<w.heap.size) :
  Calls Tryz.prog 161 #[.slice A n c,.func (.func 139) #[] #[.pointer (some ⟨g,0,none⟩)]] w fun e w'=>e = .returned (.int .i64 (z4l xs x.p 0))∧Below w.heap.size w w':=by
 have hn:=h.2.1;have hc:=h.2.2.1;have hl:=h.1;have HR:=Lib.hid h;have HLN:=Lib.hid hl;have H0:=Lib.hid h0;have H1:=Lib.hid h1;clear h hl h0 h1;go_enter Tryz.func161,Tryz.ntmps161;go_wp2;go_loopw [5,8] (fun _ i wr=>∃ k:Nat,k≤n∧i = .int .i64 k∧Below w.heap.size w wr∧z4l (xs.drop k) x.p k=z4l xs x.p 0) (fun _ i _=>n - (intOf i).toNat)
 case atStart=>exact ⟨0,by omega,rfl,Below.refl _ _,rfl⟩
 case round =>
  obtain ⟨k,hk,rfl,hb,hs⟩:=hrel
  by_cases hlt:k<n
  ·obtain ⟨b,off,y,A',n',c',rfl,hFb,hx,⟨hc1,hc2,hc3⟩,-,-,-⟩:=HR.out.inn hlt
   rw [z4r hx,z4l] at hs;rw [← hb.cell (p:=⟨b,off+k * 3,none⟩) (hF b hFb)] at hc1;rw [← hb.cell (p:=⟨b,off+k * 3+1,none⟩) (hF b hFb)] at hc2;rw [← hb.cell (p:=⟨b,off+k * 3+2,none⟩) (hF b hFb)] at hc3;have HB:=Lib.hid hb;have i1:(0:Int)≤(k:Int):=by omega
   have i2:(k:Int)<(n:Int):=by omega
   have hcall:=fun (W:World) (hW:Below w.heap.size w W)=>z0h9 y A' n' c' g x W (by rw [hW.cell (p:=⟨g,0,none⟩) hg];exact H0.out) (by rw [hW.cell (p:=⟨g,1,none⟩) hg];exact H1.out) (zY1t hg hW.size)
   have HC:=Lib.hid hcall;clear hx hb hcall
   by_cases hy:y.p=x.p
   ·rw [if_pos hy] at hs
    have HS:=Lib.hid hs;have hd:decide (y.p=x.p)=true:=by simpa using hy
    have HD:=Lib.hid hd;clear hs hy hd;go_wp2_with (go_at_call 139;refine (HC.out _ HB.out).mono ?_;rintro e w2 ⟨rfl,hb2⟩;rw [HD.out]);go_ret;exact ⟨z0n HS.out,HB.out.trans (hb2.mono HB.out.size)⟩
   ·rw [if_neg hy] at hs
    have HS:=Lib.hid hs;have hd:decide (y.p=x.p)=false:=by simpa using hy
    have HD:=Lib.hid hd;clear hs hy hd;go_wp2_with (go_at_call 139;refine (HC.out _ HB.out).mono ?_;rintro e w2 ⟨rfl,hb2⟩;rw [HD.out]);go_roundw
    case measure=>simp [intOf];omega
    case rel=>exact ⟨k+1,by omega,by go_num,HB.out.trans (hb2.mono HB.out.size),HS.out⟩
  ·obtain rfl:k=n:=by omega
   rw [zY1l (by rw [HLN.out];omega),z4l] at hs;have HS:=Lib.hid hs;clear hs;go_wp2;go_ret;exact ⟨z0n HS.out,hb⟩
theorem zrv (xs:List In) (A:Option Addr) (n c g:Nat) (x:In) (w:World) (F:Nat→Prop) (h:Rds shIn w F xs A n c) (hF:∀ b,F b→b<w.heap.size) (h0:w.cell? ⟨g,0,none⟩=some (.int .i64 x.p.tx)) (h1:w.cell? ⟨g,1,none⟩=some (.int .i64 x.p.at_)) (hg:g<w.heap.size) :
  Calls Tryz.prog 138 #[.slice A n c,.func (.func 139) #[] #[.pointer (some ⟨g,0,none⟩)]] w fun e w'=>e = .returned (.bool (decide (0≤z4l xs x.p 0)))∧Below w.heap.size w w':=by
 have HC:=Lib.hid (z0c1 xs A n c g x w F h hF h0 h1 hg);clear h hF h0 h1 hg;generalize z4l xs x.p 0=j at HC ⊢;go_enter Tryz.func138,Tryz.ntmps138;go_wp2_with fail;refine HC.out.mono ?_;rintro e w1 ⟨rfl,hb⟩;rcases Classical.em (0≤j) with hj|hj
 ·go_wp2_with fail
  go_ret;exact ⟨z7f (by simp [hj]),hb⟩
 ·go_wp2_with fail
  go_ret;exact ⟨z7f (by (simp;done)),hb⟩
def z4m (x:In):Int:=if x.p.tx<1∨120<x.p.tx∨x.p.at_<0∨6≤x.p.at_ then 3 else z9 x.key
def z2n:List In→List In→Int
 | [],_=>0
 | x::l,seen=>if z4m x≠0 then z4m x else if 0≤z4l seen x.p 0 then 6 else z2n l (seen++[x])
def z6b (x:Out):Int:=if x.coin<1 then 3 else z9 x.lock
def z2c:List Out→Int
 | []=>0
 | x::l=>if z6b x≠0 then z6b x else z2c l
def z2d (t:Tx):Int:=if 6<t.ins.length∨6<t.outs.length then 2 else if t.outs.length=0 then 4 else if (t.ins.length=0∧(t.height<1∨1000<t.height))∨(0<t.ins.length∧t.height≠0) then 3 else 0
def zm (t:Tx):Int:=if z2d t≠0 then z2d t else if z2n t.ins []≠0 then z2n t.ins [] else if z2c t.outs≠0 then z2c t.outs else (z3q (t.outs.map Out.coin)).2
set_option maxHeartbeats 1000000 in
theorem zf4 (t:Tx) (cs:List Value) (w:World) (F:Nat→Prop) (h:shTx.rep w F t cs) (hF:∀ b,F b→b<w.heap.size) :
  Calls Tryz.prog 111 #[.agg cs.toArray] w fun e w'=>e = .returned (.int .i64 (zm t))∧Below w.heap.size w w':=by
 obtain ⟨A1,n1,c1,A2,n2,c2,rfl,hh,hi,ho⟩:=z023 h
 obtain ⟨th,ins,outs⟩:=t
 simp only at hi ho hh ⊢
 have hl1:=hi.1
 have hn1:=hi.2.1
 have hc1:=hi.2.2.1
 have hl2:=ho.1
 have hn2:=ho.2.1
 have hc2:=ho.2.2.1
 have HI:=Lib.hid hi
 have HO:=Lib.hid ho
 have hB:=(Below.refl w.heap.size w).alloc (zY0k _) (.cells #[.int .i64 th,.slice A1 n1 c1,.slice A2 n2 c2] 30)
 have hblk:=heap_alloc_new w (.cells #[.int .i64 th,.slice A1 n1 c1,.slice A2 n2 c2] 30)
 have HB:=Lib.hid hB
 have HK:=Lib.hid hblk
 clear hi ho h hh hB hblk
 by_cases h0:z2d ⟨th,ins,outs⟩=0
 ·simp only [z2d] at h0
  rw [hl1,hl2] at h0
  have a1:¬ (6<n1∨6<n2):=fun e=>by rw [if_pos e] at h0;cases h0
  rw [if_neg a1] at h0
  have a2:¬ n2=0:=fun e=>by rw [if_pos e] at h0;cases h0
  rw [if_neg a2] at h0
  have a3:¬ ((n1=0∧(th<1∨1000<th))∨(0<n1∧th≠0)):=fun e=>by rw [if_pos e] at h0;cases h0
  have e:zm ⟨th,ins,outs⟩=if z2n ins []≠0 then z2n ins [] else if z2c outs≠0 then z2c outs else (z3q (outs.map Out.coin)).2:=by
   have:¬ z2d ⟨th,ins,outs⟩≠0:=by simp only [z2d];rw [hl1,hl2,if_neg a1,if_neg a2,if_neg a3];decide
   simp only [zm];rw [if_neg this]
  obtain ⟨R,hR⟩:∃ R,R=if z2n ins []≠0 then z2n ins [] else if z2c outs≠0 then z2c outs else (z3q (outs.map Out.coin)).2:=⟨_,rfl⟩
  rw [e,← hR]
  have R1:=Lib.hid (show ∀ v,v=z2n ins []→v≠0→v=R from fun v hv h=>by rw [hR,← hv,if_pos h])
  have R2:=Lib.hid (show z2n ins []=0→∀ v,v=z2c outs→v≠0→v=R from fun h0 v hv h=>by rw [hR,h0,← hv,if_neg (by decide),if_pos h])
  have R3:=Lib.hid (show z2n ins []=0→z2c outs=0→(z3q (outs.map Out.coin)).2=R from fun h0 h1=>by rw [hR,h0,h1,if_neg (by decide),if_neg (by decide)])
  clear hR
  have m1:n1≤6:=by omega
  have m2:n2≤6:=by omega
  have m3:0<n2:=by omega
  have L1:=Lib.hid hl1
  have L2:=Lib.hid hl2
  clear e h0 a1 a2 hl1 hl2 hn1 hn2 hc1 hc2
  obtain ⟨i0,zv,hi,hz0,hz1,hz2,hz3⟩:=z0kw
  have hi1:=HI.out.2.1
  have hi2:=HI.out.2.2.1
  have ho1:=HO.out.2.1
  have ho2:=HO.out.2.2.1
  go_enter Tryz.func111,Tryz.ntmps111
  rcases (show (n1=0∧¬ th<1∧¬ 1000<th)∨(0<n1∧th=0) by omega) with ⟨g1,g2,g3⟩|⟨g1,g2⟩
  case' inl =>
   have q1:((n1:Int) == 0)=true:=by simp [g1]
   have q4:¬ (0:Int)<(n1:Int):=by omega
   clear a3 g1
   go_wp2
   rename_i z0 z1 z2 z3
   clear z1 z0
  case' inr =>
   have q1:((n1:Int) == 0)=false:=by simp;omega
   have q4:(0:Int)<(n1:Int):=by omega
   have q5:(th != 0)=false:=by simp [g2]
   clear a3 g1 g2
   go_wp2
  all_goals (
   go_loopw [3,4,5,54] (fun _ _ _ i wr=>∃ k:Nat,k≤n1∧i = .int .i64 k∧Below w.heap.size w wr∧wr.heap[w.heap.size]? = some (.cells #[.int .i64 th,.slice A1 n1 c1,.slice A2 n2 c2] 30 (0,0))∧z2n (ins.drop k) (ins.take k)=z2n ins []) (fun _ _ _ i _=>n1 - (intOf i).toNat)
   case atStart=>exact ⟨0,by omega,rfl,HB.out,HK.out,rfl⟩
   case round =>
    obtain ⟨k,hk,rfl,hb,hbox,hs⟩:=hrel
    have Hb:=Lib.hid hb
    have Hbox:=Lib.hid hbox
    have hwz:=zil hbox
    clear hb hbox q1 q4
    rcases Classical.em (k<n1) with hlt|hlt
    ·obtain ⟨b,off,x,A',n',c',rfl,hFb,hx,⟨hc1,hc2,hc3⟩,-,-,hrk⟩:=HI.out.inn hlt
     have hbx:=z61 (i:=1) Hbox.out
     have hFw:=hF b hFb
     rw [← Hb.out.cell (p:=⟨b,off+k * 3,none⟩) hFw] at hc1
     rw [← Hb.out.cell (p:=⟨b,off+k * 3+1,none⟩) hFw] at hc2
     rw [← Hb.out.cell (p:=⟨b,off+k * 3+2,none⟩) hFw] at hc3
     rw [z4r hx,z2n] at hs
     have HT:=Lib.hid (z3h hx)
     have HW:=Lib.hid (Hb.out.alloc Hb.out.size (.cells #[.int .i64 x.p.tx,.int .i64 x.p.at_,.slice A' n' c'] 105))
     have HRK:=Lib.hid ((hrk.keep ((Agree.below HW.out).mono hF)).more (F':=Lt (wr.alloc (.cells #[.int .i64 x.p.tx,.int .i64 x.p.at_,.slice A' n' c'] 105)).heap.size) fun b hb=>by have:=hF b hb;show b<_;simp;omega)
     have HBX:=Lib.hid (z6g (g:=w.heap.size) Hbox.out ((Below.refl wr.heap.size wr).alloc (zY0k _) (.cells #[.int .i64 x.p.tx,.int .i64 x.p.at_,.slice A' n' c'] 105)) hwz)
     have HNW:=Lib.hid (heap_alloc_new wr (.cells #[.int .i64 x.p.tx,.int .i64 x.p.at_,.slice A' n' c'] 105))
     have i1:(0:Int)≤(k:Int):=by omega
     have i2:(k:Int)<(n1:Int):=by omega
     clear hx hrk hFb
     by_cases hp:x.p.tx<1∨120<x.p.tx∨x.p.at_<0∨6≤x.p.at_
     ·have e:z4m x=3:=by simp only [z4m];rw [if_pos hp]
      rw [e,if_pos (by decide)] at hs
      have HS:=Lib.hid (R1.out 3 hs (by decide))
      clear e hs
      obtain ⟨⟨xt,xa⟩,xk⟩:=x
      simp only at hc1 hc2 hp HW
      rcases Classical.em (xt<1) with p1|p1
      ·clear hp
       go_wp2_with fail
       go_ret
       exact ⟨z0n HS.out,HW.out⟩
      ·rcases Classical.em (120<xt) with p2|p2
       ·clear hp
        go_wp2_with fail
        go_ret
        exact ⟨z0n HS.out,HW.out⟩
       ·rcases Classical.em (xa<0) with p3|p3
        ·clear hp
         go_wp2_with fail
         go_ret
         exact ⟨z0n HS.out,HW.out⟩
        ·have p4:6≤xa:=by omega
         clear hp
         go_wp2_with fail
         go_ret
         exact ⟨z0n HS.out,HW.out⟩
     ·have e:z4m x=z9 x.key:=by simp only [z4m];rw [if_neg hp]
      rw [e] at hs
      have p1:¬ x.p.tx<1:=by omega
      have p2:¬ 120<x.p.tx:=by omega
      have p3:¬ x.p.at_<0:=by omega
      have p4:¬ 6≤x.p.at_:=by omega
      have HS:=Lib.hid hs
      clear e hp hs
      go_wp2_with fail
      generalize hW1:wr.alloc (.cells #[.int .i64 x.p.tx,.int .i64 x.p.at_,.slice A' n' c'] 105)=W1 at HW HRK HBX HNW ⊢
      have hsW:wr.heap.size<W1.heap.size:=by rw [← hW1];simp
      clear hW1
      refine (zby _ _ _ _ _ _ HRK.out (fun b hb=>hb)).mono ?_
      rintro e w2 ⟨rfl,hb2⟩
      have HW2:=Lib.hid (HW.out.trans (hb2.mono HW.out.size))
      have HBX2:=Lib.hid (z6g HBX.out hb2 (by omega))
      have HNW2:=Lib.hid (z6g HNW.out hb2 hsW)
      have hz2':=hb2.size
      clear hb2 HW HRK HBX HNW
      by_cases he:z9 x.key=0
      ·rw [he]
       have hs:=HS.out
       rw [he,if_neg (by decide)] at hs
       clear HS he
       have hbx2:=z61 (i:=1) HBX2.out
       go_wp2_with fail
       refine (zrv (ins.take k) _ k _ wr.heap.size x w2 (Lt w2.heap.size) (((HI.out.take (by omega)).keep ((Agree.below HW2.out).mono hF)).more fun b hb=>by have:=hF b hb;have:=HW2.out.size;show b<_;omega) (fun b hb=>hb) (by rw [z61 HNW2.out];rfl) (by rw [z61 HNW2.out];rfl) (by omega)).mono ?_
       rintro e w3 ⟨rfl,hb3⟩
       have HW3:=Lib.hid (HW2.out.trans (hb3.mono HW2.out.size))
       have HBX3:=Lib.hid (z6g HBX2.out hb3 (by omega))
       clear hb3 HW2 HBX2 HNW2 hbx2
       by_cases hx:0≤z4l (ins.take k) x.p 0
       ·rw [if_pos hx] at hs
        have hd:decide (0≤z4l (ins.take k) x.p 0)=true:=by simpa using hx
        rw [hd]
        have HS:=Lib.hid (R1.out 6 hs (by decide))
        clear hd hx hs
        go_wp2_with fail
        go_ret
        exact ⟨z0n HS.out,HW3.out⟩
       ·rw [if_neg hx] at hs
        have hd:decide (0≤z4l (ins.take k) x.p 0)=false:=by simpa using hx
        rw [hd]
        have HS:=Lib.hid hs
        clear hd hx hs
        go_wp2_with fail
        go_roundw
        case measure=>simp [intOf];omega
        case rel=>exact ⟨k+1,by omega,by go_num,HW3.out,HBX3.out,by rw [HT.out];exact HS.out⟩
      ·have hs:=HS.out
       rw [if_pos he] at hs
       have hd:(z9 x.key != 0)=true:=by simpa using he
       have HS':=Lib.hid (R1.out _ hs he)
       clear HS he hs
       go_wp2_with fail
       go_ret
       exact ⟨z0n HS'.out,HW2.out⟩
    ·obtain rfl:n1=k:=by omega
     rw [zY1l (by rw [L1.out];omega),z2n] at hs
     have HS:=Lib.hid hs.symm
     have hbx:=z61 (i:=2) Hbox.out
     clear hs
     go_wp2_with fail
     go_loopw [6,8,9,97] (fun o _ _ i wr=>∃ k:Nat,k≤n2∧i = .int .i64 k∧Below w.heap.size w wr∧w.heap.size<wr.heap.size∧wr.ownsRow (w.heap.size+1) 3 1 o k (((outs.take k).map Out.coin).map (Value.int .i64))∧(∀ y ∈ outs.take k,I64 y.coin)∧z2c (outs.drop k)=z2c outs) (fun _ _ _ i _=>n2 - (intOf i).toNat)
     case atStart=>exact ⟨0,by omega,rfl,Hb.out,hwz,World.ownsRow_nil _ _ _ _,by simp,rfl⟩
     case round =>
      obtain ⟨k,hk,rfl,hb,hwq,hown,hob,hs'⟩:=hrel
      rcases Classical.em (k<n2) with hlt2|hlt2
      ·obtain ⟨b,off,x,A',n',c',rfl,hFb,hx,⟨hc1,hc2⟩,xi,hrk⟩:=HO.out.out_ hlt2
       have hFw:=hF b hFb
       rw [← hb.cell (p:=⟨b,off+k * 2,none⟩) hFw] at hc1
       rw [← hb.cell (p:=⟨b,off+k * 2+1,none⟩) hFw] at hc2
       rw [z4r hx,z2c] at hs'
       have HT:=Lib.hid (z3h hx)
       have hW:=hb.alloc hb.size (.cells #[.int .i64 x.coin,.slice A' n' c'] 99)
       have HW:=Lib.hid hW
       have HRK:=Lib.hid ((hrk.keep ((Agree.below hW).mono hF)).more (F':=Lt (wr.alloc (.cells #[.int .i64 x.coin,.slice A' n' c'] 99)).heap.size) fun b hb=>by have:=hF b hb;show b<_;simp;omega)
       have HNW:=Lib.hid (heap_alloc_new wr (.cells #[.int .i64 x.coin,.slice A' n' c'] 99))
       have HOW:=Lib.hid (zuj hown ((Below.refl wr.heap.size wr).alloc (zY0k _) (.cells #[.int .i64 x.coin,.slice A' n' c'] 99)))
       have HOB:=Lib.hid hob
       have i1:(0:Int)≤(k:Int):=by omega
       have i2:(k:Int)<(n2:Int):=by omega
       clear hx hrk hFb hW hown hob hb
       by_cases hp:x.coin<1
       ·have e:z6b x=3:=by simp only [z6b];rw [if_pos hp]
        rw [e,if_pos (by decide)] at hs'
        have HS2:=Lib.hid (R2.out HS.out 3 hs' (by decide))
        clear e hs'
        go_wp2_with fail
        go_ret
        exact ⟨z0n HS2.out,HW.out⟩
       ·have e:z6b x=z9 x.lock:=by simp only [z6b];rw [if_neg hp]
        rw [e] at hs'
        have HS2:=Lib.hid hs'
        clear e hs'
        go_wp2_with fail
        generalize hW1:wr.alloc (.cells #[.int .i64 x.coin,.slice A' n' c'] 99)=W1 at HW HRK HNW HOW ⊢
        have hsW:wr.heap.size<W1.heap.size:=by rw [← hW1];simp
        clear hW1
        refine (zby _ _ _ _ _ _ HRK.out (fun b hb=>hb)).mono ?_
        rintro e w2 ⟨rfl,hb2⟩
        have HW2:=Lib.hid (HW.out.trans (hb2.mono HW.out.size))
        have HNW2:=Lib.hid (z6g HNW.out hb2 hsW)
        have HOW2:=Lib.hid (zuj HOW.out hb2)
        have hz2':=hb2.size
        clear hb2 HW HRK HNW HOW
        by_cases he:z9 x.lock=0
        ·rw [he]
         have hs:=HS2.out
         rw [he,if_neg (by decide)] at hs
         have HS3:=Lib.hid hs
         clear HS2 he hs
         have hcx:=z61 (i:=0) HNW2.out
         go_wp2_with (at_builtin;refine wpList_append_own_at _ rfl _ _ 58 rfl (w.heap.size+1) 3 i0 zv 1 8 Tryz.underlying58 hi hz0 hz1 hz2 hz3 (by omega) _ k (((outs.take k).map Out.coin).map (Value.int .i64)) rfl (HOW2.out.alloc _) ⟨w2.heap.size,0,none⟩ 1 1 [.int .i64 x.coin] rfl rfl (cell_one_new _ _ _) (by intro u hu;simp at hu;subst hu;rfl) (by unfold maxLen;omega) (by omega) (by simp;omega) ?_;intro v5 w5 hown5 hgr5 _ hob5)
         have hgr:(w2.alloc (.cells #[.int .i64 x.coin] 3)).grownBy w5 u6.ownBlock:=hgr5
         have hge:=fun k hk=>zik HOW2.out (k:=k) hk
         go_roundw
         case measure=>simp [intOf];omega
         case rel =>
          have hs5:=hgr.size
          simp only [World.size_alloc] at hs5
          refine ⟨k+1,by omega,by go_num,(HW2.out.alloc HW2.out.size _).grown hgr (by have:=HW2.out.size;simp;omega) (fun k hk=>by have:=hge _ hk;omega),by omega,by rw [HT.out,zY23,zY23];exact hown5,?_,HS3.out⟩
          intro y hy
          rw [HT.out] at hy
          rcases zY12.1 hy with h|h
          ·exact HOB.out y h
          ·simp at h;subst h;exact xi
        ·have hs:=HS2.out
         rw [if_pos he] at hs
         have hd:(z9 x.lock != 0)=true:=by simpa using he
         have HS3:=Lib.hid (R2.out HS.out _ hs he)
         clear HS2 he hs
         go_wp2_with fail
         go_ret
         exact ⟨z0n HS3.out,HW2.out⟩
      ·obtain rfl:n2=k:=by omega
       rw [zY1l (by rw [L2.out];omega),z2c] at hs'
       have HS2:=Lib.hid (R3.out HS.out hs'.symm)
       rw [zY0t (by rw [L2.out];omega)] at hown hob
       have HBq:=Lib.hid hb
       obtain ⟨A',c',ev,hri⟩:=Rds.of_own_int hown (fun x hx=>by obtain ⟨y,hy,rfl⟩:=zY2w.1 hx;exact hob y hy)
       subst ev
       have HRI:=Lib.hid hri
       clear hs' hown hob hb hri
       go_wp2_with fail
       refine (z0rm _ _ _ _ _ _ HRI.out).mono ?_
       rintro e w2 ⟨rfl,rfl⟩
       go_wp2_with fail
       go_ret
       exact ⟨z0n HS2.out,HBq.out⟩)
 ·have e:zm ⟨th,ins,outs⟩=z2d ⟨th,ins,outs⟩:=by simp only [zm];rw [if_pos h0]
  rw [e]
  clear e
  by_cases a1:6<n1∨6<n2
  ·have e:z2d ⟨th,ins,outs⟩=2:=by simp only [z2d];rw [if_pos (by rw [hl1,hl2];exact a1)]
   rw [e]
   clear e h0 hl1 hl2
   by_cases a:6<n1
   ·clear a1
    go_enter Tryz.func111,Tryz.ntmps111
    go_wp2
    go_ret
    exact ⟨rfl,HB.out⟩
   ·have a2:6<n2:=by omega
    clear a1
    go_enter Tryz.func111,Tryz.ntmps111
    go_wp2
    go_ret
    exact ⟨rfl,HB.out⟩
  ·by_cases a2:n2=0
   ·have e:z2d ⟨th,ins,outs⟩=4:=by simp only [z2d];rw [if_neg (by rw [hl1,hl2];exact a1),if_pos (by rw [hl2];exact a2)]
    rw [e]
    subst a2
    clear e h0 hl1 hl2
    go_enter Tryz.func111,Tryz.ntmps111
    go_wp2
    go_ret
    exact ⟨rfl,HB.out⟩
   ·have a3:(n1=0∧(th<1∨1000<th))∨(0<n1∧th≠0):=by
     apply Classical.byContradiction
     intro a3
     exact h0 (by simp only [z2d];rw [if_neg (by rw [hl1,hl2];exact a1),if_neg (by rw [hl2];exact a2),if_neg (by rw [hl1];exact a3)])
    have e:z2d ⟨th,ins,outs⟩=3:=by simp only [z2d];rw [if_neg (by rw [hl1,hl2];exact a1),if_neg (by rw [hl2];exact a2),if_pos (by rw [hl1];exact a3)]
    rw [e]
    have a4:0<n2:=by omega
    clear e h0 hl1 hl2 a2
    rcases a3 with ⟨rfl,a3⟩|⟨a3,a5⟩
    ·rcases Classical.em (th<1) with a5|a5
     ·clear a3
      go_enter Tryz.func111,Tryz.ntmps111
      go_wp2
      go_ret
      exact ⟨rfl,HB.out⟩
     ·have a6:1000<th:=by omega
      clear a3
      go_enter Tryz.func111,Tryz.ntmps111
      go_wp2
      go_ret
      exact ⟨rfl,HB.out⟩
    ·have a6:(th != 0)=true:=by simpa using a5
     clear a5
     go_enter Tryz.func111,Tryz.ntmps111
     go_wp2
     go_ret
     exact ⟨rfl,HB.out⟩
end
section
open Go.RowKit
set_option maxRecDepth 100000
theorem Rds.tx {w:World} {F:Nat→Prop} {xs:List Tx} {A:Option Addr} {n c k:Nat} (h:Rds shTx w F xs A n c) (hk:k<n) :
  ∃ b off x A1 n1 c1 A2 n2 c2,A=some ⟨b,off,none⟩∧F b∧xs[k]? = some x∧(w.cell? ⟨b,off+k * 3,none⟩=some (.int .i64 x.height)∧w.cell? ⟨b,off+k * 3+1,none⟩=some (.slice A1 n1 c1)∧w.cell? ⟨b,off+k * 3+2,none⟩=some (.slice A2 n2 c2))∧shTx.rep w F x [.int .i64 x.height,.slice A1 n1 c1,.slice A2 n2 c2]∧I64 x.height∧x.ins.length=n1:=by
 obtain ⟨b,off,x,cs,e,hF,hx,hr,hc⟩:=h.at_ hk;have hr':=hr;obtain ⟨A1,n1,c1,A2,n2,c2,rfl,h1,h2,h3⟩:=z023 hr;exact ⟨b,off,x,A1,n1,c1,A2,n2,c2,e,hF,hx,⟨by simpa [shTx,zdd,z3j,shInt,z0h] using hc 0 _ rfl,by simpa [shTx,zdd,z3j,shInt,z0h] using hc 1 _ rfl,by simpa [shTx,zdd,z3j,shInt,z0h] using hc 2 _ rfl⟩,hr',h1,h2.1⟩
def z2q (b:Block):Prop:=b.parent<0∨120<b.parent∨b.height<1∨1000<b.height∨b.work<1∨1000<b.work∨b.nonce<0∨1000000000<b.nonce
instance (b:Block):Decidable (z2q b):=by unfold z2q;infer_instance
def z5h (b:Block):Int:=if z2q b then 3 else if 4<b.txs.length then 2 else if b.txs.length=0 then 4 else 0
def z9w (h:Int) (t:Tx) (i:Nat):Prop:=¬ (t.ins.length=0↔i=0)∨(i=0∧t.height≠h)
instance (h:Int) (t:Tx) (i:Nat):Decidable (z9w h t i):=by unfold z9w;infer_instance
def z6n (h:Int):List Tx→Nat→Int
 | [],_=>0
 | t::l,i=>if zm t≠0 then zm t else if z9w h t i then 4 else z6n h l (i+1)
def zb (b:Block):Int:=if z5h b≠0 then z5h b else z6n b.height b.txs 0
set_option maxHeartbeats 1000000 in
theorem zft (x:Block) (cs:List Value) (w:World) (F:Nat→Prop) (h:shBlock.rep w F x cs) (hF:∀ b,F b→b<w.heap.size) :
  Calls Tryz.prog 65 #[.agg cs.toArray] w fun e w'=>e = .returned (.int .i64 (zb x))∧Below w.heap.size w w':=by
 obtain ⟨A,n,c,rfl,i1,i2,i3,i4,hr⟩:=zij h
 obtain ⟨bp,bh,bw,bn,txs⟩:=x
 simp only at hr i1 i2 i3 i4 ⊢
 have hl:=hr.1
 have hn:=hr.2.1
 have hc:=hr.2.2.1
 have HR:=Lib.hid hr
 have HB:=Lib.hid ((Below.refl w.heap.size w).alloc (zY0k _) (.cells #[.int .i64 bp,.int .i64 bh,.int .i64 bw,.int .i64 bn,.slice A n c] 49))
 have HK:=Lib.hid (heap_alloc_new w (.cells #[.int .i64 bp,.int .i64 bh,.int .i64 bw,.int .i64 bn,.slice A n c] 49))
 clear hr h
 by_cases h0:z2q ⟨bp,bh,bw,bn,txs⟩
 ·have e:zb ⟨bp,bh,bw,bn,txs⟩=3:=by simp only [zb,z5h];rw [if_pos h0];rfl
  rw [e]
  unfold z2q at h0
  simp only at h0
  clear e hl
  rcases Classical.em (bp<0) with p1|p1
  ·clear h0
   go_enter Tryz.func65,Tryz.ntmps65
   go_wp2
   go_ret
   exact ⟨rfl,HB.out⟩
  rcases Classical.em (120<bp) with p2|p2
  ·clear h0
   go_enter Tryz.func65,Tryz.ntmps65
   go_wp2
   go_ret
   exact ⟨rfl,HB.out⟩
  rcases Classical.em (bh<1) with p3|p3
  ·clear h0
   go_enter Tryz.func65,Tryz.ntmps65
   go_wp2
   go_ret
   exact ⟨rfl,HB.out⟩
  rcases Classical.em (1000<bh) with p4|p4
  ·clear h0
   go_enter Tryz.func65,Tryz.ntmps65
   go_wp2
   go_ret
   exact ⟨rfl,HB.out⟩
  rcases Classical.em (bw<1) with p5|p5
  ·clear h0
   go_enter Tryz.func65,Tryz.ntmps65
   go_wp2
   go_ret
   exact ⟨rfl,HB.out⟩
  rcases Classical.em (1000<bw) with p6|p6
  ·clear h0
   go_enter Tryz.func65,Tryz.ntmps65
   go_wp2
   go_ret
   exact ⟨rfl,HB.out⟩
  rcases Classical.em (bn<0) with p7|p7
  ·clear h0
   go_enter Tryz.func65,Tryz.ntmps65
   go_wp2
   go_ret
   exact ⟨rfl,HB.out⟩
  ·have p8:1000000000<bn:=by omega
   clear h0
   go_enter Tryz.func65,Tryz.ntmps65
   go_wp2
   go_ret
   exact ⟨rfl,HB.out⟩
 ·have p:=h0
  unfold z2q at p
  simp only at p
  have p1:¬ bp<0:=by omega
  have p2:¬ 120<bp:=by omega
  have p3:¬ bh<1:=by omega
  have p4:¬ 1000<bh:=by omega
  have p5:¬ bw<1:=by omega
  have p6:¬ 1000<bw:=by omega
  have p7:¬ bn<0:=by omega
  have p8:¬ 1000000000<bn:=by omega
  clear p
  by_cases a1:4<n
  ·have e:zb ⟨bp,bh,bw,bn,txs⟩=2:=by simp only [zb,z5h];rw [if_neg h0,hl,if_pos a1];rfl
   rw [e]
   clear e h0 hl
   go_enter Tryz.func65,Tryz.ntmps65
   go_wp2
   go_ret
   exact ⟨rfl,HB.out⟩
  ·by_cases a2:n=0
   ·have e:zb ⟨bp,bh,bw,bn,txs⟩=4:=by simp only [zb,z5h];rw [if_neg h0,hl,if_neg a1,if_pos a2];rfl
    rw [e]
    subst a2
    clear e h0 hl a1
    go_enter Tryz.func65,Tryz.ntmps65
    go_wp2
    go_ret
    exact ⟨rfl,HB.out⟩
   ·have e:zb ⟨bp,bh,bw,bn,txs⟩=z6n bh txs 0:=by simp only [zb,z5h];rw [if_neg h0,hl,if_neg a1,if_neg a2];rfl
    rw [e]
    have m1:n≤4:=by omega
    have m2:0<n:=by omega
    have HLN:=Lib.hid hl
    clear e h0 hl a1 a2
    go_enter Tryz.func65,Tryz.ntmps65
    go_wp2
    go_loopw [3,4,5,55] (fun _ _ _ i wr=>∃ k:Nat,k≤n∧i = .int .i64 k∧Below w.heap.size w wr∧wr.heap[w.heap.size]? = some (.cells #[.int .i64 bp,.int .i64 bh,.int .i64 bw,.int .i64 bn,.slice A n c] 49 (0,0))∧z6n bh (txs.drop k) k=z6n bh txs 0) (fun _ _ _ i _=>n - (intOf i).toNat)
    case atStart=>exact ⟨0,by omega,rfl,HB.out,HK.out,rfl⟩
    case round =>
     obtain ⟨k,hk,rfl,hb,hbox,hs⟩:=hrel
     have hwz:=zil hbox
     rcases Classical.em (k<n) with hlt|hlt
     ·obtain ⟨b,off,x,A1,n1,c1,A2,n2,c2,rfl,hFb,hx,⟨hc1,hc2,hc3⟩,hrk,xi,xl⟩:=HR.out.tx hlt
      have hFw:=hF b hFb
      rw [← hb.cell (p:=⟨b,off+k * 3,none⟩) hFw] at hc1
      rw [← hb.cell (p:=⟨b,off+k * 3+1,none⟩) hFw] at hc2
      rw [← hb.cell (p:=⟨b,off+k * 3+2,none⟩) hFw] at hc3
      rw [z4r hx,z6n] at hs
      have hW:=hb.alloc hb.size (.cells #[.int .i64 x.height,.slice A1 n1 c1,.slice A2 n2 c2] 30)
      have HW:=Lib.hid hW
      have HRK:=Lib.hid (shTx.more (F':=Lt (wr.alloc (.cells #[.int .i64 x.height,.slice A1 n1 c1,.slice A2 n2 c2] 30)).heap.size) (fun b hb=>by have:=hF b hb;show b<_;simp;omega) (shTx.keep ((Agree.below hW).mono hF) hrk))
      have HBX:=Lib.hid (z6g (g:=w.heap.size) hbox ((Below.refl wr.heap.size wr).alloc (zY0k _) (.cells #[.int .i64 x.height,.slice A1 n1 c1,.slice A2 n2 c2] 30)) hwz)
      have HNW:=Lib.hid (heap_alloc_new wr (.cells #[.int .i64 x.height,.slice A1 n1 c1,.slice A2 n2 c2] 30))
      have i1':(0:Int)≤(k:Int):=by omega
      have i2':(k:Int)<(n:Int):=by omega
      have HS:=Lib.hid hs
      clear hx hrk hFb hb hbox hs hW
      go_wp2_with fail
      generalize hW1:wr.alloc (.cells #[.int .i64 x.height,.slice A1 n1 c1,.slice A2 n2 c2] 30)=W1 at HW HRK HBX HNW ⊢
      have hsW:wr.heap.size<W1.heap.size:=by rw [← hW1];simp
      clear hW1
      refine (zf4 _ [_,_,_] _ _ HRK.out (fun b hb=>hb)).mono ?_
      rintro e w2 ⟨rfl,hb2⟩
      have HW2:=Lib.hid (HW.out.trans (hb2.mono HW.out.size))
      have HBX2:=Lib.hid (z6g HBX.out hb2 (by omega))
      have HNW2:=Lib.hid (z6g HNW.out hb2 hsW)
      clear hb2 HW HRK HBX HNW
      by_cases he:zm x=0
      ·rw [he]
       have hs:=HS.out
       rw [he,if_neg (by decide)] at hs
       clear HS he
       have b0:=z61 (i:=0) HNW2.out
       have b1:=z61 (i:=1) HNW2.out
       have b2:=z61 (i:=1) HBX2.out
       rcases Classical.em (k=0) with hk0|hk0
       ·have q1:((k:Int) == 0)=true:=by simp [hk0]
        rcases Classical.em (n1=0) with hn0|hn0
        ·have q2:((n1:Int) == 0)=true:=by simp [hn0]
         rcases Classical.em (x.height=bh) with hh|hh
         ·have q3:(x.height != bh)=false:=by simp [hh]
          rw [if_neg (by unfold z9w;rw [xl];simp [hk0,hn0,hh])] at hs
          have HS:=Lib.hid hs
          clear hs hk0 hn0 hh
          go_wp2_with fail
          go_roundw
          case measure=>simp [intOf];omega
          case rel=>exact ⟨k+1,by omega,by go_num,HW2.out,HBX2.out,HS.out⟩
         ·have q3:(x.height != bh)=true:=by simp [hh]
          rw [if_pos (by unfold z9w;exact .inr ⟨hk0,hh⟩)] at hs
          have HS:=Lib.hid hs
          clear hs hk0 hn0 hh
          go_wp2_with fail
          go_ret
          exact ⟨z0n HS.out,HW2.out⟩
        ·have q2:((n1:Int) == 0)=false:=by simp;omega
         rw [if_pos (by unfold z9w;rw [xl];simp [hk0,hn0])] at hs
         have HS:=Lib.hid hs
         clear hs hk0 hn0
         go_wp2_with fail
         go_ret
         exact ⟨z0n HS.out,HW2.out⟩
       ·have q1:((k:Int) == 0)=false:=by simp;omega
        rcases Classical.em (n1=0) with hn0|hn0
        ·have q2:((n1:Int) == 0)=true:=by simp [hn0]
         rw [if_pos (by unfold z9w;rw [xl];simp [hk0,hn0])] at hs
         have HS:=Lib.hid hs
         clear hs hk0 hn0
         go_wp2_with fail
         go_ret
         exact ⟨z0n HS.out,HW2.out⟩
        ·have q2:((n1:Int) == 0)=false:=by simp;omega
         rw [if_neg (by unfold z9w;rw [xl];simp [hk0,hn0])] at hs
         have HS:=Lib.hid hs
         clear hs hk0 hn0
         go_wp2_with fail
         go_roundw
         case measure=>simp [intOf];omega
         case rel=>exact ⟨k+1,by omega,by go_num,HW2.out,HBX2.out,HS.out⟩
      ·have hs:=HS.out
       rw [if_pos he] at hs
       have hd:(zm x != 0)=true:=by simpa using he
       have HS':=Lib.hid hs
       clear HS he hs
       go_wp2_with fail
       go_ret
       exact ⟨z0n HS'.out,HW2.out⟩
     ·obtain rfl:n=k:=by omega
      rw [zY1l (by rw [HLN.out];omega),z6n] at hs
      have HS:=Lib.hid hs
      clear hs
      go_wp2
      go_ret
      exact ⟨z0n HS.out,hb⟩
end
section
open Go.RowKit
def Yl (P:Program) (w0:World) (F0:Nat→Prop) (Γ:List Res) (o:Oper) (a:Act) (v:Value):Prop:=∀ W,Sep w0 F0 Γ W→(execOp a.eval o).run P W = .ok (.value v) W
section
variable {P:Program} {w0 W:World} {F0:Nat→Prop} {Γ:List Res} {ops:Array Oper} {a:Act} {rest:List Oper} {o:Oper} {t:TypeId} {x y:Operand}
theorem Yl.pure {v:Value} (h:∀ W,(execOp a.eval o).run P W = .ok (.value v) W):Yl P w0 F0 Γ o a v:=fun W _=>h W
theorem Yl.move (ho:o.op = .move x):Yl P w0 F0 Γ o a (a.eval x):=fun W _=>by unfold execOp;simp only [ho];rfl
theorem Yl.assign (ho:o.op = .assign x):Yl P w0 F0 Γ o a (a.eval x):=fun W _=>by unfold execOp;simp only [ho];rfl
theorem Yl.load (ho:o.op = .load t x) {p:Addr} {v:Value} (hx:a.eval x = .pointer (some p)) (hr:∀ W,Sep w0 F0 Γ W→(loadVar t p).run P W = .ok v W):Yl P w0 F0 Γ o a v:=fun W hS=>by
 unfold execOp;simp only [ho,Instr.loadAt,Instr.sureAddr,Sem.run_bind,Result.andThen_ok,Sem.run_pure,hx,hr W hS]
theorem Yl.load1b (ho:o.op = .load t x) {g j ty:Nat} {cs:List Value} {v:Value} (hx:a.eval x = .pointer (some ⟨g,j,none⟩)) (h1:OneT P t) (hm:At Γ (box g cs ty)) (hv:cs[j]? = some v):Yl P w0 F0 Γ o a v :=
 Yl.load ho hx fun W hS=>h1.load (by have:=hS.boxAt hm j v hv;rwa [zY0x] at this)
theorem Yl.loadNb (ho:o.op = .load t x) {g ty:Nat} {cs:List Value} (hx:a.eval x = .pointer (some ⟨g,0,none⟩)) (hm:At Γ (box g cs ty)) (h1:AggN P t cs.length):Yl P w0 F0 Γ o a (.agg cs.toArray) :=
 Yl.load ho hx fun W hS=>h1.load (hS.boxAt hm)
theorem Yl.load1c (ho:o.op = .load t x) {b q j:Nat} {cs:List Value} {v:Value} (hx:a.eval x = .pointer (some ⟨b,q+j,none⟩)) (h1:OneT P t) (hm:At Γ (cells b q cs)) (hv:cs[j]? = some v):Yl P w0 F0 Γ o a v :=
 Yl.load ho hx fun W hS=>h1.load (hS.cellsAt hm j v hv)
theorem Yl.load1z (ho:o.op = .load t x) {b q:Nat} {cs:List Value} {v:Value} (hx:a.eval x = .pointer (some ⟨b,q,none⟩)) (h1:OneT P t) (hm:At Γ (cells b q cs)) (hv:cs[0]? = some v):Yl P w0 F0 Γ o a v :=
 Yl.load ho hx fun W hS=>h1.load (hS.cellsAt hm 0 v hv)
theorem Yl.loadNz (ho:o.op = .load t x) {b q:Nat} {cs:List Value} (hx:a.eval x = .pointer (some ⟨b,q,none⟩)) (hm:At Γ (cells b q cs)) (h1:AggN P t cs.length):Yl P w0 F0 Γ o a (.agg cs.toArray) :=
 Yl.load ho hx fun W hS=>h1.load (hS.cellsAt hm)
theorem Sep.region (h:Sep w0 F0 Γ W) {id:Nat} {Q:Exit→Act→World→Prop} {l:List Oper} (hm:P.follows .mixedOrders=true) (hB:Region.lexB .any l.toArray=true)
  (k:wpQuiet P l.toArray (Sep w0 F0 Γ) (fun a'=>∀ W',Sep w0 F0 Γ W'→Q .normal a' W') l a):(Code.region id l.toArray true).wp P Q a W :=
 wp_region_quiet (C:=Sep w0 F0 Γ) hm hB h.drew (by simpa using k)
def z7p (late:List Nat) (listed:Array Bool):Bool:=late.any fun s=>listed.getD s false
def zkl (md:Region.Mode) (ops:Array Oper):Nat→Nat→Nat→Bool
 | 0,_,_=>false
 | n+1,s,i=>match ops[s]? with
  | some o=>o.after.any fun e=>Region.binds md e && (e.on == i || zkl md ops n e.on i)
  | none=>false
def zj2 (md:Region.Mode) (ops:Array Oper) (late:List Nat) (i:Nat):Bool:=late.all fun s=>s != i && zkl md ops ops.size s i
def zs0 (md:Region.Mode) (ops:Array Oper) (listed:Array Bool):Bool:=(List.range ops.size).all fun j => !listed.getD j false || match ops[j]? with
 | some o=>o.after.all fun e => !Region.binds md e || listed.getD e.on false
 | none=>true
def zg1 (md:Region.Mode) (ops:Array Oper) (listed:Array Bool):Prop:=∀ j o,ops[j]? = some o→listed.getD j false=true→∀ e ∈ o.after,Region.binds md e=true→listed.getD e.on false=true
theorem z0lb {md:Region.Mode} {ops:Array Oper} {listed:Array Bool} (h:zs0 md ops listed=true):zg1 md ops listed:=by
 intro j o hj hl e he hb;have hlt:=(zY15.1 hj).1;have:=(zY1f.1 h) j (zY2n.2 hlt);simp only [hl,hj,zY3c,zY35] at this;have h2:=zY3e.1 this e he;simpa [hb] using h2
theorem z0hg {md:Region.Mode} {ops:Array Oper} {listed:Array Bool} {j:Nat} (h:zg1 md ops listed) (hj:j ∈ Region.ready md ops listed):zg1 md ops (listed.setIfInBounds j true):=by
 obtain ⟨_,oj,hoj,hall⟩:=mem_ready.1 hj;intro k o hk hl e he hb
 by_cases hjk:j=k
 ·subst hjk
  rw [hoj] at hk;injection hk with hk
  subst hk;exact getD_set_true (hall e he hb)
 ·rw [getD_set_ne false hjk] at hl
  exact getD_set_true (h k o hk hl e he hb)
theorem zj3 {md:Region.Mode} {ops:Array Oper} {listed:Array Bool} (h:zg1 md ops listed) {i:Nat}:∀ (n s:Nat),zkl md ops n s i=true→listed.getD s false=true→listed.getD i false=true
 | 0,s,hr,_=>by cases hr
 | n+1,s,hr,hl=>by
  unfold zkl at hr
  split at hr
  ·rename_i o ho
   obtain ⟨e,he,hb⟩:=Array.any_eq_true'.1 hr;simp only [zY0d,zY3b,beq_iff_eq] at hb;have h1:=h s o ho hl e he hb.1;rcases hb.2 with h2|h2
   ·rw [← h2];exact h1
   ·exact zj3 h n e.on h2 h1
  ·cases hr
theorem z0cy {md:Region.Mode} {ops:Array Oper} {listed:Array Bool} (h:zg1 md ops listed) {i s n:Nat} (hr:zkl md ops n s i=true) (hs:s ∈ Region.ready md ops listed):listed.getD i false=true:=by
 obtain ⟨_,o,ho,hall⟩:=mem_ready.1 hs
 cases n with
 | zero=>cases hr
 | succ n =>
  unfold zkl at hr;simp only [ho] at hr;obtain ⟨e,he,hb⟩:=Array.any_eq_true'.1 hr;simp only [zY0d,zY3b,beq_iff_eq] at hb;have h1:=hall e he hb.1;rcases hb.2 with h2|h2
  ·rw [← h2];exact h1
  ·exact zj3 h n e.on h2 h1
theorem z0rr {listed:Array Bool} {i:Nat} (h:listed.getD i true=false):listed.getD i false=false:=by
 rcases zY1x i listed.size with h'|h'
 ·simp [h'] at h ⊢;exact h
 ·simp [zY19 h'] at h
variable {md:Region.Mode} {Q:Exit→Act→World→Prop} {S:World→Prop} {late:List Nat}
def z55 (P:Program) (md:Region.Mode) (ops:Array Oper) (Q:Exit→Act→World→Prop) (S:World→Prop) (late:List Nat):Nat→Array Bool→Act→World→Prop
 | 0,listed,a,w=>Region.ready md ops listed=[]∧Q .normal a w
 | fuel+1,listed,a,w =>
  (Region.ready md ops listed=[]→Q .normal a w) ∧
  ∀ i ∈ Region.ready md ops listed,wpOp P ops Q i (fun a' w'=>(z7p late (listed.setIfInBounds i true)=false→S w')∧z55 P md ops Q S late fuel (listed.setIfInBounds i true) a' w') a w
theorem zpj:∀ (fuel:Nat) (listed:Array Bool) (a:Act) (w:World),z55 P md ops Q S late fuel listed a w→wpAny P md ops Q fuel listed a w
 | 0,_,_,_,h=>h
 | fuel+1,_,_,_,h=>⟨h.1,fun i hi=>wpOp_mono (fun a' w' h'=>zpj fuel _ a' w' h'.2) (h.2 i hi)⟩
theorem zpk {listed:Array Bool} {j:Nat} (h:z7p late listed=false) (hj:j ∉ late):z7p late (listed.setIfInBounds j true)=false:=by
 rw [z7p,zY3j] at h ⊢;intro s hs;have hne:j≠s:=fun e=>hj (e ▸ hs)
 rw [getD_set_ne false hne];exact h s hs
theorem z05k {i:Nat} {oi:Oper} {v:Value} (hi:ops[i]? = some oi) (hsel:∀ (j:Nat) (o:Oper) cs b,ops[j]? = some o→o.op ≠ .select cs b)
  (hQ:∀ c a w,Q (.panic c) (a.put oi.dst v) w→Q (.panic c) a w) (hlw:zj2 md ops late i=true) :
  ∀ (fuel:Nat) (listed:Array Bool) (a:Act) (w:World),
   (∀ j oj,ops[j]? = some oj→j≠i→listed.getD j true=false→(∀ e ∈ oj.after,Region.binds md e=true→e.on≠i)→oi.apart ops oj=true) →
   i ∈ Region.ready md ops listed→YieldsIf P ops S oi v a→S w→z7p late listed=false→zg1 md ops listed →
   z55 P md ops Q S late fuel (listed.setIfInBounds i true) (a.put oi.dst v) w→z55 P md ops Q S late (fuel+1) listed a w:=by
 have hil:i ∉ late:=fun h=>by
  have:=(zY1f.1 hlw) i h;simp at this
 intro fuel
 induction fuel with
 | zero =>
  intro listed a w _ hr hy hS hl hcl H;refine ⟨fun h=>(by rw [h] at hr;cases hr),fun j hj=>?_⟩
  by_cases hji:j=i
  ·subst hji;exact hy.wpOp hi hS ⟨fun _=>hS,H⟩
  ·have:=ready_mono hj hji
   rw [H.1] at this
   cases this
 | succ fuel ih =>
  intro listed a w hfree hr hy hS hl hcl H;refine ⟨fun h=>(by rw [h] at hr;cases hr),fun j hj=>?_⟩
  by_cases hji:j=i
  ·subst hji;exact hy.wpOp hi hS ⟨fun _=>hS,H⟩
  ·have h1:=H.2 j (ready_mono hj hji)
   obtain ⟨hjun,oj,hoj,hall⟩:=mem_ready.1 hj;have hnot:∀ e ∈ oj.after,Region.binds md e=true→e.on≠i:=fun e he hb heq=>by
    have h1:=hall e he hb;have h0:=(mem_ready.1 hr).1;rw [heq] at h1;rcases zY1x i listed.size with h'|h'
    ·simp [h'] at h0 h1;rw [h0] at h1;cases h1
    ·simp [zY19 h'] at h1
   have hjl:j ∉ late:=fun hmem=>by
    have:=(zY1f.1 hlw) j hmem;simp only [zY0d] at this;have h5:=z0cy hcl this.2 hj;rw [z0rr (mem_ready.1 hr).1] at h5
    cases h5
   have hl':=zpk hl hjl;have h2:=wpOp_putIf hoj (hfree j oj hoj hji hjun hnot) (fun cs b=>hsel i oi cs b hi) (fun cs b=>hsel j oj cs b hoj) hQ hy h1;have hfree':∀ k ok,ops[k]? = some ok→k≠i→(listed.setIfInBounds j true).getD k true=false →
     (∀ e ∈ ok.after,Region.binds md e=true→e.on≠i)→oi.apart ops ok=true:=fun k ok hk hki hun hno=>by
    refine hfree k ok hk hki ?_ hno
    by_cases hjk:j=k
    ·subst hjk;exact hjun
    ·rw [getD_set_ne true hjk] at hun;exact hun
   have hl2:z7p late ((listed.setIfInBounds i true).setIfInBounds j true)=false:=by
    rw [Array.setIfInBounds_comm _ _ (Ne.symm hji)];exact zpk hl' hil
   refine wpOp_mono (fun a' w' h3=>⟨fun _=>h3.2.1 hl2,ih (listed.setIfInBounds j true) a' w' hfree' (ready_mono hr (Ne.symm hji)) h3.1 (h3.2.1 hl2) hl' (z0hg hcl hj) ?_⟩) h2;rw [Array.setIfInBounds_comm _ _ hji];exact h3.2.2
theorem z0cz (i:Nat) {oi:Oper} {v:Value} {fuel:Nat} {listed:Array Bool} (hi:ops[i]? = some oi) (hw:Region.wanted oi (yielded ops a.tmps)=true) (hy:Yl P w0 F0 Γ oi a v) (h:Sep w0 F0 Γ W)
  (hs:(Region.noSelect ops && Region.free md ops listed i && (Region.ready md ops listed).contains i && zj2 md ops late i && !z7p late listed && zs0 md ops listed)=true)
  (hQ:∀ c a w,Q (.panic c) (a.put oi.dst v) w→Q (.panic c) a w)
  (k:z55 P md ops Q (Sep w0 F0 Γ) late fuel (listed.setIfInBounds i true) (a.put oi.dst v) W):z55 P md ops Q (Sep w0 F0 Γ) late (fuel+1) listed a W:=by
 simp only [zY0d,zY2r] at hs;obtain ⟨⟨⟨⟨⟨h1,h2⟩,h3⟩,h4⟩,h5⟩,h6⟩:=hs;exact z05k hi (Region.noSelect_spec h1) hQ h4 fuel listed a W (Region.free_spec hi h2) (by simpa using h3) (.inl ⟨hw,fun W hS=>hy W hS⟩) h h5 (z0lb h6) k
structure NextT (P:Program) (md:Region.Mode) (ops:Array Oper) (Q:Exit→Act→World→Prop) (S:World→Prop) (late:List Nat) (fuel:Nat) (listed:Array Bool) (a:Act) (w:World):Prop where
 s:z7p late listed=false→S w
 t:z55 P md ops Q S late fuel listed a w
theorem z0uh {Q Q':Exit→Act→World→Prop} {K K':Act→World→Prop} {w:World} (hK:∀ a w,K' a w→K a w) (hp:∀ c w,Q' (.panic c) a w→Q (.panic c) a w) (hl:LetsOut Q'→LetsOut Q) (h:o.wp P a w K' Q'):o.wp P a w K Q:=by
 unfold Oper.wp at *;generalize (execOp a.eval o).run P w=r at *
 cases r with
 | ok n w' =>
  cases n <;> simp only [Oper.upon] at h ⊢ <;>
   first
    | exact hK _ _ h
    | exact Calls.mono h (fun e w'' he=>by cases e <;> first|exact hK _ _ he|exact hp _ _ he|exact hl he)
    | exact Rows.mono h (fun _ _ he=>hK _ _ he)
 | halt x w'=>cases x <;> simp only [Oper.upon] at h ⊢ <;> exact hp _ _ h
theorem z0hh (i:Nat) {fuel:Nat} {listed:Array Bool} {w:World} (hr:(Region.ready md ops listed == [i])=true) (ho:ops[i]? = some o)
  (h:wpList P ops (Exit.then (NextT P md ops Q S late fuel (listed.setIfInBounds i true)) Q) [o] a w):z55 P md ops Q S late (fuel+1) listed a w:=by
 have hr':Region.ready md ops listed=[i]:=by simpa using hr
 refine ⟨fun h0=>(by rw [h0] at hr';cases hr'),fun j hj=>?_⟩;rw [hr'] at hj;have hji:j=i:=by simpa using hj
 subst hji;unfold wpOp;simp only [ho];unfold wpList at h
 split
 ·rename_i hw
  rw [if_pos hw] at h;rcases h with h|⟨h1,h2⟩
  ·exact .inl (z0uh (fun a w hk=>⟨hk.s,hk.t⟩) (fun c w hp=>hp) (fun hl=>hl) h)
  ·exact .inr ⟨h1,h2⟩
 ·rename_i hw
  rw [if_neg hw] at h;exact ⟨h.s,h.t⟩
theorem zkz {fuel:Nat} {listed:Array Bool} {w:World} (hr:((Region.ready md ops listed) == [])=true) (h:Q .normal a w):z55 P md ops Q S late fuel listed a w:=by
 have hr':Region.ready md ops listed=[]:=by simpa using hr
 cases fuel with
 | zero=>exact ⟨hr',h⟩
 | succ n=>exact ⟨fun _=>h,by rw [hr'];simp⟩
theorem z2g {l:List Oper} (i:Nat) {oi:Oper} {v:Value} {fuel:Nat} {listed:Array Bool} (hi:l[i]? = some oi) (hw:Region.wanted oi (yielded l.toArray a.tmps)=true) (hy:Yl P w0 F0 Γ oi a v) (h:Sep w0 F0 Γ W)
  (hs:(Region.noSelect l.toArray && Region.free md l.toArray listed i && (Region.ready md l.toArray listed).contains i && zj2 md l.toArray late i && !z7p late listed && zs0 md l.toArray listed)=true)
  (hQ:∀ c a w,Q (.panic c) (a.put oi.dst v) w→Q (.panic c) a w)
  (k:z55 P md l.toArray Q (Sep w0 F0 Γ) late fuel (listed.setIfInBounds i true) (a.put oi.dst v) W):z55 P md l.toArray Q (Sep w0 F0 Γ) late (fuel+1) listed a W :=
 z0cz i (by simpa using hi) hw hy h hs hQ k
theorem zj4 {l:List Oper} (i:Nat) {fuel:Nat} {listed:Array Bool} {w:World} (hr:(Region.ready md l.toArray listed == [i])=true) (ho:l[i]? = some o)
  (h:wpList P l.toArray (Exit.then (NextT P md l.toArray Q S late fuel (listed.setIfInBounds i true)) Q) [o] a w):z55 P md l.toArray Q S late (fuel+1) listed a w :=
 z0hh i hr (by simpa using ho) h
theorem z0g0 {late:List Nat} {listed:Array Bool} {p:Prop} (h:z7p late listed=true) (h':z7p late listed=false):p:=by rw [h] at h';cases h'
theorem Sep.regionT (h:Sep w0 F0 Γ W) (late:List Nat) {id:Nat} {l:List Oper} (hm:P.follows .mixedOrders=true) (k:∀ W',Sep w0 F0 Γ W'→z55 P .any l.toArray Q (Sep w0 F0 Γ) late l.length (Array.replicate l.length false) a W'):(Code.region id l.toArray true).wp P Q a W:=by
 refine wp_region_any hm (zpj (S:=Sep w0 F0 Γ) (late:=late) _ _ _ _ ?_);have:=k W.drew h.drew;simpa using this
end
def Got (P:Program) (W:World) (tmps:Array Value):ResultVar→Value→Prop
 | .tmp t,v=>tmps.getD t undef=v
 | .cell a t,v=>∃ p,tmps.getD a undef = .pointer (some p)∧(loadVar t p).run P W = .ok v W
def getR (tmps:Array Value):ResultVar→Sem Value
 | .tmp t=>Pure.pure (tmps.getD t undef)
 | .cell a t=>do loadVar t (← asAddr (tmps.getD a undef))
theorem Got.run {P:Program} {W:World} {tmps:Array Value} {r:ResultVar} {v:Value} (h:Got P W tmps r v):(getR tmps r).run P W = .ok v W:=by
 cases r with
 | tmp t=>simp only [Got] at h;simp only [getR,h,Sem.run_pure]
 | cell a t=>obtain ⟨p,h1,h2⟩:=h;simp only [getR,h1,asAddr,Sem.run_bind,Sem.run_pure,Result.andThen_ok,h2]
theorem z0hj (fn:Func) (tmps:Array Value):results fn tmps=(do let vs ← fn.results.mapM (getR tmps);Pure.pure (if h:vs.size=1 then vs[0] else .tuple vs)):=rfl
section
variable {P:Program} {w0 W:World} {F0:Nat→Prop} {Γ:List Res} {fn:Func} {tmps:Array Value} {r s q p:ResultVar} {v u x y:Value}
theorem Got.tmp {t:Tmp} (h:tmps.getD t undef=v):Got P W tmps (.tmp t) v:=h
theorem Got.boxN (hS:Sep w0 F0 Γ W) {a g t ty:Nat} {cs:List Value} (hx:tmps.getD a undef = .pointer (some ⟨g,0,none⟩)) (hm:At Γ (box g cs ty)) (h1:AggN P t cs.length):Got P W tmps (.cell a t) (.agg cs.toArray):=⟨_,hx,h1.load (hS.boxAt hm)⟩
theorem Got.box1 (hS:Sep w0 F0 Γ W) {a g t ty:Nat} {v:Value} (hx:tmps.getD a undef = .pointer (some ⟨g,0,none⟩)) (hm:At Γ (box g [v] ty)) (h1:OneT P t):Got P W tmps (.cell a t) v:=⟨_,hx,h1.load (by have:=hS.boxAt hm 0 v rfl;simpa using this)⟩
theorem zgz (h:fn.results=#[r,s]) (g:Got P W tmps r v) (g':Got P W tmps s u):(results fn tmps).run P W = .ok (.tuple #[v,u]) W:=by
 rw [z0hj,h];simp [g.run,g'.run]
end
attribute [irreducible] Yl z55
end
section
open Go.RowKit
attribute [local semireducible] z55 Yl
section
variable {P:Program} {ops:Array Oper} {a:Act} {w:World} {md:Region.Mode} {Q:Exit→Act→World→Prop} {S:World→Prop} {late:List Nat}
def Yp (P:Program) (o:Oper) (a:Act) (v:Value):Prop:=∀ W,(execOp a.eval o).run P W = .ok (.value v) W
theorem Yp.mk {o:Oper} {v:Value} (h:∀ W,(execOp a.eval o).run P W = .ok (.value v) W):Yp P o a v:=h
theorem Yp.move {o:Oper} {x:Operand} (ho:o.op = .move x):Yp P o a (a.eval x):=fun W=>by unfold execOp;simp only [ho];rfl
theorem Yp.assign {o:Oper} {x:Operand} (ho:o.op = .assign x):Yp P o a (a.eval x):=fun W=>by unfold execOp;simp only [ho];rfl
end
attribute [irreducible] Yp
end
section
open Go.RowKit
theorem z0vf:AggN Tryz.prog 103 2:=.mk Tryz.underlying103 rfl (by kernel_rfl)
theorem z_op:z5n Tryz.prog 103 [.int .i64 0,.int .i64 0]:=⟨.agg #[.int .i64 0,.int .i64 0],rfl,fun _=>by kernel_rfl⟩
theorem z0op:AggN Tryz.prog 97 2:=.mk Tryz.underlying97 rfl (by kernel_rfl)
theorem z0vx:z5n Tryz.prog 97 [.int .i64 0,.int .i64 0]:=⟨.agg #[.int .i64 0,.int .i64 0],rfl,fun _=>by kernel_rfl⟩
theorem z0vg:AggN Tryz.prog 105 3:=.mk Tryz.underlying105 rfl (by kernel_rfl)
theorem z_in:z5n Tryz.prog 105 [.int .i64 0,.int .i64 0,.slice none 0 0]:=⟨.agg #[.int .i64 0,.int .i64 0,.slice none 0 0],rfl,fun _=>by kernel_rfl⟩
theorem z0ui:AggN Tryz.prog 99 2:=.mk Tryz.underlying99 rfl (by kernel_rfl)
theorem z0vh:z5n Tryz.prog 99 [.int .i64 0,.slice none 0 0]:=⟨.agg #[.int .i64 0,.slice none 0 0],rfl,fun _=>by kernel_rfl⟩
theorem z0vi:AggN Tryz.prog 30 3:=.mk Tryz.underlying30 rfl (by kernel_rfl)
theorem z_tx:z5n Tryz.prog 30 [.int .i64 0,.slice none 0 0,.slice none 0 0]:=⟨.agg #[.int .i64 0,.slice none 0 0,.slice none 0 0],rfl,fun _=>by kernel_rfl⟩
theorem z0rs:AggN Tryz.prog 24 1:=.mk Tryz.underlying24 rfl (by kernel_rfl)
theorem z0w0:z5n Tryz.prog 24 [.slice none 0 0]:=⟨.agg #[.slice none 0 0],rfl,fun _=>by kernel_rfl⟩
theorem z0rt:AggN Tryz.prog 101 6:=.mk Tryz.underlying101 rfl (by kernel_rfl)
theorem z0w1:z5n Tryz.prog 101 [.int .i64 0,.int .i64 0,.int .i64 0,.slice none 0 0,.int .i64 0,.bool false]:=⟨.agg #[.int .i64 0,.int .i64 0,.int .i64 0,.slice none 0 0,.int .i64 0,.bool false],rfl,fun _=>by kernel_rfl⟩
theorem z0ru:AggN Tryz.prog 111 1:=.mk Tryz.underlying111 rfl (by kernel_rfl)
theorem z0w2:z5n Tryz.prog 111 [.slice none 0 0]:=⟨.agg #[.slice none 0 0],rfl,fun _=>by kernel_rfl⟩
theorem z0oq:AggN Tryz.prog 49 5:=.mk Tryz.underlying49 rfl (by kernel_rfl)
theorem z0vy:z5n Tryz.prog 49 [.int .i64 0,.int .i64 0,.int .i64 0,.int .i64 0,.slice none 0 0]:=⟨.agg #[.int .i64 0,.int .i64 0,.int .i64 0,.int .i64 0,.slice none 0 0],rfl,fun _=>by kernel_rfl⟩
theorem z0rv:AggN Tryz.prog 75 2:=.mk Tryz.underlying75 rfl (by kernel_rfl)
theorem z0w3:z5n Tryz.prog 75 [.slice none 0 0,.slice none 0 0]:=⟨.agg #[.slice none 0 0,.slice none 0 0],rfl,fun _=>by kernel_rfl⟩
theorem z0rw:OneT Tryz.prog 3:=.mk Tryz.underlying3 rfl (by kernel_rfl)
theorem z0w5:z5n Tryz.prog 3 [.int .i64 0]:=⟨.int .i64 0,rfl,fun _=>by kernel_rfl⟩
theorem z0rx:OneT Tryz.prog 9:=.mk Tryz.underlying9 rfl (by kernel_rfl)
theorem z0w6:z5n Tryz.prog 9 [.string ⟨#[]⟩]:=⟨.string ⟨#[]⟩,rfl,fun _=>by kernel_rfl⟩
theorem z0or:OneT Tryz.prog 4:=.mk Tryz.underlying4 rfl (by kernel_rfl)
theorem z0w4:z5n Tryz.prog 4 [.bool false]:=⟨.bool false,rfl,fun _=>by kernel_rfl⟩
theorem z0lc:OneT Tryz.prog 31:=.mk Tryz.underlying31 rfl (by kernel_rfl)
theorem z0vz:z5n Tryz.prog 31 [.int .i64 0]:=⟨.int .i64 0,rfl,fun _=>by kernel_rfl⟩
theorem z0ry:OneT Tryz.prog 47:=.mk Tryz.underlying47 rfl (by kernel_rfl)
theorem z0hl:OneT Tryz.prog 164:=.mk Tryz.underlying164 rfl (by kernel_rfl)
theorem z0rz:OneT Tryz.prog 27:=.mk Tryz.underlying27 rfl (by kernel_rfl)
theorem z0os:OneT Tryz.prog 28:=.mk Tryz.underlying28 rfl (by kernel_rfl)
theorem z0s0:OneT Tryz.prog 26:=.mk Tryz.underlying26 rfl (by kernel_rfl)
theorem z0ld:OneT Tryz.prog 25:=.mk Tryz.underlying25 rfl (by kernel_rfl)
theorem zs1:SliceT Tryz.prog 25 101 6 64:=.mk Tryz.underlying25 (by kernel_rfl)
theorem z0le:OneT Tryz.prog 57:=.mk Tryz.underlying57 rfl (by kernel_rfl)
theorem z0hm:OneT Tryz.prog 73:=.mk Tryz.underlying73 rfl (by kernel_rfl)
theorem z0ot:OneT Tryz.prog 58:=.mk Tryz.underlying58 rfl (by kernel_rfl)
theorem z0ou:OneT Tryz.prog 22:=.mk Tryz.underlying22 rfl (by kernel_rfl)
theorem zg2 {t:Nat} (h:[3,31,4,9,47,164,27,28,26,25,57,73,58,22].contains t=true):OneT Tryz.prog t:=by
 have h':=zY28.1 h;simp only [zY0g,zY1g,or_false] at h';rcases h' with rfl|rfl|rfl|rfl|rfl|rfl|rfl|rfl|rfl|rfl|rfl|rfl|rfl|rfl
 ·exact z0rw
 ·exact z0lc
 ·exact z0or
 ·exact z0rx
 ·exact z0ry
 ·exact z0hl
 ·exact z0rz
 ·exact z0os
 ·exact z0s0
 ·exact z0ld
 ·exact z0le
 ·exact z0hm
 ·exact z0ot
 ·exact z0ou
theorem za5 {t n:Nat} (h:[(103,2),(97,2),(105,3),(99,2),(30,3),(24,1),(101,6),(111,1),(49,5),(75,2)].contains (t,n)=true):AggN Tryz.prog t n:=by
 have h':=zY28.1 h;simp only [zY0g,zY1g,or_false,zY16] at h';rcases h' with ⟨rfl,rfl⟩|⟨rfl,rfl⟩|⟨rfl,rfl⟩|⟨rfl,rfl⟩|⟨rfl,rfl⟩|⟨rfl,rfl⟩|⟨rfl,rfl⟩|⟨rfl,rfl⟩|⟨rfl,rfl⟩|⟨rfl,rfl⟩
 ·exact z0vf
 ·exact z0op
 ·exact z0vg
 ·exact z0ui
 ·exact z0vi
 ·exact z0rs
 ·exact z0rt
 ·exact z0ru
 ·exact z0oq
 ·exact z0rv
end
section
open Go.RowKit
theorem z0s1 {w:World} {base e size n c:Nat} {A:Option Addr} {xs:List Value} (h:w.ownsRow base e size (.slice A n c) n xs) {g i:Nat} (hA:A=some ⟨g,0,none⟩) (u:Value) :
  (w.setCell ⟨g,i,none⟩ u).ownsRow base e size (.slice A n c) n (xs.set i u):=by
 obtain ⟨hl,h2⟩:=h;refine ⟨by rw [zY2m];exact hl,?_⟩;rcases h2 with ⟨hv,hn⟩|⟨g',cap,cur,hv,hg,hh,hnc,hcm,hcs,ht⟩
 ·simp only [Value.slice.injEq] at hv
  rw [hv.1] at hA;cases hA
 ·simp only [Value.slice.injEq] at hv
  obtain ⟨e1,e2,e3⟩:=hv;rw [e1] at hA;simp only [zY00,Addr.mk.injEq] at hA;obtain ⟨rfl,_⟩:=hA;refine .inr ⟨_,cap,cur.setIfInBounds i u,by rw [e1,e3],hg,z0fs hh,hnc,hcm,by simpa using hcs,?_⟩;rw [← ht];simp [List.take_set]
end
section
open Go.RowKit
def zs2 {α:Type}:List α→Nat→List α→List α
 | l,_,[]=>l
 | l,o,v::vs=>zs2 (l.set o v) (o+1) vs
theorem zj5 {base e size n c g:Nat} {A:Option Addr} (hA:A=some ⟨g,0,none⟩):∀ (vs:List Value) (i:Nat) (w:World) (xs:List Value),w.ownsRow base e size (.slice A n c) n xs →
  (w.setCells g i vs).ownsRow base e size (.slice A n c) n (zs2 xs i vs)
 | [],_,_,_,h=>h
 | v::vs,i,w,xs,h=>zj5 hA vs (i+1) _ _ (z0s1 h hA v)
theorem z05l {α:Type}:∀ (vs:List α) (i:Nat) (l:List α),i+vs.length≤l.length→∀ j,(zs2 l i vs)[j]? = if i≤j∧j<i+vs.length then vs[j - i]? else l[j]?
 | [],i,l,h,j=>by rw [zs2,if_neg (by simp only [zY0q];omega)]
 | v::vs,i,l,h,j=>by
  simp only [zY0a] at h;rw [zs2,z05l vs (i+1) (l.set i v) (by simp;omega)]
  by_cases h1:j=i
  ·subst h1
   rw [if_neg (by omega),if_pos (by simp),zY0e (by omega)];simp
  ·by_cases h2:i+1≤j∧j<i+1+vs.length
   ·rw [if_pos h2,if_pos (by simp;omega),show j - i=(j - (i+1))+1 by omega,zY2k]
   ·rw [if_neg h2,if_neg (by simp;omega),zY0h (by omega)]
theorem z0ov {α:Type} (l vs:List α) (h:l.length=vs.length):zs2 l 0 vs=vs:=by
 apply zY2t;intro j;rw [z05l vs 0 l (by omega)]
 by_cases hj:j<vs.length
 ·rw [if_pos ⟨by omega,by omega⟩,Nat.sub_zero]
 ·rw [if_neg (by omega),zY2i (by omega),zY2i (by omega)]
section
variable {P:Program} {w0 W:World} {F0:Nat→Prop} {Γ Γ' Γ1:List Res}
variable {ops:Array Oper} {Q:Exit→Act→World→Prop} {a:Act} {rest:List Oper} {o:Oper} {t:TypeId} {x y:Operand}
end
end
section
open Go.RowKit
set_option maxRecDepth 100000
section
variable {P:Program} (w:World)
theorem zko (base:Nat) (t ty e:TypeId) (i:TypeInfo) (size:Nat) (ht:P.underlying t=some (.slice e)) (hi:P.info? e=some i)
  (v:Value) (n:Nat) (xs:List Value) (hown:w.ownsRow base e size v n xs) (c:Nat):(Builtin.append_ #[t,t] ty #[v,.slice none 0 c]).run P w = .ok v w:=by
 rcases hown.2 with ⟨rfl,rfl⟩|⟨g,cap,cur,rfl,_,_,hnc,_⟩
 ·simp [Builtin.append_,run_underlying ht,sizeOf,typeInfo,hi,Builtin.lenOf,Builtin.firstCells]
 ·simp [Builtin.append_,run_underlying ht,sizeOf,typeInfo,hi,Builtin.lenOf,Builtin.firstCells,hnc,storeCells]
theorem zs3 {α:Type} {S:Sh α} (hS:S.ones) (base:Nat) (t ty e:TypeId) (i:TypeInfo) (z:Value) (bytes:Nat) (ht:P.underlying t=some (.slice e)) (hi:P.info? e=some i) (hz:i.zero=some z)
  (hsize:i.size=S.size) (hby:i.bytes=bytes) (hzs:z.cells.size=S.size) (hsz:0<S.size)
  (v:Value) (n:Nat) (cells:List Value) (hown:w.ownsRow base e S.size v n cells) {F:Nat→Prop} {xs:List α} {A:Option Addr} {m c:Nat} (hr:Rds S w F xs A m c)
  (h63:n+m≤maxLen) (hbytes:(n+m) * bytes≤140737488355328) (hbase:base≤w.heap.size) :
  ∃ v' w' ys,ys.map (·.1)=xs∧(∀ y ∈ ys,S.rep w F y.1 y.2)∧(Builtin.append_ #[t,t] ty #[v,.slice A m c]).run P w = .ok v' w'∧w'.ownsRow base e S.size v' (n+m) (cells++flat ys)∧w.grownBy w' v.ownBlock ∧
   (v'.ownBlock=v.ownBlock∨v'.ownBlock=some w.heap.size):=by
 obtain ⟨ys,y1,y2,y3⟩:=hr.pairs;have hl:ys.length=m:=by have:=congrArg List.length y1;simp at this;have:=hr.1;omega
 cases A with
 | none =>
  have h0:m=0:=by
   rcases zY1s m with h0|h0
   ·exact h0
   ·obtain ⟨b,off,e,_⟩:=y3 h0;cases e
  subst h0;have:ys=[]:=zY0c hl;subst this;exact ⟨v,w,[],y1,y2,zko w base t ty e i S.size ht hi v n cells hown c,by simpa [flat] using hown,World.grownBy.refl w _,.inl rfl⟩
 | some ad =>
  have hfl:(flat ys).length=m * S.size:=by rw [z8h (fun z hz=>S.len (y2 z hz)),hl]
  have hnews:∀ j u,(flat ys)[j]? = some u→w.cell? (ad.add j)=some u:=by
   intro j u hj;have hj':=(zY02.1 hj).1;have hm:0<m:=by
    rcases zY1s m with h0|h0
    ·rw [h0,zY3o] at hfl;omega
    ·exact h0
   obtain ⟨b,off,e,hFb,hc⟩:=y3 hm;injection e with e
   subst e;rw [z9t];exact hc j u hj
  obtain ⟨v',w',hrun,h2,h3,_,h5⟩:=run_append_own_at (P:=P) w base t ty e i z S.size bytes ht hi hz hsize hby hzs hsz v n cells hown ad m c (flat ys) hfl hnews (zuc hS y2) h63 hbytes hbase;exact ⟨v',w',ys,y1,y2,hrun,h2,h3,h5⟩
theorem zwg {o:Oper} {a:Act} {K:Act→World→Prop} {Q:Exit→Act→World→Prop} (s x:Operand) (t:TypeId)
  (ho:o.op = .call { callee:=.builtin .append,args:=#[s,x],argTypes:=#[t,t] })
  {α:Type} {S:Sh α} (hS:S.ones) (base:Nat) (e:TypeId) (i:TypeInfo) (z:Value) (bytes:Nat) (ht:P.underlying t=some (.slice e)) (hi:P.info? e=some i) (hz:i.zero=some z)
  (hsize:i.size=S.size) (hby:i.bytes=bytes) (hzs:z.cells.size=S.size) (hsz:0<S.size)
  (v:Value) (n:Nat) (cells:List Value) (hs:a.eval s=v) (hown:w.ownsRow base e S.size v n cells) {F:Nat→Prop} {xs:List α} {A:Option Addr} {m c:Nat} (hx:a.eval x = .slice A m c) (hr:Rds S w F xs A m c)
  (h63:n+m≤maxLen) (hbytes:(n+m) * bytes≤140737488355328) (hbase:base≤w.heap.size)
  (h:∀ v' w' ys,ys.map (·.1)=xs→(∀ y ∈ ys,S.rep w F y.1 y.2)→w'.ownsRow base e S.size v' (n+m) (cells++flat ys)→w.grownBy w' v.ownBlock→(v'.ownBlock=v.ownBlock∨v'.ownBlock=some w.heap.size)→K (a.put o.dst v') w'):o.wp P a w K Q:=by
 obtain ⟨v',w',ys,y1,y2,hrun,h2,h3,h4⟩:=zs3 (P:=P) w hS base t o.type e i z bytes ht hi hz hsize hby hzs hsz v n cells hown hr h63 hbytes hbase;unfold Oper.wp execOp;simp only [ho,resolve,invoke,builtin,Sem.run_bind,Sem.run_pure,Result.andThen_ok,zY3d,zY1q,zY2u,hs,hx,hrun];exact h v' w' ys y1 y2 h2 h3 h4
theorem zc8 {ops:Array Oper} {rest:List Oper} {o:Oper} {a:Act} {Q:Exit→Act→World→Prop} (hgd:o.guard=none) (s x:Operand) (t:TypeId)
  (ho:o.op = .call { callee:=.builtin .append,args:=#[s,x],argTypes:=#[t,t] })
  {α:Type} {S:Sh α} (hS:S.ones) (base:Nat) (e:TypeId) (i:TypeInfo) (z:Value) (bytes:Nat) (ht:P.underlying t=some (.slice e)) (hi:P.info? e=some i) (hz:i.zero=some z)
  (hsize:i.size=S.size) (hby:i.bytes=bytes) (hzs:z.cells.size=S.size) (hsz:0<S.size)
  (v:Value) (n:Nat) (cells:List Value) (hs:a.eval s=v) (hown:w.ownsRow base e S.size v n cells) {F:Nat→Prop} {xs:List α} {A:Option Addr} {m c:Nat} (hx:a.eval x = .slice A m c) (hr:Rds S w F xs A m c)
  (h63:n+m≤maxLen) (hbytes:(n+m) * bytes≤140737488355328) (hbase:base≤w.heap.size)
  (h:∀ v' w' ys,ys.map (·.1)=xs→(∀ y ∈ ys,S.rep w F y.1 y.2)→w'.ownsRow base e S.size v' (n+m) (cells++flat ys)→w.grownBy w' v.ownBlock→(v'.ownBlock=v.ownBlock∨v'.ownBlock=some w.heap.size)→wpList P ops Q rest (a.put o.dst v') w'):wpList P ops Q (o::rest) a w :=
 wpList_plain hgd fun _ hK=>zwg w s x t ho hS base e i z bytes ht hi hz hsize hby hzs hsz v n cells hs hown hx hr h63 hbytes hbase fun v' w' ys h1 h2 h3 h4 h5=>hK _ _ (h v' w' ys h1 h2 h3 h4 h5)
end
theorem wpList_append_run {P:Program} {w w':World} {v':Value} {ops:Array Oper} {rest:List Oper} {o:Oper} {a:Act} {Q:Exit→Act→World→Prop} (hgd:o.guard=none) (s x:Operand) (t tn:TypeId)
  (ho:o.op = .call { callee:=.builtin .append,args:=#[s,x],argTypes:=#[t,tn] }) (vs vx:Value) (hs:a.eval s=vs) (hx:a.eval x=vx)
  (hrun:(Builtin.append_ #[t,tn] o.type #[vs,vx]).run P w = .ok v' w') (h:wpList P ops Q rest (a.put o.dst v') w'):wpList P ops Q (o::rest) a w :=
 wpList_plain hgd fun _ hK=>by
  unfold Oper.wp execOp;simp only [ho,resolve,invoke,builtin,Sem.run_bind,Sem.run_pure,Result.andThen_ok,zY3d,zY1q,zY2u,hs,hx,hrun];exact hK _ _ h
theorem zpl {α:Type} {S:Sh α} {w:World} {F:Nat→Prop} {xss:List (List α)} {A:Option Addr} {n c k:Nat} (h:Rds (z0h S) w F xss A n c) (hk:k<n) :
  ∃ b off xs A' n' c',A=some ⟨b,off,none⟩∧F b∧xss[k]? = some xs∧w.cell? ⟨b,off+k,none⟩=some (.slice A' n' c')∧Rds S w F xs A' n' c':=by
 obtain ⟨b,off,xs,cs,e,hF,hx,⟨A',n',c',rfl,hr⟩,hc⟩:=h.at_ hk;exact ⟨b,off,xs,A',n',c',e,hF,hx,by simpa [z0h] using hc 0 _ rfl,hr⟩
def total {α:Type}:List (List α)→Nat
 | []=>0
 | xs::l=>xs.length+total l
theorem zcl {α:Type} {l:List (List α)} {k:Nat} {x:List α} (h:l[k]? = some x):total (l.take (k+1))=total (l.take k)+x.length:=by
 induction l generalizing k with
 | nil=>simp at h
 | cons y l ih =>
  cases k with
  | zero=>simp at h;subst h;simp [total]
  | succ k=>simp at h;simp [total,ih h];omega
theorem z5j {α:Type} (l:List (List α)) (k:Nat):total (l.take k)≤total l:=by
 induction l generalizing k with
 | nil=>simp [total]
 | cons y l ih =>
  cases k with
  | zero=>simp [total]
  | succ k=>simp [total];exact ih k
end
section
open Go.RowKit
attribute [local semireducible] zm0 rds rep cells box row At Put Del Sub
section
variable {P:Program} {w0 W:World} {F0:Nat→Prop} {Γ Γ' Γ1:List Res}
variable {ops:Array Oper} {Q:Exit→Act→World→Prop} {a:Act} {rest:List Oper} {o:Oper} {t:TypeId} {x y:Operand}
end
end
section
open Go.RowKit
set_option maxRecDepth 100000
theorem z0ox (k:Nat) (w:World) (hk:k≤1000000) :
  Calls Tryz.prog 129 #[.slice none 0 0,.int .i64 k] w fun e w'=>∃ v,e = .returned v∧w'.ownsRow w.heap.size 9 1 v 0 []∧Below w.heap.size w w':=by
 obtain ⟨i0,zv,hi,hz0,hz1,hz2,hz3⟩:∃ i z,Tryz.prog.info? 9=some i∧i.zero=some z∧i.size=1∧i.bytes=16∧z.cells.size=1:=by
  have h1:(Tryz.prog.info? 9).map (fun i=>(i.zero.map (·.cells.size),i.size,i.bytes))=some (some 1,1,16):=by kernel_rfl
  match hh:Tryz.prog.info? 9,h1 with
  | some i,h1 =>
   simp only [zY1a,zY00,zY16] at h1
   match hz:i.zero,h1 with
   | some z,h1=>exact ⟨i,z,rfl,hz,h1.2.1,h1.2.2,by simpa using h1.1⟩
 rcases zY1s k with h0|h0
 ·have h0':(k:Int)≤0:=by omega
  clear h0;go_enter Tryz.func129,Tryz.ntmps129;go_wp2;go_ret;exact ⟨_,rfl,World.ownsRow_nil _ _ _ _,Below.refl _ _⟩
 ·have h0':(0:Int)<(k:Int):=by omega
  have hrun:=Lib.run_append_grow_zeros (P:=Tryz.prog) w 22 3 22 9 i0 zv .i64 .i64 Tryz.underlying22 Tryz.underlying3 hi hz0 none 0 0 [] (by simp [Builtin.firstCells]) k h0 (by omega) (by omega) (by omega) (by rw [hz2];omega) (by
   have:Builtin.nextslicecap (0+k) 0=k:=by unfold Builtin.nextslicecap;rw [if_pos (by omega)];omega
   rw [this,hz2];omega)
  have hg:=grownCap_ge w (0+k) 0 9;have hg2:=grownCap_le_maxLen w (0+k) 0 9 (by unfold maxLen;omega);simp only [zY0x] at hrun hg hg2;generalize hG:grownCap w k 0 9=G at hrun hg hg2;clear hG;generalize hC:(List.toArray (α:=Value) []++Builtin.zeroCells zv.cells k++Builtin.zeroCells zv.cells (G - k))=C at hrun;have hCs:C.size=G * 1:=by
   rw [← hC];simp only [zY2v,zY2j,zY0q,size_zeroCells,hz3];rw [zY0x,← Nat.add_mul];congr 1;omega
  clear hC hi hz0 hz1 hz2 hz3;have hgI:(0:Int)≤(G:Int):=by omega
  have HRUN:=Lib.hid hrun;clear hrun;go_enter Tryz.func129,Tryz.ntmps129;go_wp2_with (at_builtin;refine wpList_append_run rfl _ _ _ _ rfl _ _ rfl rfl HRUN.out ?_);go_ret;refine ⟨_,rfl,⟨by simp,.inr ⟨w.heap.size,G,C,rfl,zY0k _,heap_alloc_new w.drew _,by omega,hg2,hCs,by simp⟩⟩,?_⟩;exact (Below.refl _ _).drew.alloc (zY0k _) _
theorem z0hu (xss:List (List (List UInt8))) (A:Option Addr) (n c:Nat) (w:World) (F:Nat→Prop) (h:Rds (z0h shStr) w F xss A n c) (hF:∀ b,F b→b<w.heap.size) (hn:total xss≤1000000) :
  Calls Tryz.prog 103 #[.slice A n c] w (z4i shStr 9 w F xss.flatten (total xss)):=by
 have hnc:=h.2.1;have hcc:=h.2.2.1;have hxl:=h.1;obtain ⟨i0,zv,hi,hz0,hz1,hz2,hz3⟩:∃ i z,Tryz.prog.info? 9=some i∧i.zero=some z∧i.size=1∧i.bytes=16∧z.cells.size=1:=by
  have h1:(Tryz.prog.info? 9).map (fun i=>(i.zero.map (·.cells.size),i.size,i.bytes))=some (some 1,1,16):=by kernel_rfl
  match hh:Tryz.prog.info? 9,h1 with
  | some i,h1 =>
   simp only [zY1a,zY00,zY16] at h1
   match hz:i.zero,h1 with
   | some z,h1=>exact ⟨i,z,rfl,hz,h1.2.1,h1.2.2,by simpa using h1.1⟩
 have H:=Lib.hid h;clear h;go_enter Tryz.func103,Tryz.ntmps103;go_wp2;go_loop [3,5,11] (fun s _ i=>∃ k:Nat,k≤n∧i = .int .i64 k∧s = .int .i64 (total (xss.take k):Nat)) (fun _ _ i=>n - (intOf i).toNat)
 case atStart=>exact ⟨0,by omega,rfl,by simp [total]⟩
 case round =>
  obtain ⟨k,hk,rfl,rfl⟩:=hrel;have ht:=z5j xss k
  by_cases hlt:k<n
  ·obtain ⟨b,off,xs,A',n',c',rfl,hFb,hx,hcell,hr'⟩:=zpl H.out hlt
   have htt:=zcl hx;have ht2:=z5j xss (k+1);have hl':=hr'.1;have HL:=Lib.hid hl';have HT:=Lib.hid htt;have hb1:total (xss.take k)+n'≤1000000:=by omega
   clear htt hx ht2 hr' hl';have hl2:=hlt;go_wp2;go_round
   case measure=>simp [intOf];omega
   case rel=>exact ⟨k+1,by omega,by go_num,by rw [HT.out,← HL.out];rfl⟩
  ·obtain rfl:k=n:=by omega
   have e:xss.take k=xss:=zY0t (by omega);rw [e] at ht ⊢;have HX:=Lib.hid hxl;clear e hlt hxl ht;have h00:(0:Int)≤(total xss:Int):=by omega
   go_wp2_with fail;refine (z0ox _ _ hn).mono ?_;rintro e w1 ⟨v1,rfl,hown1,hb1⟩;have HO1:=Lib.hid hown1;have HB1:=Lib.hid hb1;clear hown1 hb1;go_wp2_with fail;go_loopw [6,8,27] (fun s _ i wr=>∃ (k':Nat) (zs:List ((List UInt8) × List Value)),k'≤k∧i = .int .i64 k'∧zs.map (·.1)=(xss.take k').flatten∧(∀ z ∈ zs,(shStr).rep w F z.1 z.2)∧wr.ownsRow w.heap.size 9 (shStr).size s (total (xss.take k')) (flat zs)∧Below w.heap.size w wr) (fun _ _ i _=>k - (intOf i).toNat)
   case atStart=>exact ⟨0,[],by omega,rfl,rfl,by simp,HO1.out,HB1.out⟩
   case round =>
    obtain ⟨k',zs,hk',rfl,z1,z2,hown,hb⟩:=hrel
    by_cases hlt:k'<k
    ·obtain ⟨b,off,xs,A',n',c',rfl,hFb,hx,hcell,hr'⟩:=zpl H.out hlt
     rw [← hb.cell (p:=⟨b,off+k',none⟩) (hF b hFb)] at hcell;have htt:=zcl hx;have ht2:=z5j xss (k'+1);have hb1:total (xss.take k')+n'≤1000000:=by have:=hr'.1;omega
     have HR:=Lib.hid (hr'.keep ((Agree.below hb).mono hF));have HT:=Lib.hid htt;have HX2:=Lib.hid hx;have HO:=Lib.hid hown;have HB:=Lib.hid hb;have Z1:=Lib.hid z1;have Z2:=Lib.hid z2;clear hr' htt hx hown hb z1 z2 ht2;go_wp2_with (at_builtin;refine zc8 _ rfl _ _ 22 rfl z027 w.heap.size 9 i0 zv 16 Tryz.underlying22 hi hz0 hz1 hz2 hz3 (by decide) _ (total (xss.take k')) (flat zs) rfl HO.out rfl HR.out (by unfold maxLen;omega) (by omega) HB.out.size ?_;intro v2 w2 ys y1 y2 hown2 hgr2 _);go_roundw
     case measure=>simp [intOf];omega
     case rel =>
      have hl2:=HR.out.1;refine ⟨k'+1,zs++ys,by omega,by go_num,?_,?_,?_,HB.out.grown hgr2 HB.out.size (fun j hj=>zik HO.out hj)⟩
      ·rw [zY23,Z1.out,y1,z3h HX2.out,zY2p];simp
      ·intro z hz
       rcases zY12.1 hz with h|h
       ·exact Z2.out z h
       ·exact (shStr).keep (fun b hb=>(HB.out.block b (hF b hb)).symm) (y2 z h)
      ·rw [HT.out,hl2,zf3];exact hown2
    ·obtain rfl:k'=k:=by omega
     rw [zY0t (by rw [HX.out];omega)] at z1 hown;have HO:=Lib.hid hown;have Z1:=Lib.hid z1;have Z2:=Lib.hid z2;clear hown z1 z2;go_wp2;go_ret;exact ⟨_,zs,rfl,Z1.out,Z2.out,HO.out,hb⟩
theorem z0lq (k:Nat) (w:World) (hk:k≤1000000) :
  Calls Tryz.prog 135 #[.slice none 0 0,.int .i64 k] w fun e w'=>∃ v,e = .returned v∧w'.ownsRow w.heap.size 101 6 v 0 []∧Below w.heap.size w w':=by
 obtain ⟨i0,zv,hi,hz0,hz1,hz2,hz3⟩:∃ i z,Tryz.prog.info? 101=some i∧i.zero=some z∧i.size=6∧i.bytes=64∧z.cells.size=6:=by
  have h1:(Tryz.prog.info? 101).map (fun i=>(i.zero.map (·.cells.size),i.size,i.bytes))=some (some 6,6,64):=by kernel_rfl
  match hh:Tryz.prog.info? 101,h1 with
  | some i,h1 =>
   simp only [zY1a,zY00,zY16] at h1
   match hz:i.zero,h1 with
   | some z,h1=>exact ⟨i,z,rfl,hz,h1.2.1,h1.2.2,by simpa using h1.1⟩
 rcases zY1s k with h0|h0
 ·have h0':(k:Int)≤0:=by omega
  clear h0;go_enter Tryz.func135,Tryz.ntmps135;go_wp2;go_ret;exact ⟨_,rfl,World.ownsRow_nil _ _ _ _,Below.refl _ _⟩
 ·have h0':(0:Int)<(k:Int):=by omega
  have hrun:=Lib.run_append_grow_zeros (P:=Tryz.prog) w 25 3 25 101 i0 zv .i64 .i64 Tryz.underlying25 Tryz.underlying3 hi hz0 none 0 0 [] (by simp [Builtin.firstCells]) k h0 (by omega) (by omega) (by omega) (by rw [hz2];omega) (by
   have:Builtin.nextslicecap (0+k) 0=k:=by unfold Builtin.nextslicecap;rw [if_pos (by omega)];omega
   rw [this,hz2];omega)
  have hg:=grownCap_ge w (0+k) 0 101;have hg2:=grownCap_le_maxLen w (0+k) 0 101 (by unfold maxLen;omega);simp only [zY0x] at hrun hg hg2;generalize hG:grownCap w k 0 101=G at hrun hg hg2;clear hG;generalize hC:(List.toArray (α:=Value) []++Builtin.zeroCells zv.cells k++Builtin.zeroCells zv.cells (G - k))=C at hrun;have hCs:C.size=G * 6:=by
   rw [← hC];simp only [zY2v,zY2j,zY0q,size_zeroCells,hz3];rw [zY0x,← Nat.add_mul];congr 1;omega
  clear hC hi hz0 hz1 hz2 hz3;have hgI:(0:Int)≤(G:Int):=by omega
  have HRUN:=Lib.hid hrun;clear hrun;go_enter Tryz.func135,Tryz.ntmps135;go_wp2_with (at_builtin;refine wpList_append_run rfl _ _ _ _ rfl _ _ rfl rfl HRUN.out ?_);go_ret;refine ⟨_,rfl,⟨by simp,.inr ⟨w.heap.size,G,C,rfl,zY0k _,heap_alloc_new w.drew _,by omega,hg2,hCs,by simp⟩⟩,?_⟩;exact (Below.refl _ _).drew.alloc (zY0k _) _
theorem z0d7 (xss:List (List (Coin))) (A:Option Addr) (n c:Nat) (w:World) (F:Nat→Prop) (h:Rds (z0h shCoin) w F xss A n c) (hF:∀ b,F b→b<w.heap.size) (hn:total xss≤1000000) :
  Calls Tryz.prog 109 #[.slice A n c] w (z4i shCoin 101 w F xss.flatten (total xss)):=by
 have hnc:=h.2.1;have hcc:=h.2.2.1;have hxl:=h.1;obtain ⟨i0,zv,hi,hz0,hz1,hz2,hz3⟩:∃ i z,Tryz.prog.info? 101=some i∧i.zero=some z∧i.size=6∧i.bytes=64∧z.cells.size=6:=by
  have h1:(Tryz.prog.info? 101).map (fun i=>(i.zero.map (·.cells.size),i.size,i.bytes))=some (some 6,6,64):=by kernel_rfl
  match hh:Tryz.prog.info? 101,h1 with
  | some i,h1 =>
   simp only [zY1a,zY00,zY16] at h1
   match hz:i.zero,h1 with
   | some z,h1=>exact ⟨i,z,rfl,hz,h1.2.1,h1.2.2,by simpa using h1.1⟩
 have H:=Lib.hid h;clear h;go_enter Tryz.func109,Tryz.ntmps109;go_wp2;go_loop [3,5,11] (fun s _ i=>∃ k:Nat,k≤n∧i = .int .i64 k∧s = .int .i64 (total (xss.take k):Nat)) (fun _ _ i=>n - (intOf i).toNat)
 case atStart=>exact ⟨0,by omega,rfl,by simp [total]⟩
 case round =>
  obtain ⟨k,hk,rfl,rfl⟩:=hrel;have ht:=z5j xss k
  by_cases hlt:k<n
  ·obtain ⟨b,off,xs,A',n',c',rfl,hFb,hx,hcell,hr'⟩:=zpl H.out hlt
   have htt:=zcl hx;have ht2:=z5j xss (k+1);have hl':=hr'.1;have HL:=Lib.hid hl';have HT:=Lib.hid htt;have hb1:total (xss.take k)+n'≤1000000:=by omega
   clear htt hx ht2 hr' hl';have hl2:=hlt;go_wp2;go_round
   case measure=>simp [intOf];omega
   case rel=>exact ⟨k+1,by omega,by go_num,by rw [HT.out,← HL.out];rfl⟩
  ·obtain rfl:k=n:=by omega
   have e:xss.take k=xss:=zY0t (by omega);rw [e] at ht ⊢;have HX:=Lib.hid hxl;clear e hlt hxl ht;have h00:(0:Int)≤(total xss:Int):=by omega
   go_wp2_with fail;refine (z0lq _ _ hn).mono ?_;rintro e w1 ⟨v1,rfl,hown1,hb1⟩;have HO1:=Lib.hid hown1;have HB1:=Lib.hid hb1;clear hown1 hb1;go_wp2_with fail;go_loopw [6,8,27] (fun s _ i wr=>∃ (k':Nat) (zs:List ((Coin) × List Value)),k'≤k∧i = .int .i64 k'∧zs.map (·.1)=(xss.take k').flatten∧(∀ z ∈ zs,(shCoin).rep w F z.1 z.2)∧wr.ownsRow w.heap.size 101 (shCoin).size s (total (xss.take k')) (flat zs)∧Below w.heap.size w wr) (fun _ _ i _=>k - (intOf i).toNat)
   case atStart=>exact ⟨0,[],by omega,rfl,rfl,by simp,HO1.out,HB1.out⟩
   case round =>
    obtain ⟨k',zs,hk',rfl,z1,z2,hown,hb⟩:=hrel
    by_cases hlt:k'<k
    ·obtain ⟨b,off,xs,A',n',c',rfl,hFb,hx,hcell,hr'⟩:=zpl H.out hlt
     rw [← hb.cell (p:=⟨b,off+k',none⟩) (hF b hFb)] at hcell;have htt:=zcl hx;have ht2:=z5j xss (k'+1);have hb1:total (xss.take k')+n'≤1000000:=by have:=hr'.1;omega
     have HR:=Lib.hid (hr'.keep ((Agree.below hb).mono hF));have HT:=Lib.hid htt;have HX2:=Lib.hid hx;have HO:=Lib.hid hown;have HB:=Lib.hid hb;have Z1:=Lib.hid z1;have Z2:=Lib.hid z2;clear hr' htt hx hown hb z1 z2 ht2;go_wp2_with (at_builtin;refine zc8 _ rfl _ _ 25 rfl zud w.heap.size 101 i0 zv 64 Tryz.underlying25 hi hz0 hz1 hz2 hz3 (by decide) _ (total (xss.take k')) (flat zs) rfl HO.out rfl HR.out (by unfold maxLen;omega) (by omega) HB.out.size ?_;intro v2 w2 ys y1 y2 hown2 hgr2 _);go_roundw
     case measure=>simp [intOf];omega
     case rel =>
      have hl2:=HR.out.1;refine ⟨k'+1,zs++ys,by omega,by go_num,?_,?_,?_,HB.out.grown hgr2 HB.out.size (fun j hj=>zik HO.out hj)⟩
      ·rw [zY23,Z1.out,y1,z3h HX2.out,zY2p];simp
      ·intro z hz
       rcases zY12.1 hz with h|h
       ·exact Z2.out z h
       ·exact (shCoin).keep (fun b hb=>(HB.out.block b (hF b hb)).symm) (y2 z h)
      ·rw [HT.out,hl2,zf3];exact hown2
    ·obtain rfl:k'=k:=by omega
     rw [zY0t (by rw [HX.out];omega)] at z1 hown;have HO:=Lib.hid hown;have Z1:=Lib.hid z1;have Z2:=Lib.hid z2;clear hown z1 z2;go_wp2;go_ret;exact ⟨_,zs,rfl,Z1.out,Z2.out,HO.out,hb⟩
end
section
open Go.RowKit
set_option maxRecDepth 100000
theorem z0oy {α:Type} [DecidableEq α] (x:α) (l:List α) (j k:Nat) (hj:j<l.length) (hx:l[j]? = some x):(z13 x l k<k+j↔x ∈ l.take j):=by
 induction l generalizing j k with
 | nil=>simp at hj
 | cons y l ih =>
  cases j with
  | zero =>
   simp at hx;subst hx;simp [z13]
  | succ j =>
   simp at hx hj
   by_cases h:x=y
   ·subst h;simp [z13];omega
   ·have:=ih j (k+1) hj hx
    rw [z13,if_neg h,zY3m,zY0g];simp only [h,false_or];rw [← this];constructor <;> intro h' <;> omega
def z8z (l:List (List UInt8)) (s:List UInt8):List (List UInt8):=if 4000<s.length then [] else z68 l s
def z90 (l:List (List UInt8)) (s:List UInt8):Int:=if 4000<s.length then 0 else z7c l s
def z91 (l:List (List UInt8)) (s:List UInt8):Int:=if 4000<s.length then 2 else z5o l s
end
section
abbrev Text:=List UInt8
theorem z0oz {α:Type} [DecidableEq α] (x:α) (l:List α) (k:Nat) (h:0≤z13 x l k):∃ j:Nat,z13 x l k=k+j∧l[j]? = some x:=by
 induction l generalizing k with
 | nil=>simp [z13] at h
 | cons y l ih =>
  by_cases hxy:x=y
  ·subst hxy;exact ⟨0,by simp [z13],by simp⟩
  ·rw [z13,if_neg hxy] at h ⊢
   obtain ⟨j,h1,h2⟩:=ih (k+1) h;exact ⟨j+1,by rw [h1];omega,by simpa using h2⟩
theorem zg3 {α:Type} [DecidableEq α] {l:List α} {x:α} (h:0≤idx l x):∃ j:Nat,idx l x=j∧l[j]? = some x:=by
 obtain ⟨j,h1,h2⟩:=z0oz x l 0 h;exact ⟨j,by unfold idx;omega,h2⟩
theorem z05x {α:Type} [DecidableEq α] (x:α) (l m:List α) (k:Nat) (h:0≤z13 x l k):z13 x (l++m) k=z13 x l k:=by
 induction l generalizing k with
 | nil=>simp [z13] at h
 | cons y l ih =>
  by_cases hxy:x=y
  ·subst hxy;simp [z13]
  ·rw [z13,if_neg hxy] at h
   rw [zY1h,z13,if_neg hxy,z13,if_neg hxy];exact ih _ h
theorem zcn {α:Type} [DecidableEq α] {l m:List α} (hp:l <+: m) {x:α} (h:0≤idx l x):idx m x=idx l x:=by
 obtain ⟨r,rfl⟩:=hp;exact z05x x l r 0 h
theorem zwk {α:Type} [DecidableEq α] {l m:List α} (hp:l <+: m) {x:α} (h:0≤idx l x):0≤idx m x:=by rw [zcn hp h];exact h
end
section
open Go.RowKit
set_option maxRecDepth 100000
theorem Rds.blk {w:World} {F:Nat→Prop} {xs:List Block} {A:Option Addr} {n c k:Nat} (h:Rds shBlock w F xs A n c) (hk:k<n) :
  ∃ b off x A1 n1 c1,A=some ⟨b,off,none⟩∧F b∧xs[k]? = some x∧(w.cell? ⟨b,off+k * 5,none⟩=some (.int .i64 x.parent)∧w.cell? ⟨b,off+k * 5+1,none⟩=some (.int .i64 x.height)∧w.cell? ⟨b,off+k * 5+2,none⟩=some (.int .i64 x.work)∧w.cell? ⟨b,off+k * 5+3,none⟩=some (.int .i64 x.nonce)∧w.cell? ⟨b,off+k * 5+4,none⟩=some (.slice A1 n1 c1))∧shBlock.rep w F x [.int .i64 x.parent,.int .i64 x.height,.int .i64 x.work,.int .i64 x.nonce,.slice A1 n1 c1]:=by
 obtain ⟨b,off,x,cs,e,hF,hx,hr,hc⟩:=h.at_ hk;have hr':=hr;obtain ⟨A1,n1,c1,rfl,h1,h2,h3,h4,h5⟩:=zij hr;exact ⟨b,off,x,A1,n1,c1,e,hF,hx,⟨by simpa [shBlock,zlu,zii,zdd,z3j,shInt,z0h] using hc 0 _ rfl,by simpa [shBlock,zlu,zii,zdd,z3j,shInt,z0h] using hc 1 _ rfl,by simpa [shBlock,zlu,zii,zdd,z3j,shInt,z0h] using hc 2 _ rfl,by simpa [shBlock,zlu,zii,zdd,z3j,shInt,z0h] using hc 3 _ rfl,by simpa [shBlock,zlu,zii,zdd,z3j,shInt,z0h] using hc 4 _ rfl⟩,hr'⟩
def zx (bs:List Block) (i:Int):Block:=(bs[i.toNat]?).getD ⟨0,0,0,0,[]⟩
def z1t (ns:List Int) (bs:List Block) (b:Block) (m:Nat):Int :=
 if b.parent=0 then (if b.height≠1 then 4 else 0)
 else if idx (ns.take m) b.parent<0 then 5 else if b.height≠(zx bs (idx (ns.take m) b.parent)).height+1 then 4 else 0
end
section
open Go.RowKit
set_option maxRecDepth 100000
def z10 (ns:List Int) (k:Nat):Int:=(ns[k]?).getD 0
def z1r (ns:List Int) (bs:List Block) (k:Nat) (n:Int) (b:Block):Int :=
 if n<1∨120<n then 3 else if zb b≠0 then zb b else if z1o (ns.take k) n=true then 6 else z1t ns bs b k
def z3m (ns:List Int) (bs:List Block):Nat→Nat→Int
 | _,0=>0
 | k,f+1=>if z1r ns bs k (z10 ns k) (zx bs k)≠0 then z1r ns bs k (z10 ns k) (zx bs k) else z3m ns bs (k+1) f
def zl (t:Tree):Int:=if t.names.length≠t.blocks.length then 4 else if 24<t.names.length then 2 else z3m t.names t.blocks 0 t.names.length
theorem z0d8 {b:Block} (h:zb b=0):¬ z2q b∧b.txs.length≤4:=by
 unfold zb at h
 by_cases h0:z5h b=0
 ·unfold z5h at h0
  by_cases h1:z2q b
  ·rw [if_pos h1] at h0;cases h0
  ·rw [if_neg h1] at h0
   by_cases h2:4<b.txs.length
   ·rw [if_pos h2] at h0;cases h0
   ·exact ⟨h1,by omega⟩
 ·rw [if_pos h0] at h;exact absurd h h0
theorem za6 {b:Block} (h:zb b=0):0≤b.height∧b.height≤1000:=by
 have:=(z0d8 h).1;unfold z2q at this;omega
end
section
open Go.RowKit
structure TreeOK (ns:List Int) (bs:List Block):Prop where
 len:ns.length=bs.length
 le:ns.length≤24
 step:∀ k,k<ns.length→z1r ns bs k (z10 ns k) (zx bs k)=0
theorem z0hw (ns:List Int) (bs:List Block) (f k:Nat):z3m ns bs k f=0↔∀ j,k≤j→j<k+f→z1r ns bs j (z10 ns j) (zx bs j)=0:=by
 induction f generalizing k with
 | zero=>simp [z3m];intro j h1 h2;omega
 | succ f ih =>
  rw [z3m]
  by_cases h:z1r ns bs k (z10 ns k) (zx bs k)=0
  ·rw [if_neg (by simp [h]),ih]
   constructor
   ·intro H j h1 h2
    rcases zY1x k j with h3|h3
    ·exact H j h3 (by omega)
    ·obtain rfl:j=k:=by omega
     exact h
   ·intro H j h1 h2;exact H j (by omega) (by omega)
  ·rw [if_pos h]
   constructor
   ·intro e;exact absurd e h
   ·intro H;exact H k (zY0k _) (by omega)
theorem z2j (ns:List Int) (bs:List Block):zl ⟨ns,bs⟩=0↔TreeOK ns bs:=by
 simp only [zl]
 by_cases h1:ns.length=bs.length
 ·rw [if_neg (by simp [h1])]
  by_cases h2:24<ns.length
  ·rw [if_pos h2]
   constructor
   ·intro e;cases e
   ·intro H;have:=H.le;omega
  ·rw [if_neg h2,z0hw]
   exact ⟨fun H=>⟨h1,by omega,fun k hk=>H k (Nat.zero_le _) (by omega)⟩,fun H j _ hj=>H.step j (by omega)⟩
 ·rw [if_pos h1]
  constructor
  ·intro e;cases e
  ·intro H;exact absurd H.len h1
theorem z8j {ns:List Int} {bs:List Block} {k:Nat} {n:Int} {b:Block} (h:z1r ns bs k n b=0):(1≤n∧n≤120)∧zb b=0∧n ∉ ns.take k∧z1t ns bs b k=0:=by
 unfold z1r at h
 by_cases h1:n<1∨120<n
 ·rw [if_pos h1] at h;cases h
 ·rw [if_neg h1] at h
  by_cases h2:zb b=0
  ·rw [h2,if_neg (show ¬ ((0:Int)≠0) by decide)] at h
   by_cases h3:z1o (ns.take k) n=true
   ·rw [if_pos h3] at h;cases h
   ·rw [if_neg h3] at h
    exact ⟨by omega,h2,by simpa [z1o] using h3,h⟩
  ·rw [if_pos h2] at h;exact absurd h h2
theorem z0hx {ns:List Int} {bs:List Block} {k:Nat} {b:Block} (h:z1t ns bs b k=0):(b.parent=0∧b.height=1)∨(b.parent≠0∧∃ j:Nat,j<k∧idx ns b.parent=j∧ns[j]? = some b.parent∧b.height=(zx bs j).height+1):=by
 unfold z1t at h
 by_cases h1:b.parent=0
 ·rw [if_pos h1] at h
  by_cases h2:b.height=1
  ·exact .inl ⟨h1,h2⟩
  ·rw [if_pos h2] at h;cases h
 ·rw [if_neg h1] at h
  by_cases h2:idx (ns.take k) b.parent<0
  ·rw [if_pos h2] at h;cases h
  ·rw [if_neg h2] at h
   by_cases h3:b.height=(zx bs (idx (ns.take k) b.parent)).height+1
   ·obtain ⟨j,hj,hjs⟩:=zg3 (show 0≤idx (ns.take k) b.parent by omega)
    have hp:=zcn (List.take_prefix k ns) (x:=b.parent) (by omega);have hlt:=(zY02.1 hjs).1;rw [zY18] at hjs
    split at hjs
    ·exact .inr ⟨h1,j,by assumption,by omega,hjs,by rw [hj] at h3;exact h3⟩
    ·cases hjs
   ·rw [if_pos h3] at h;cases h
def z0p (ns:List Int) (bs:List Block) (m:Int):Int:=(zx bs (idx ns m)).parent
def z43 (ns:List Int) (m:Int):Nat:=if m=0 then 0 else (idx ns m+1).toNat
def up (ns:List Int) (bs:List Block):Nat→Int→List Int
 | 0,_=>[]
 | f+1,m=>if m=0 then [] else m::up ns bs f (z0p ns bs m)
def z19 (ns:List Int) (bs:List Block) (m:Int):List Int:=(up ns bs ns.length m).reverse
theorem TreeOK.name {ns:List Int} {bs:List Block} (h:TreeOK ns bs) {m:Int} (hm:0≤idx ns m):1≤m∧m≤120∧∃ j:Nat,j<ns.length∧idx ns m=j∧z10 ns j=m∧(z0p ns bs m=0∨(z0p ns bs m≠0∧0≤idx ns (z0p ns bs m)∧idx ns (z0p ns bs m)<j)):=by
 obtain ⟨j,hj,hjs⟩:=zg3 hm;have hlt:=(zY02.1 hjs).1;have hn:z10 ns j=m:=by simp [z10,hjs]
 obtain ⟨⟨a,b⟩,c,d,e⟩:=z8j (h.step j hlt);refine ⟨by omega,by omega,j,hlt,hj,hn,?_⟩;have hp:z0p ns bs m=(zx bs j).parent:=by unfold z0p;rw [hj]
 rw [hp];rcases z0hx e with ⟨h1,h2⟩|⟨h1,i,hi,hi2,hi3,hi4⟩
 ·exact .inl h1
 ·exact .inr ⟨h1,by omega,by omega⟩
theorem TreeOK.rem {ns:List Int} {bs:List Block} (h:TreeOK ns bs) {m:Int} (h0:m≠0) (hm:0≤idx ns m):z43 ns (z0p ns bs m)<z43 ns m:=by
 obtain ⟨_,_,j,hj,he,_,hp⟩:=h.name hm;unfold z43;rw [if_neg h0];rcases hp with hp|⟨hp,h1,h2⟩
 ·rw [if_pos hp];omega
 ·rw [if_neg hp];omega
end
section
open Go.RowKit Go.Shelf
set_option maxRecDepth 100000
theorem zwl (b off n c:Nat) (zs:List Int) (w:World) (hz:n≤zs.length) (hbig:n≤9223372036854775807) (hc:∀ j,j<zs.length→w.cell? ⟨b,off+j,none⟩=some (.int .i64 (zs.getD j 0))) (hf:∀ j,j<n→w.frozen? ⟨b,off+j,none⟩=false) :
  Calls Tryz.prog 88 #[.slice (some ⟨b,off,none⟩) n c] w fun e w'=>e = .returned (.tuple #[])∧∃ q,w'=(w.drewN q).setCells b off ((zs.take n).reverse.map (Value.int .i64)) :=
 Any.slices_Reverse_int_cells Tryz.lays112 b off n c zs w hz hbig hc hf
theorem zwm (a:Option Addr) (c:Nat) (w:World) :
  Calls Tryz.prog 88 #[.slice a 0 c] w fun e w'=>e = .returned (.tuple #[])∧w'=w :=
 Any.slices_Reverse_int_empty Tryz.lays112 a c w
end
section
open Go.RowKit
set_option maxRecDepth 100000
end
section
open Go.RowKit
set_option maxRecDepth 100000
def z31 (t:Tree) (m:Int):List Int × Int :=
 if zl t≠0 then ([],zl t) else if m≠0∧idx t.names m<0 then ([],5) else (z19 t.names t.blocks m,0)
theorem zh1 (ns:List Int) (m:Int):z1o ns m=true↔0≤idx ns m:=by
 unfold z1o idx;rw [decide_eq_true_iff,zui]
end
section
open Go.RowKit
set_option maxRecDepth 100000
end
section
open Go.RowKit
theorem zs7 {ns:List Int} {bs:List Block} (ok:TreeOK ns bs) (f f':Nat) (m:Int) (hm:m=0∨0≤idx ns m) (h:z43 ns m≤f) (h':z43 ns m≤f'):up ns bs f m=up ns bs f' m:=by
 induction f generalizing f' m with
 | zero =>
  have h0:m=0:=by
   rcases hm with hm|hm
   ·exact hm
   ·apply Classical.byContradiction
    intro h0;unfold z43 at h;rw [if_neg h0] at h;omega
  cases f' with
  | zero=>rfl
  | succ f'=>rw [up,up,if_pos h0]
 | succ f ih =>
  by_cases h0:m=0
  ·cases f' with
   | zero=>rw [up,up,if_pos h0]
   | succ f'=>rw [up,up,if_pos h0,if_pos h0]
  ·have hm':0≤idx ns m:=by rcases hm with h|h;exact absurd h h0;exact h
   cases f' with
   | zero=>unfold z43 at h';rw [if_neg h0] at h';omega
   | succ f' =>
    have hr:=ok.rem h0 hm';obtain ⟨_,_,j,_,_,_,hp⟩:=ok.name hm';rw [up,up,if_neg h0,if_neg h0,ih f' (z0p ns bs m) (by rcases hp with h|h;exact .inl h;exact .inr h.2.1) (by omega) (by omega)]
theorem z0g4 {ns:List Int} {bs:List Block} (ok:TreeOK ns bs) {m:Int} (hm:m=0∨0≤idx ns m):z43 ns m≤ns.length:=by
 unfold z43;rcases hm with h|h
 ·rw [if_pos h];omega
 ·obtain ⟨_,_,j,hj,he,_⟩:=ok.name h
  split <;> omega
theorem z4o (ns:List Int) (bs:List Block):z19 ns bs 0=[]:=by
 unfold z19
 cases ns.length with
 | zero=>rfl
 | succ n=>rw [up,if_pos rfl];rfl
theorem z5s {ns:List Int} {bs:List Block} (ok:TreeOK ns bs) {m:Int} (hm:0≤idx ns m):z19 ns bs m=z19 ns bs (z0p ns bs m)++[m]∧(z0p ns bs m=0∨0≤idx ns (z0p ns bs m))∧z43 ns (z0p ns bs m)<z43 ns m:=by
 obtain ⟨h1,h2,j,hj,he,_,hp⟩:=ok.name hm;have h0:m≠0:=by omega
 have hp':z0p ns bs m=0∨0≤idx ns (z0p ns bs m):=by rcases hp with h|h;exact .inl h;exact .inr h.2.1
 have hr:=ok.rem h0 hm;have hle:=z0g4 ok (m:=m) (.inr hm);refine ⟨?_,hp',hr⟩;unfold z19;obtain ⟨f,hf⟩:∃ f,ns.length=f+1:=⟨ns.length - 1,by omega⟩
 rw [zs7 ok ns.length (f+1) (z0p ns bs m) hp' (by omega) (by omega),hf,zs7 ok (f+1) f (z0p ns bs m) hp' (by omega) (by omega),up,if_neg h0,List.reverse_cons]
theorem z0i1 {ns:List Int} {bs:List Block} (ok:TreeOK ns bs) (r:Nat) {m:Int} (hr:z43 ns m≤r) (hm:m=0∨0≤idx ns m) {k:Nat} {v:Int} (h:(z19 ns bs m)[k]? = some v):(z19 ns bs m).take (k+1)=z19 ns bs v∧0≤idx ns v:=by
 induction r generalizing m with
 | zero =>
  rcases hm with h0|h0
  ·rw [h0,z4o] at h;simp at h
  ·have:=(z5s ok h0).2.2;omega
 | succ r ih =>
  rcases hm with h0|h0
  ·rw [h0,z4o] at h;simp at h
  ·obtain ⟨e,hp,hr'⟩:=z5s ok h0
   rw [e] at h ⊢;rcases zY1x k (z19 ns bs (z0p ns bs m)).length with hk|hk
   ·rw [zY0l hk] at h
    rw [zY1k (by omega)];exact ih (by omega) hp h
   ·rw [zY0p hk] at h
    have hk':k - (z19 ns bs (z0p ns bs m)).length=0:=by
     rcases zY1s (k - (z19 ns bs (z0p ns bs m)).length) with h'|h'
     ·exact h'
     ·rw [zY2i (by simp;omega)] at h;cases h
    rw [hk'] at h;simp at h;subst h;rw [zY0t (by simp;omega)];exact ⟨e.symm,h0⟩
end
section
open Go.RowKit Go.ChangeShapes Go.WideShapes
theorem zk8 {α:Type} (l:List α) (k m:Nat):(l.drop k).take m++l.drop (k+m)=l.drop k:=by rw [← List.drop_drop,zY10]
def z0x {α:Type} (P:Program) (S:Sh α) (t:TypeId):Prop :=
 ∀ {H:Type} {enc:TypeId × Value→H} {w:World} {base:Nat} {spare:Nat→Bool} {held:Bool} {fuel:Nat} {cs:List Value} {x:DataW H × List MemPlace},
  DataW.trod enc P w base spare held fuel t cs=some x→∃ a,S.rep w (Lt w.heap.size) a cs
section
variable {P:Program} {t:TypeId}
theorem z0na (ht:P.underlying t=some (.int .i64)):z0x P shInt t:=by
 intro H enc w base spare held fuel cs x h;obtain ⟨n,rfl,_,hw⟩:=DataW.trod_int ht h;exact ⟨n,rfl,by simp [Lit.wf,IntKind.min,IntKind.max,IntKind.signed,IntKind.bits] at hw;omega⟩
theorem z0jg (ht:P.underlying t=some .bool):z0x P shBool t:=by
 intro H enc w base spare held fuel cs x h;obtain ⟨n,rfl,_⟩:=DataW.trod_bool ht h;exact ⟨n,rfl⟩
theorem z0nb (ht:P.underlying t=some .string):z0x P shStr t:=by
 intro H enc w base spare held fuel cs x h;obtain ⟨s,rfl,_,hw⟩:=DataW.trod_string ht h;exact ⟨s.data.toList,by simp,by unfold maxLen at hw;simpa using hw⟩
theorem z3y {α:Type} {S:Sh α} {e:TypeId} (ht:P.underlying t=some (.slice e)) (hs:P.cellsOf e=S.size) (h0:0<S.size) (he:z0x P S e):z0x P (z0h S) t:=by
 intro H enc w base spare held fuel cs x h;rcases Go.Deep.open_slice ht h with ⟨rfl,_⟩|⟨a,len,cap,m,n,D,Pl,rfl,_,hl,hm,hmm,-,hi⟩
 ·exact ⟨[],_,_,_,rfl,Rds.nil _ _ _⟩
 ·have hlm:len≤m:=by rw [hmm];split <;> omega
  have key:∀ i,i<len→∃ y:α × List Value,S.rep w (Lt w.heap.size) y.1 y.2∧∀ j,j<S.size→w.cell? (a.add (i * S.size+j))=y.2[j]?:=by
   intro i hlt;obtain ⟨cs',hc,ht'⟩:=hi i (by omega);obtain ⟨y,hy⟩:=he ht';obtain ⟨_,hcl,hat⟩:=World.cells?_some hc;refine ⟨(y,cs'),hy,fun j hj=>?_⟩;have:=hat j (by omega);rw [hs,Go.Deep.add_add] at this;exact this
  have key2:∃ ys:List (α × List Value),ys.length=len∧∀ i (hi:i<ys.length),S.rep w (Lt w.heap.size) ys[i].1 ys[i].2∧∀ j,j<S.size→w.cell? (a.add (i * S.size+j))=ys[i].2[j]?:=by
   clear hi hmm hlm hl h
   induction len with
   | zero=>exact ⟨[],rfl,fun i hi=>by simp at hi⟩
   | succ l ih =>
    obtain ⟨ys,hy1,hy2⟩:=ih (fun i hi=>key i (by omega));obtain ⟨y,hy⟩:=key l (by omega);refine ⟨ys++[y],by simp [hy1],fun i hi=>?_⟩
    by_cases h':i<ys.length
    ·rw [List.getElem_append_left h'];exact hy2 i h'
    ·have:i=l:=by simp at hi;omega
     subst this;rw [List.getElem_append_right (by omega)];simpa [hy1] using hy
  obtain ⟨ys,hy1,hy2⟩:=key2;refine ⟨ys.map (·.1),_,_,_,rfl,by simp [hy1],hl,by unfold maxLen at hm;omega,fun hn=>?_⟩;have c0:=(hy2 0 (by omega)).2 0 h0;have hl0:=S.len (hy2 0 (by omega)).1;have hspot:a.spot=none:=by
   have:(ys[0]'(by omega)).2[0]? = some ((ys[0]'(by omega)).2[0]'(by omega)):=zY03 (by omega);rw [this] at c0;have:=World.cell?_spot c0;simpa [Addr.add] using this
  obtain ⟨b,off,spot⟩:=a;simp only at hspot;subst hspot;have hadd:∀ k,(Addr.mk b off none).add k=⟨b,off+k,none⟩:=by
   intro k;unfold Addr.add;split <;> simp_all
  refine ⟨b,off,rfl,?_,fun i hi=>?_⟩
  ·show b<w.heap.size
   rcases zY1x b w.heap.size with h'|h'
   ·exact h'
   ·have e:w.cell? ((Addr.mk b off none).add (0 * S.size+0))=none:=by
     rw [hadd];simp [World.cell?,zY19 h']
    rw [e] at c0;have:(ys[0]'(by omega)).2[0]? = some ((ys[0]'(by omega)).2[0]'(by omega)):=zY03 (by omega);rw [this] at c0;cases c0
  ·have hi':i<ys.length:=by simpa using hi
   refine ⟨ys[i].2,by simpa using (hy2 i hi').1,fun j v hj=>?_⟩;have hjl:j<S.size:=by
    have:=S.len (hy2 i hi').1;have:=(zY02.1 hj).1;omega
   have:=(hy2 i hi').2 j hjl;rw [hadd,hj] at this;rw [← this,zY37]
theorem zea {α β τ:Type} {S0:Sh α} {S1:Sh β} {f:α→β→τ} {f0 f1:Field} (ht:P.underlying t=some (.struct #[f0,f1])) (hc:P.cellsOf t=S0.size+S1.size)
  (o0:f0.offset=0) (o1:f1.offset=S0.size) (c0:P.cellsOf f0.type=S0.size) (c1:P.cellsOf f1.type=S1.size) (h0:z0x P S0 f0.type) (h1:z0x P S1 f1.type):z0x P (z3j S0 S1 f) t:=by
 intro H enc w base spare held fuel cs x h;obtain ⟨xs,n,_,_,hl,hxl,hf⟩:=DataW.trod_struct ht h
 match xs,hxl with
 | [x0,x1],_ =>
  have g0:=hf 0 f0 rfl;have g1:=hf 1 f1 rfl;rw [o0,c0] at g0;rw [o1,c1] at g1;obtain ⟨a,ha⟩:=h0 g0;obtain ⟨b,hb⟩:=h1 g1;refine ⟨f a b,a,b,_,_,rfl,?_,ha,hb⟩;rw [zY3f,zY0t (l:=cs.drop S0.size) (by simp;omega),zY10]
theorem z0bm {α τ:Type} {S0:Sh α} {f:α→τ} {f0:Field} (ht:P.underlying t=some (.struct #[f0])) (hc:P.cellsOf t=S0.size)
  (o0:f0.offset=0) (c0:P.cellsOf f0.type=S0.size) (h0:z0x P S0 f0.type):z0x P (shS1 S0 f) t:=by
 intro H enc w base spare held fuel cs x h;obtain ⟨xs,n,_,_,hl,hxl,hf⟩:=DataW.trod_struct ht h
 match xs,hxl with
 | [x0],_ =>
  have g0:=hf 0 f0 rfl;rw [o0,c0] at g0;obtain ⟨a,ha⟩:=h0 g0;refine ⟨f a,a,rfl,?_⟩
  rwa [zY3f,zY0t (by omega)] at ha
theorem z0q4 {α β γ τ:Type} {S0:Sh α} {S1:Sh β} {S2:Sh γ} {f:α→β→γ→τ} {f0 f1 f2:Field} (ht:P.underlying t=some (.struct #[f0,f1,f2])) (hc:P.cellsOf t=S0.size+(S1.size+S2.size))
  (o0:f0.offset=0) (o1:f1.offset=S0.size) (o2:f2.offset=S0.size+S1.size) (c0:P.cellsOf f0.type=S0.size) (c1:P.cellsOf f1.type=S1.size) (c2:P.cellsOf f2.type=S2.size)
  (h0:z0x P S0 f0.type) (h1:z0x P S1 f1.type) (h2:z0x P S2 f2.type):z0x P (zdd S0 S1 S2 f) t:=by
 intro H enc w base spare held fuel cs x h;obtain ⟨xs,n,_,_,hl,hxl,hf⟩:=DataW.trod_struct ht h
 match xs,hxl with
 | [x0,x1,x2],_ =>
  have g0:=hf 0 f0 rfl;have g1:=hf 1 f1 rfl;have g2:=hf 2 f2 rfl;rw [o0,c0] at g0;rw [o1,c1] at g1;rw [o2,c2] at g2;obtain ⟨a,ha⟩:=h0 g0;obtain ⟨b,hb⟩:=h1 g1;obtain ⟨c,hc'⟩:=h2 g2;refine ⟨f a b c,a,(b,c),_,_,rfl,?_,ha,b,c,_,_,rfl,rfl,hb,hc'⟩;rw [zY3f,zY0t (l:=cs.drop (S0.size+S1.size)) (by simp;omega),← List.drop_drop,zY10,zY10]
theorem z0q5 {α β γ δ τ:Type} {S0:Sh α} {S1:Sh β} {S2:Sh γ} {S3:Sh δ} {f:α→β→γ→δ→τ} {f0 f1 f2 f3:Field} (ht:P.underlying t=some (.struct #[f0,f1,f2,f3])) (hc:P.cellsOf t=S0.size+(S1.size+(S2.size+S3.size)))
  (o0:f0.offset=0) (o1:f1.offset=S0.size) (o2:f2.offset=S0.size+S1.size) (o3:f3.offset=S0.size+S1.size+S2.size) (c0:P.cellsOf f0.type=S0.size) (c1:P.cellsOf f1.type=S1.size) (c2:P.cellsOf f2.type=S2.size) (c3:P.cellsOf f3.type=S3.size)
  (h0:z0x P S0 f0.type) (h1:z0x P S1 f1.type) (h2:z0x P S2 f2.type) (h3:z0x P S3 f3.type):z0x P (zii S0 S1 S2 S3 f) t:=by
 intro H enc w base spare held fuel cs x h;obtain ⟨xs,n,_,_,hl,hxl,hf⟩:=DataW.trod_struct ht h
 match xs,hxl with
 | [x0,x1,x2,x3],_ =>
  have g0:=hf 0 f0 rfl;have g1:=hf 1 f1 rfl;have g2:=hf 2 f2 rfl;have g3:=hf 3 f3 rfl;rw [o0,c0] at g0;rw [o1,c1] at g1;rw [o2,c2] at g2;rw [o3,c3] at g3;obtain ⟨a,ha⟩:=h0 g0;obtain ⟨b,hb⟩:=h1 g1;obtain ⟨c,hc'⟩:=h2 g2;obtain ⟨d,hd⟩:=h3 g3;refine ⟨f a b c d,a,(b,c,d),_,_,rfl,?_,ha,b,(c,d),_,_,rfl,rfl,hb,c,d,_,_,rfl,rfl,hc',hd⟩;rw [zY3f,zY0t (l:=cs.drop (S0.size+S1.size+S2.size)) (by simp;omega),zk8,zk8,zY10]
theorem z0q6 {α β γ δ ε τ:Type} {S0:Sh α} {S1:Sh β} {S2:Sh γ} {S3:Sh δ} {S4:Sh ε} {f:α→β→γ→δ→ε→τ} {f0 f1 f2 f3 f4:Field} (ht:P.underlying t=some (.struct #[f0,f1,f2,f3,f4]))
  (hc:P.cellsOf t=S0.size+(S1.size+(S2.size+(S3.size+S4.size))))
  (o0:f0.offset=0) (o1:f1.offset=S0.size) (o2:f2.offset=S0.size+S1.size) (o3:f3.offset=S0.size+S1.size+S2.size) (o4:f4.offset=S0.size+S1.size+S2.size+S3.size)
  (c0:P.cellsOf f0.type=S0.size) (c1:P.cellsOf f1.type=S1.size) (c2:P.cellsOf f2.type=S2.size) (c3:P.cellsOf f3.type=S3.size) (c4:P.cellsOf f4.type=S4.size)
  (h0:z0x P S0 f0.type) (h1:z0x P S1 f1.type) (h2:z0x P S2 f2.type) (h3:z0x P S3 f3.type) (h4:z0x P S4 f4.type):z0x P (zlu S0 S1 S2 S3 S4 f) t:=by
 intro H enc w base spare held fuel cs x h;obtain ⟨xs,n,_,_,hl,hxl,hf⟩:=DataW.trod_struct ht h
 match xs,hxl with
 | [x0,x1,x2,x3,x4],_ =>
  have g0:=hf 0 f0 rfl;have g1:=hf 1 f1 rfl;have g2:=hf 2 f2 rfl;have g3:=hf 3 f3 rfl;have g4:=hf 4 f4 rfl;rw [o0,c0] at g0;rw [o1,c1] at g1;rw [o2,c2] at g2;rw [o3,c3] at g3;rw [o4,c4] at g4;obtain ⟨a,ha⟩:=h0 g0;obtain ⟨b,hb⟩:=h1 g1;obtain ⟨c,hc'⟩:=h2 g2;obtain ⟨d,hd⟩:=h3 g3;obtain ⟨e,he⟩:=h4 g4;refine ⟨f a b c d e,a,(b,c,d,e),_,_,rfl,?_,ha,b,(c,d,e),_,_,rfl,rfl,hb,c,(d,e),_,_,rfl,rfl,hc',d,e,_,_,rfl,rfl,hd,he⟩;rw [zY3f,zY0t (l:=cs.drop (S0.size+S1.size+S2.size+S3.size)) (by simp;omega),zk8,zk8,zk8,zY10]
end
theorem z72:z0x Tryz.prog shInt 3:=z0na Tryz.underlying3
theorem z0sz:z0x Tryz.prog shBool 4:=z0jg Tryz.underlying4
theorem z0uw:z0x Tryz.prog shStr 9:=z0nb Tryz.underlying9
theorem z0t0:z0x Tryz.prog (z0h shInt) 58:=z3y Tryz.underlying58 (by kernel_rfl) (by decide) z72
theorem z0t1:z0x Tryz.prog (z0h shStr) 22:=z3y Tryz.underlying22 (by kernel_rfl) (by decide) z0uw
theorem op_book:z0x Tryz.prog shBook 24:=z0bm Tryz.underlying24 (by kernel_rfl) rfl (by kernel_rfl) z0t1
theorem z0vn:z0x Tryz.prog shOp 103:=zea Tryz.underlying103 (by kernel_rfl) rfl rfl (by kernel_rfl) (by kernel_rfl) z72 z72
theorem z0nc:z0x Tryz.prog (z0h shOp) 47:=z3y Tryz.underlying47 (by kernel_rfl) (by decide) z0vn
theorem z0bn:z0x Tryz.prog shPoint 97:=zea Tryz.underlying97 (by kernel_rfl) rfl rfl (by kernel_rfl) (by kernel_rfl) z72 z72
theorem z0vo:z0x Tryz.prog shIn 105:=zea Tryz.underlying105 (by kernel_rfl) rfl rfl (by kernel_rfl) (by kernel_rfl) z0bn z0nc
theorem z0ux:z0x Tryz.prog (z0h shIn) 27:=z3y Tryz.underlying27 (by kernel_rfl) (by decide) z0vo
theorem z0nd:z0x Tryz.prog shOut 99:=zea Tryz.underlying99 (by kernel_rfl) rfl rfl (by kernel_rfl) (by kernel_rfl) z72 z0nc
theorem z0t2:z0x Tryz.prog (z0h shOut) 28:=z3y Tryz.underlying28 (by kernel_rfl) (by decide) z0nd
theorem z0vp:z0x Tryz.prog shTx 30:=z0q4 Tryz.underlying30 (by kernel_rfl) rfl rfl rfl (by kernel_rfl) (by kernel_rfl) (by kernel_rfl) z72 z0ux z0t2
theorem z0uy:z0x Tryz.prog (z0h shTx) 26:=z3y Tryz.underlying26 (by kernel_rfl) (by decide) z0vp
theorem z0t3:z0x Tryz.prog shCoin 101:=z0q5 Tryz.underlying101 (by kernel_rfl) rfl rfl rfl rfl (by kernel_rfl) (by kernel_rfl) (by kernel_rfl) (by kernel_rfl) z0bn z0nd z72 z0sz
theorem z0q7:z0x Tryz.prog (z0h shCoin) 25:=z3y Tryz.underlying25 (by kernel_rfl) (by decide) z0t3
theorem z0t4:z0x Tryz.prog z0ka 111:=z0bm Tryz.underlying111 (by kernel_rfl) rfl (by kernel_rfl) z0q7
theorem z0vw:z0x Tryz.prog (z0h z0ka) 57:=z3y Tryz.underlying57 (by kernel_rfl) (by decide) z0t4
theorem z0q8:z0x Tryz.prog shBlock 49:=z0q6 Tryz.underlying49 (by kernel_rfl) rfl rfl rfl rfl rfl (by kernel_rfl) (by kernel_rfl) (by kernel_rfl) (by kernel_rfl) (by kernel_rfl) z72 z72 z72 z72 z0uy
theorem z0ne:z0x Tryz.prog (z0h shBlock) 73:=z3y Tryz.underlying73 (by kernel_rfl) (by decide) z0q8
theorem op_tree:z0x Tryz.prog shTree 75:=zea Tryz.underlying75 (by kernel_rfl) rfl rfl (by kernel_rfl) (by kernel_rfl) z0t0 z0ne
end
end Go.Proofs.YtaddehddalnliaaGreatDoor
