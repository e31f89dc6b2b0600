/- Own texts, put together by wip/bundle.py: Base, Data, Own, Clones, Mk, Sep, Slices, Slices2, Book, Book2, Lock, Coin, Tx, Block, Append, Concat, Types, Draw, OwnSet, Row, Book3, BookLaw, Tree, Tree2, TreeLaw, Reverse, Path, Path2, Fork, Row2, Opens, OpF0, OpC, OpW. -/
import Derived.WalkKit
import Derived.WalkLawsBesides
import Derived.BigQuiet
import Derived.Deep.QuietTactic
import Derived.Deep.DeepFit
import Derived.Deep.LoopGhost
import Derived.Lib.Hide
import Derived.Test.YtjknfjbpmdfphaaGreatProg
import Derived.Maps.AppendAt
import Derived.Lib.SliceRun
import Derived.Deep.MidRow
import Derived.Great.BuildSlice
import Derived.OwnWalk
import Derived.BigFrame
import Derived.Maps.OwnOps
import Derived.Maps.Views
import Derived.Lib.AppendZerosOnto
import Derived.Deep.Quiet
import Derived.OrdersHeld
import Derived.KernelRfl
import Derived.Test.YtjknfjbpmdfphaaGreatShelf
import Derived.ProofKit
import Derived.Deep.Slices
import Derived.SizedLaws
set_option linter.unusedVariables false
set_option linter.unusedSimpArgs false
namespace Go.Proofs.YtjknfjbpmdfphaaGreat
section
abbrev zY00:=@Option.some.injEq
abbrev zY01:=@List.length_append
abbrev zY02:=@Option.bind_eq_some_iff
abbrev zY03:=@List.length_cons
abbrev zY04:=@List.length_nil
abbrev zY05:=@Option.bind_some
abbrev zY06:=@List.getElem?_eq_some_iff
abbrev zY07:=@Option.bind_none
abbrev zY08:=@List.getElem?_eq_getElem
abbrev zY09:=@List.getElem?_cons_zero
abbrev zY0a:=@Option.bind_eq_bind
abbrev zY0b:=@List.eq_nil_of_length_eq_zero
abbrev zY0c:=@Bool.and_eq_true
abbrev zY0d:=@List.length_take
abbrev zY0e:=@List.getElem?_set_self
abbrev zY0f:=@List.getElem?_set_ne
abbrev zY0g:=@Array.getD_eq_getD_getElem?
abbrev zY0h:=@List.getElem?_append_left
abbrev zY0i:=@List.getElem?_append_right
abbrev zY0j:=@List.mem_cons_of_mem
abbrev zY0k:=@List.getElem?_map
abbrev zY0l:=@List.mem_cons_self
abbrev zY0m:=@List.mem_cons
abbrev zY0n:=@Bool.false_eq_true
abbrev zY0o:=@List.mem_of_getElem?
abbrev zY0p:=@Option.map_eq_some_iff
abbrev zY0q:=@List.take_append_drop
abbrev zY0r:=@List.length_drop
abbrev zY0s:=@Nat.eq_of_beq_eq_true
abbrev zY0t:=@Nat.le_refl
abbrev zY0u:=@List.take_of_length_le
abbrev zY0v:=@Nat.zero_add
abbrev zY0w:=@Decidable.not_not
abbrev zY0x:=@Array.getElem?_eq_getElem
abbrev zY0y:=@List.nil_append
abbrev zY0z:=@List.mem_append
abbrev zY10:=@List.length_map
abbrev zY11:=@Prod.mk.injEq
abbrev zY12:=@List.getElem?_take
abbrev zY13:=@List.mem_singleton
abbrev zY14:=@Array.getElem?_eq_none
abbrev zY15:=@List.append_assoc
abbrev zY16:=@List.getD_eq_getElem?_getD
abbrev zY17:=@Option.pure_def
abbrev zY18:=@List.cons_append
abbrev zY19:=@Option.map_some
abbrev zY1a:=@Array.getElem?_eq_some_iff
abbrev zY1b:=@List.length_singleton
abbrev zY1c:=@List.take_length
abbrev zY1d:=@List.flatten_cons
abbrev zY1e:=@Array.toArray_toList
abbrev zY1f:=@Nat.mul_le_mul_right
abbrev zY1g:=@Array.getElem?_toList
abbrev zY1h:=@Nat.lt_of_lt_of_le
abbrev zY1i:=@Option.getD_some
abbrev zY1j:=@List.not_mem_nil
abbrev zY1k:=@List.take_append_of_le_length
abbrev zY1l:=@Nat.eq_zero_or_pos
abbrev zY1m:=@List.getElem?_drop
abbrev zY1n:=@List.all_eq_true
abbrev zY1o:=@Array.getElem?_setIfInBounds
abbrev zY1p:=@List.pairwise_cons
abbrev zY1q:=@Nat.succ_mul
abbrev zY1r:=@List.getElem_mem
abbrev zY1s:=@List.length_replicate
abbrev zY1t:=@List.map_cons
abbrev zY1u:=@List.mem_map_of_mem
abbrev zY1v:=@List.drop_eq_getElem_cons
abbrev zY1w:=@Nat.lt_or_ge
abbrev zY1x:=@List.mem_of_mem_drop
abbrev zY1y:=@List.drop_of_length_le
abbrev zY1z:=@Nat.min_eq_left
abbrev zY20:=@List.cons.injEq
abbrev zY21:=@List.contains_iff_mem
abbrev zY22:=@List.getElem?_cons_succ
abbrev zY23:=@Nat.lt_succ_self
abbrev zY24:=@List.getElem?_set
abbrev zY25:=@List.flatMap_cons
abbrev zY26:=@List.drop_eq_nil_of_le
abbrev zY27:=@List.map_append
abbrev zY28:=@Array.length_toList
abbrev zY29:=@Nat.add_zero
abbrev zY2a:=@Array.getElem?_modify
abbrev zY2b:=@List.mem_of_mem_take
abbrev zY2c:=@List.pairwise_append
abbrev zY2d:=@List.mem_range
abbrev zY2e:=@List.append_nil
abbrev zY2f:=@List.getElem_of_mem
abbrev zY2g:=@Bool.not_eq_false
abbrev zY2h:=@List.mem_map
abbrev zY2i:=@Nat.add_sub_cancel
abbrev zY2j:=@Bool.or_eq_false_iff
abbrev zY2k:=@List.getElem?_replicate
abbrev zY2l:=@Bool.not_eq_true'
abbrev zY2m:=@List.size_toArray
abbrev zY2n:=@List.ext_getElem?
abbrev zY2o:=@Array.size_append
abbrev zY2p:=@Nat.add_assoc
abbrev zY2q:=@List.toList_toArray
abbrev zY2r:=@List.flatten_append
abbrev zY2s:=@List.singleton_append
abbrev zY2t:=@List.any_eq_true
abbrev zY2u:=@Bool.not_eq_true
abbrev zY2v:=@Bool.true_and
abbrev zY2w:=@List.any_cons
abbrev zY2x:=@List.getElem?_of_mem
abbrev zY2y:=@List.take_take
abbrev zY2z:=@List.map_nil
abbrev zY30:=@Array.eq_empty_of_size_eq_zero
abbrev zY31:=@Bool.false_or
abbrev zY32:=@List.map_toArray
abbrev zY33:=@Bool.false_ne_true
abbrev zY34:=@List.drop_zero
abbrev zY35:=@Classical.choose_spec
abbrev zY36:=@List.getElem?_eq_none
abbrev zY37:=@List.all_append
abbrev zY38:=@Int.toNat_natCast
abbrev zY39:=@Nat.le_trans
abbrev zY3a:=@Bool.not_true
abbrev zY3b:=@Bool.false_and
abbrev zY3c:=@Array.toList_map
abbrev zY3d:=@List.drop_length
abbrev zY3e:=@List.drop_drop
abbrev zY3f:=@Array.getElem?_push
abbrev zY3g:=@Bool.or_eq_true
abbrev zY3h:=@Int.tmod_nonneg
abbrev zY3i:=@List.mem_filter
abbrev zY3j:=@List.all_cons
open Go.RowKit
theorem z0h {k:IntKind} {a b:Int} (h:a=b):Ending.returned (.int k a) = .returned (.int k b):=by rw [h]
theorem z3h {a b:Bool} (h:a=b):Ending.returned (.bool a) = .returned (.bool b):=by rw [h]
theorem z71 {k l:IntKind} {a b c d:Int} (h:a=b) (h':c=d):Ending.returned (.tuple #[.int k a,.int l c]) = .returned (.tuple #[.int k b,.int l d]):=by rw [h,h']
def Lt (B:Nat):Nat→Prop:=fun b=>b<B
def Agree (F:Nat→Prop) (w w':World):Prop:=∀ b,F b→w'.heap[b]? = w.heap[b]?
theorem Agree.cell {F:Nat→Prop} {w w':World} (h:Agree F w w') {p:Addr} (hp:F p.block):w'.cell? p=w.cell? p:=World.cell?_of_block (w:=w) (h p.block hp)
theorem Agree.below {B:Nat} {w w':World} (h:Below B w w'):Agree (Lt B) w w':=fun b hb=>h.block b hb
theorem Agree.mono {F F':Nat→Prop} {w w':World} (h:Agree F w w') (hF:∀ b,F' b→F b):Agree F' w w':=fun b hb=>h b (hF b hb)
theorem Agree.trans {F:Nat→Prop} {w w' w'':World} (h:Agree F w w') (h':Agree F w' w''):Agree F w w'':=fun b hb=>(h' b hb).trans (h b hb)
structure Sh (α:Type) where
 size:Nat
 rep:World→(Nat→Prop)→α→List Value→Prop
 len:∀ {w F x cs},rep w F x cs→cs.length=size
 keep:∀ {w w':World} {F x cs},Agree F w w'→rep w F x cs→rep w' F x cs
 more:∀ {w F F' x cs},(∀ b,F b→F' b)→rep w F x cs→rep w F' x cs
def Rds {α:Type} (S:Sh α) (w:World) (F:Nat→Prop) (xs:List α) (A:Option Addr) (n c:Nat):Prop :=
 xs.length=n∧n≤c∧c≤9223372036854775807∧(0<n→∃ b off,A=some ⟨b,off,none⟩∧F b ∧
  ∀ i (hi:i<xs.length),∃ cs,S.rep w F xs[i] cs∧∀ j v,cs[j]? = some v→w.cell? ⟨b,off+i * S.size+j,none⟩=some v)
theorem Rds.keep {α:Type} {S:Sh α} {w w':World} {F:Nat→Prop} {xs:List α} {A:Option Addr} {n c:Nat} (ha:Agree F w w') (h:Rds S w F xs A n c):Rds S w' F xs A n c :=
 ⟨h.1,h.2.1,h.2.2.1,fun hn=>by
  obtain ⟨b,off,e,hF,hc⟩:=h.2.2.2 hn;refine ⟨b,off,e,hF,fun i hi=>?_⟩;obtain ⟨cs,hr,hv⟩:=hc i hi;exact ⟨cs,S.keep ha hr,fun j v hj=>(ha.cell (p:=⟨b,_,none⟩) hF).trans (hv j v hj)⟩⟩
theorem Rds.more {α:Type} {S:Sh α} {w:World} {F F':Nat→Prop} {xs:List α} {A:Option Addr} {n c:Nat} (hF':∀ b,F b→F' b) (h:Rds S w F xs A n c):Rds S w F' xs A n c :=
 ⟨h.1,h.2.1,h.2.2.1,fun hn=>by
  obtain ⟨b,off,e,hF,hc⟩:=h.2.2.2 hn;refine ⟨b,off,e,hF' b hF,fun i hi=>?_⟩;obtain ⟨cs,hr,hv⟩:=hc i hi;exact ⟨cs,S.more hF' hr,hv⟩⟩
theorem Rds.take {α:Type} {S:Sh α} {w:World} {F:Nat→Prop} {xs:List α} {A:Option Addr} {n c k:Nat} (h:Rds S w F xs A n c) (hk:k≤n):Rds S w F (xs.take k) A k c:=by
 obtain ⟨h1,h2,h3,h4⟩:=h;refine ⟨by rw [zY0d,h1];omega,by omega,h3,fun hn=>?_⟩;obtain ⟨b,off,e,hF,hc⟩:=h4 (by omega);refine ⟨b,off,e,hF,fun i hi=>?_⟩;rw [zY0d] at hi;obtain ⟨cs,hr,hv⟩:=hc i (by omega);exact ⟨cs,by rw [List.getElem_take];exact hr,hv⟩
theorem Rds.nil {α:Type} (S:Sh α) (w:World) (F:Nat→Prop):Rds S w F [] none 0 0:=⟨rfl,by omega,by omega,fun h=>by omega⟩
theorem Rds.at_ {α:Type} {S:Sh α} {w:World} {F:Nat→Prop} {xs:List α} {A:Option Addr} {n c k:Nat} (h:Rds S w F xs A n c) (hk:k<n) :
  ∃ b off x cs,A=some ⟨b,off,none⟩∧F b∧xs[k]? = some x∧S.rep w F x cs∧∀ j v,cs[j]? = some v→w.cell? ⟨b,off+k * S.size+j,none⟩=some v:=by
 obtain ⟨b,off,e,hF,hc⟩:=h.2.2.2 (by omega);have hl:k<xs.length:=by have:=h.1;omega
 obtain ⟨cs,hr,hv⟩:=hc k hl;exact ⟨b,off,xs[k],cs,e,hF,zY08 hl,hr,hv⟩
def z0j {α:Type} (S:Sh α):Sh (List α):={
 size:=1
 rep w F xs cs:=∃ A n c,cs=[.slice A n c]∧Rds S w F xs A n c
 len:=by rintro w F x cs ⟨A,n,c,rfl,_⟩;rfl
 keep:=by rintro w w' F x cs ha ⟨A,n,c,rfl,h⟩;exact ⟨A,n,c,rfl,h.keep ha⟩
 more:=by rintro w F F' x cs hF ⟨A,n,c,rfl,h⟩;exact ⟨A,n,c,rfl,h.more hF⟩ }
def I64 (n:Int):Prop:=-9223372036854775808≤n∧n≤9223372036854775807
def shInt:Sh Int:={
 size:=1
 rep _ _ n cs:=cs=[.int .i64 n] ∧ -9223372036854775808≤n∧n≤9223372036854775807
 len:=by rintro w F x cs ⟨rfl,_⟩;rfl
 keep:=fun _ h=>h
 more:=fun _ h=>h }
def shBool:Sh Bool:={
 size:=1
 rep _ _ b cs:=cs=[.bool b]
 len:=by rintro w F x cs rfl;rfl
 keep:=fun _ h=>h
 more:=fun _ h=>h }
def zna:Sh (List UInt8):={
 size:=1
 rep _ _ s cs:=cs=[.string ⟨s.toArray⟩]∧s.length≤9223372036854775807
 len:=by rintro w F x cs ⟨rfl,_⟩;rfl
 keep:=fun _ h=>h
 more:=fun _ h=>h }
theorem Rds.int {w:World} {F:Nat→Prop} {xs:List Int} {A:Option Addr} {n c k:Nat} (h:Rds shInt w F xs A n c) (hk:k<n) :
  ∃ b off x,A=some ⟨b,off,none⟩∧F b∧xs[k]? = some x∧w.cell? ⟨b,off+k,none⟩=some (.int .i64 x) ∧ -9223372036854775808≤x∧x≤9223372036854775807:=by
 obtain ⟨b,off,x,cs,e,hF,hx,⟨rfl,h1,h2⟩,hc⟩:=h.at_ hk;exact ⟨b,off,x,e,hF,hx,by simpa [shInt] using hc 0 _ rfl,h1,h2⟩
theorem Rds.str {w:World} {F:Nat→Prop} {xs:List (List UInt8)} {A:Option Addr} {n c k:Nat} (h:Rds zna w F xs A n c) (hk:k<n) :
  ∃ b off x,A=some ⟨b,off,none⟩∧F b∧xs[k]? = some x∧w.cell? ⟨b,off+k,none⟩=some (.string ⟨x.toArray⟩)∧x.length≤9223372036854775807:=by
 obtain ⟨b,off,x,cs,e,hF,hx,⟨rfl,h1⟩,hc⟩:=h.at_ hk;exact ⟨b,off,x,e,hF,hx,by simpa [zna] using hc 0 _ rfl,h1⟩
theorem Rds.of_own_int {w:World} {base e n:Nat} {v:Value} {xs:List Int} (h:w.ownsRow base e 1 v n (xs.map (Value.int .i64))) (hb:∀ x ∈ xs,-9223372036854775808≤x∧x≤9223372036854775807) :
  ∃ A c,v = .slice A n c∧Rds shInt w (fun b=>base≤b∧b<w.heap.size) xs A n c:=by
 obtain ⟨hl,h2⟩:=h;simp at hl;rcases h2 with ⟨rfl,rfl⟩|⟨g,cap,cur,rfl,hg,hh,hnc,hcm,hcs,ht⟩
 ·refine ⟨none,0,rfl,?_⟩
  obtain rfl:xs=[]:=zY0b hl;exact Rds.nil _ _ _
 ·refine ⟨_,cap,rfl,hl,hnc,by unfold maxLen at hcm;omega,fun hn=>⟨g,0,rfl,⟨hg,?_⟩,fun i hi=>⟨_,⟨rfl,hb _ (zY1r hi)⟩,?_⟩⟩⟩
  ·rcases zY1w g w.heap.size with h|h
   ·exact h
   ·rw [zY14 h] at hh;cases hh
  ·intro j v hj
   match j,hj with
   | 0,hj =>
    simp at hj;subst hj;have e1:(cur.toList.take (n * 1))[i]? = some (.int .i64 xs[i]):=by rw [ht];simp [hi]
    rw [zY12] at e1
    split at e1
    ·rw [cell_of_row w g _ cur _ (0,0) hh];simpa [shInt] using e1
    ·cases e1
theorem ze3 {B:Nat} {a w:World} (h:Below B a w) (n:Nat):Below B a (w.drewN n):=⟨h.os,h.tape,h.output,h.size,h.block⟩
theorem z2u {α:Type} {l:List α} {k:Nat} {x:α} (h:l[k]? = some x):l.drop k=x::l.drop (k+1):=by
 obtain ⟨hk,e⟩:=zY06.1 h;rw [zY1v hk,e]
theorem z3d {α:Type} {l:List α} {k:Nat} {x:α} (h:l[k]? = some x):l.take (k+1)=l.take k++[x]:=by
 rw [List.take_add_one,h];rfl
end
section
open Go.RowKit
def z2b {α β τ:Type} (S0:Sh α) (S1:Sh β) (f:α→β→τ):Sh τ:={
 size:=S0.size+S1.size
 rep w F x cs:=∃ a b ca cb,x=f a b∧cs=ca++cb∧S0.rep w F a ca∧S1.rep w F b cb
 len:=by rintro w F x cs ⟨a,b,ca,cb,rfl,rfl,ha,hb⟩;simp [S0.len ha,S1.len hb]
 keep:=by rintro w w' F x cs hk ⟨a,b,ca,cb,e,e',ha,hb⟩;exact ⟨a,b,ca,cb,e,e',S0.keep hk ha,S1.keep hk hb⟩
 more:=by rintro w F F' x cs hk ⟨a,b,ca,cb,e,e',ha,hb⟩;exact ⟨a,b,ca,cb,e,e',S0.more hk ha,S1.more hk hb⟩ }
def shS1 {α τ:Type} (S0:Sh α) (f:α→τ):Sh τ:={
 size:=S0.size
 rep w F x cs:=∃ a,x=f a∧S0.rep w F a cs
 len:=by rintro w F x cs ⟨a,rfl,ha⟩;exact S0.len ha
 keep:=by rintro w w' F x cs hk ⟨a,e,ha⟩;exact ⟨a,e,S0.keep hk ha⟩
 more:=by rintro w F F' x cs hk ⟨a,e,ha⟩;exact ⟨a,e,S0.more hk ha⟩ }
def z99 {α β γ τ:Type} (S0:Sh α) (S1:Sh β) (S2:Sh γ) (f:α→β→γ→τ):Sh τ:=z2b S0 (z2b S1 S2 Prod.mk) (fun a p=>f a p.1 p.2)
def zcj {α β γ δ τ:Type} (S0:Sh α) (S1:Sh β) (S2:Sh γ) (S3:Sh δ) (f:α→β→γ→δ→τ):Sh τ:=z2b S0 (z99 S1 S2 S3 fun a b c=>(a,b,c)) (fun a p=>f a p.1 p.2.1 p.2.2)
def zet {α β γ δ ε τ:Type} (S0:Sh α) (S1:Sh β) (S2:Sh γ) (S3:Sh δ) (S4:Sh ε) (f:α→β→γ→δ→ε→τ):Sh τ:=z2b S0 (zcj S1 S2 S3 S4 fun a b c d=>(a,b,c,d)) (fun a p=>f a p.1 p.2.1 p.2.2.1 p.2.2.2)
structure Op where (kind n:Int) deriving DecidableEq,Repr
structure Point where (tx at_:Int) deriving DecidableEq,Repr
structure In where (p:Point) (key:List Op) deriving DecidableEq,Repr
structure Out where (coin:Int) (lock:List Op) deriving DecidableEq,Repr
structure Tx where (height:Int) (ins:List In) (outs:List Out) deriving DecidableEq,Repr
structure Book where (texts:List (List UInt8)) deriving DecidableEq,Repr
structure Coin where (p:Point) (o:Out) (height:Int) (reward:Bool) deriving DecidableEq,Repr
structure Undo where (spent:List Coin) deriving DecidableEq,Repr
structure Block where (parent height work nonce:Int) (txs:List Tx) deriving DecidableEq,Repr
structure Tree where (names:List Int) (blocks:List Block) deriving DecidableEq,Repr
structure Message where (kind src to name:Int) (b:Block) (t:Tx) deriving DecidableEq,Repr
structure Node where (t:Tree) (pool:List Tx) (tip:Int) deriving DecidableEq,Repr
structure Wld where (book:Book) (nodes:List Node) (net:List Message) deriving DecidableEq,Repr
structure Happening where (kind node to k work n:Int) (t:Tx) deriving DecidableEq,Repr
def shOp:Sh Op:=z2b shInt shInt Op.mk
def shPoint:Sh Point:=z2b shInt shInt Point.mk
def shIn:Sh In:=z2b shPoint (z0j shOp) In.mk
def shOut:Sh Out:=z2b shInt (z0j shOp) Out.mk
def shTx:Sh Tx:=z99 shInt (z0j shIn) (z0j shOut) Tx.mk
def shCoin:Sh Coin:=zcj shPoint shOut shInt shBool Coin.mk
def shUndo:Sh Undo:=shS1 (z0j shCoin) Undo.mk
def shBlock:Sh Block:=zet shInt shInt shInt shInt (z0j shTx) Block.mk
theorem z08u {w:World} {F:Nat→Prop} {x:Op} {cs:List Value} (h:shOp.rep w F x cs) :
  cs=[.int .i64 x.kind,.int .i64 x.n]∧I64 x.kind∧I64 x.n:=by
 obtain ⟨a,b,ca,cb,rfl,rfl,⟨rfl,h1⟩,rfl,h2⟩:=h;exact ⟨rfl,h1,h2⟩
theorem zck {w:World} {F:Nat→Prop} {x:Point} {cs:List Value} (h:shPoint.rep w F x cs) :
  cs=[.int .i64 x.tx,.int .i64 x.at_]∧I64 x.tx∧I64 x.at_:=by
 obtain ⟨a,b,ca,cb,rfl,rfl,⟨rfl,h1⟩,rfl,h2⟩:=h;exact ⟨rfl,h1,h2⟩
theorem z01z {w:World} {F:Nat→Prop} {x:In} {cs:List Value} (h:shIn.rep w F x cs) :
  ∃ A n c,cs=[.int .i64 x.p.tx,.int .i64 x.p.at_,.slice A n c]∧I64 x.p.tx∧I64 x.p.at_∧Rds shOp w F x.key A n c:=by
 obtain ⟨a,b,ca,cb,rfl,rfl,ha,A,n,c,rfl,hr⟩:=h;obtain ⟨rfl,h1,h2⟩:=zck ha;exact ⟨A,n,c,rfl,h1,h2,hr⟩
theorem zhc {w:World} {F:Nat→Prop} {x:Out} {cs:List Value} (h:shOut.rep w F x cs) :
  ∃ A n c,cs=[.int .i64 x.coin,.slice A n c]∧I64 x.coin∧Rds shOp w F x.lock A n c:=by
 obtain ⟨a,b,ca,cb,rfl,rfl,⟨rfl,h1⟩,A,n,c,rfl,hr⟩:=h;exact ⟨A,n,c,rfl,h1,hr⟩
theorem zoa {w:World} {F:Nat→Prop} {x:Tx} {cs:List Value} (h:shTx.rep w F x cs) :
  ∃ A n c A' n' c',cs=[.int .i64 x.height,.slice A n c,.slice A' n' c']∧I64 x.height∧Rds shIn w F x.ins A n c∧Rds shOut w F x.outs A' n' c':=by
 obtain ⟨a,b,ca,cb,rfl,rfl,⟨rfl,h1⟩,a1,b1,ca1,cb1,rfl,rfl,⟨A,n,c,rfl,hr⟩,A',n',c',rfl,hr'⟩:=h;exact ⟨A,n,c,A',n',c',rfl,h1,hr,hr'⟩
theorem z04u {w:World} {F:Nat→Prop} {x:Coin} {cs:List Value} (h:shCoin.rep w F x cs) :
  ∃ A n c,cs=[.int .i64 x.p.tx,.int .i64 x.p.at_,.int .i64 x.o.coin,.slice A n c,.int .i64 x.height,.bool x.reward]∧I64 x.p.tx∧I64 x.p.at_∧I64 x.o.coin∧I64 x.height∧Rds shOp w F x.o.lock A n c:=by
 obtain ⟨a,b,ca,cb,rfl,rfl,ha,a1,b1,ca1,cb1,rfl,rfl,hb,a2,b2,ca2,cb2,rfl,rfl,⟨rfl,h3⟩,rfl⟩:=h;obtain ⟨rfl,h1,h2⟩:=zck ha;obtain ⟨A,n,c,rfl,h4,hr⟩:=zhc hb;exact ⟨A,n,c,rfl,h1,h2,h4,h3,hr⟩
theorem z020 {w:World} {F:Nat→Prop} {x:Block} {cs:List Value} (h:shBlock.rep w F x cs) :
  ∃ A n c,cs=[.int .i64 x.parent,.int .i64 x.height,.int .i64 x.work,.int .i64 x.nonce,.slice A n c]∧I64 x.parent∧I64 x.height∧I64 x.work∧I64 x.nonce∧Rds shTx w F x.txs A n c:=by
 obtain ⟨a,b,ca,cb,rfl,rfl,⟨rfl,h1⟩,a1,b1,ca1,cb1,rfl,rfl,⟨rfl,h2⟩,a2,b2,ca2,cb2,rfl,rfl,⟨rfl,h3⟩,a3,b3,ca3,cb3,rfl,rfl,⟨rfl,h4⟩,A,n,c,rfl,hr⟩:=h;exact ⟨A,n,c,rfl,h1,h2,h3,h4,hr⟩
end
section
open Go.RowKit
def flat {α:Type} (zs:List (α × List Value)):List Value:=(zs.map (·.2)).flatten
theorem zin {α:Type} (z:α × List Value) (zs:List (α × List Value)):flat (z::zs)=z.2++flat zs:=by simp [flat]
theorem za1 {α:Type} (zs ys:List (α × List Value)):flat (zs++ys)=flat zs++flat ys:=by simp [flat]
theorem z46 {α:Type} {s:Nat} {zs:List (α × List Value)} (h:∀ z ∈ zs,z.2.length=s):(flat zs).length=zs.length * s:=by
 induction zs with
 | nil=>simp [flat]
 | cons z zs ih =>
  rw [zin,zY01,ih (fun y hy=>h y (by simp [hy])),h z (by simp),zY03,zY1q];omega
theorem z06y {α:Type} {s:Nat} {zs:List (α × List Value)} (h:∀ z ∈ zs,z.2.length=s) {i:Nat} {z:α × List Value} (hi:zs[i]? = some z) {j:Nat} (hj:j<s):(flat zs)[i * s+j]? = z.2[j]?:=by
 induction zs generalizing i with
 | nil=>simp at hi
 | cons y zs ih =>
  have hy:=h y (by simp);rw [zin]
  cases i with
  | zero =>
   simp at hi;subst hi;rw [Nat.zero_mul,zY0v,zY0h (by omega)]
  | succ i =>
   simp at hi;rw [zY0i (by rw [hy,zY1q];omega),hy,show (i+1) * s+j - s=i * s+j by rw [zY1q];omega];exact ih (fun z hz=>h z (by simp [hz])) hi
theorem Rds.pairs {α:Type} {S:Sh α} {w:World} {F:Nat→Prop} {xs:List α} {A:Option Addr} {n c:Nat} (h:Rds S w F xs A n c) :
  ∃ zs:List (α × List Value),zs.map (·.1)=xs∧(∀ z ∈ zs,S.rep w F z.1 z.2)∧(0<n→∃ b off,A=some ⟨b,off,none⟩∧F b∧∀ j v,(flat zs)[j]? = some v→w.cell? ⟨b,off+j,none⟩=some v):=by
 obtain ⟨h1,h2,h3,h4⟩:=h;rcases zY1l n with h0|h0
 ·have:xs=[]:=zY0b (by omega)
  subst this;exact ⟨[],rfl,by simp,fun h=>by omega⟩
 ·obtain ⟨b,off,e,hF,hc⟩:=h4 h0
  have key:∀ m,m≤xs.length→∃ zs:List (α × List Value),zs.map (·.1)=xs.take m∧(∀ z ∈ zs,S.rep w F z.1 z.2)∧∀ j v,(flat zs)[j]? = some v→w.cell? ⟨b,off+j,none⟩=some v:=by
   intro m
   induction m with
   | zero=>intro _;exact ⟨[],by simp,by simp,by simp [flat]⟩
   | succ m ih =>
    intro hm;obtain ⟨zs,z1,z2,z3⟩:=ih (by omega);obtain ⟨cs,hr,hv⟩:=hc m (by omega);have hl:∀ z ∈ zs,z.2.length=S.size:=fun z hz=>S.len (z2 z hz)
    have hzl:zs.length=m:=by have:=congrArg List.length z1;simp at this;omega
    refine ⟨zs++[(xs[m],cs)],?_,?_,?_⟩
    ·rw [z3d (zY08 (by omega)),zY27,z1];rfl
    ·intro z hz
     rcases zY0z.1 hz with h|h
     ·exact z2 z h
     ·simp at h;subst h;exact hr
    ·intro j v hj
     rw [za1] at hj
     by_cases hjl:j<(flat zs).length
     ·rw [zY0h hjl] at hj;exact z3 j v hj
     ·rw [zY0i (by omega)] at hj
      have e2:flat [(xs[m],cs)]=cs:=by simp [flat]
      rw [e2] at hj;have:=hv _ v hj;rw [z46 hl,hzl] at hjl this;rw [show off+m * S.size+(j - m * S.size)=off+j by omega] at this;exact this
  obtain ⟨zs,z1,z2,z3⟩:=key xs.length (zY0t _);exact ⟨zs,by rw [z1,zY1c],z2,fun _=>⟨b,off,e,hF,z3⟩⟩
theorem Rds.of_own {α:Type} {S:Sh α} {w:World} {F:Nat→Prop} {base e n:Nat} {v:Value} {zs:List (α × List Value)} (h:w.ownsRow base e S.size v n (flat zs)) (hn:zs.length=n)
  (hz:∀ z ∈ zs,S.rep w F z.1 z.2) (hF:∀ g,base≤g→g<w.heap.size→F g):∃ A c,v = .slice A n c∧Rds S w F (zs.map (·.1)) A n c:=by
 obtain ⟨hl,h2⟩:=h;rcases h2 with ⟨rfl,rfl⟩|⟨g,cap,cur,rfl,hg,hh,hnc,hcm,hcs,ht⟩
 ·have:zs=[]:=zY0b hn
  subst this;exact ⟨none,0,rfl,Rds.nil _ _ _⟩
 ·have hlt:g<w.heap.size:=by
   rcases zY1w g w.heap.size with h|h
   ·exact h
   ·rw [zY14 h] at hh;cases hh
  refine ⟨_,cap,rfl,by simpa using hn,hnc,by unfold maxLen at hcm;omega,fun _=>⟨g,0,rfl,hF g hg hlt,fun i hi=>?_⟩⟩;have hi':i<zs.length:=by simpa using hi
  refine ⟨zs[i].2,by simpa using hz _ (zY1r hi'),fun j u hj=>?_⟩;have hjl:j<S.size:=by
   have:=S.len (hz _ (zY1r hi'));have:=(zY06.1 hj).1;omega
  have e1:=z06y (fun z hz'=>S.len (hz z hz')) (zY08 hi') hjl;rw [hj,← ht,zY12] at e1
  split at e1
  ·rw [cell_of_row w g _ cur _ (0,0) hh,zY0v];simpa using e1
  ·cases e1
theorem zfs {w:World} {base e size n k:Nat} {v:Value} {xs:List Value} (h:w.ownsRow base e size v n xs) (hk:v.ownBlock=some k):base≤k:=by
 rcases h.2 with ⟨rfl,_⟩|⟨g,cap,cur,rfl,hg,_⟩
 ·cases hk
 ·have:g=k:=by simpa [Value.ownBlock] using hk
  omega
theorem z025 {w:World} {g:Nat} {x:Obj} (h:w.heap[g]? = some x):g<w.heap.size:=by
 rcases zY1w g w.heap.size with h'|h'
 ·exact h'
 ·rw [zY14 h'] at h;cases h
theorem z7w {w w':World} {B g:Nat} {x:Obj} (h:w.heap[g]? = some x) (hb:Below B w w') (hg:g<B):w'.heap[g]? = some x:=(hb.block g hg).trans h
theorem z4j {w:World} {g i t:Nat} {cs:Array Value} (h:w.heap[g]? = some (.cells cs t (0,0))):w.cell? ⟨g,i,none⟩=cs[i]?:=cell_of_row w g i cs t (0,0) h
theorem zoh {w:World} {g i t:Nat} {cs:Array Value} (h:w.heap[g]? = some (.cells cs t (0,0))):w.frozen? ⟨g,i,none⟩=false:=frozen_of_row w g i cs t h
theorem z06z {w:World} {g i t:Nat} {cs:Array Value} {u:Value} (h:w.heap[g]? = some (.cells cs t (0,0))):(w.setCell ⟨g,i,none⟩ u).heap[g]? = some (.cells (cs.setIfInBounds i u) t (0,0)):=by simp [World.setCell,zY2a,h]
def zcm (cs:List Value):Prop:=∀ u ∈ cs,u.oneCell'=true
def Sh.ones {α:Type} (S:Sh α):Prop:=∀ {w F x cs},S.rep w F x cs→zcm cs
theorem zcn {α:Type} {S:Sh α} (hS:S.ones) {w:World} {F:Nat→Prop} {zs:List (α × List Value)} (hz:∀ z ∈ zs,S.rep w F z.1 z.2):zcm (flat zs):=by
 intro u hu;simp only [flat,List.mem_flatten,zY2h] at hu;obtain ⟨l,⟨z,hz',rfl⟩,hu⟩:=hu;exact hS (hz z hz') u hu
theorem z5t:shInt.ones:=by rintro w F x cs ⟨rfl,_⟩ u hu;simp at hu;subst hu;rfl
theorem z026:shBool.ones:=by rintro w F x cs rfl u hu;simp at hu;subst hu;rfl
theorem zzn {α:Type} (S:Sh α):(z0j S).ones:=by rintro w F x cs ⟨A,n,c,rfl,_⟩ u hu;simp at hu;subst hu;rfl
theorem z8v {α β τ:Type} {S0:Sh α} {S1:Sh β} {f:α→β→τ} (h0:S0.ones) (h1:S1.ones):(z2b S0 S1 f).ones:=by
 rintro w F x cs ⟨a,b,ca,cb,rfl,rfl,ha,hb⟩ u hu;rcases zY0z.1 hu with h|h
 ·exact h0 ha u h
 ·exact h1 hb u h
theorem z070:shOp.ones:=z8v z5t z5t
theorem zft:shPoint.ones:=z8v z5t z5t
theorem z04w:shOut.ones:=z8v z5t (zzn _)
theorem zio:shCoin.ones:=z8v zft (z8v z04w (z8v z5t z026))
end
section
open Go.RowKit
set_option maxRecDepth 100000
theorem z5g (b off k:Nat):(Addr.mk b off none).add k=⟨b,off+k,none⟩:=by unfold Addr.add;split <;> simp_all
theorem zc1 (w:World) (e s:Nat):(w.alloc (.cells #[] e)).ownsRow w.heap.size e s (.slice (some ⟨w.heap.size,0,none⟩) 0 0) 0 [] :=
 ⟨by simp,.inr ⟨w.heap.size,0,#[],rfl,zY0t _,heap_alloc_new w _,zY0t _,by unfold maxLen;omega,by simp,by simp⟩⟩
def z9a {α:Type} (S:Sh α) (e:Nat) (w:World) (F:Nat→Prop) (xs:List α) (n:Nat) (r:Ending) (w':World):Prop :=
 ∃ (v:Value) (zs:List (α × List Value)),r = .returned v∧zs.map (·.1)=xs∧(∀ z ∈ zs,S.rep w F z.1 z.2)∧w'.ownsRow w.heap.size e S.size v n (flat zs)∧Below w.heap.size w w'
theorem z04x (xs:List (Op)) (A:Option Addr) (n c:Nat) (w:World) (F:Nat→Prop) (h:Rds shOp w F xs A n c) (hF:∀ b,F b→b<w.heap.size) (hn:n * 16≤140737488355328) :
  Calls Tryz.prog 20 #[.slice A n c] w (z9a shOp 54 w F xs n):=by
 have hq:=fun (W:World)=>Lib.run_eql_slice_nil (P:=Tryz.prog) W 45 54 A n c 0 0 Tryz.underlying45
 cases A with
 | none =>
  have h0:n=0:=by
   rcases zY1l n with h0|h0
   ·exact h0
   ·obtain ⟨b,off,e,_⟩:=h.2.2.2 h0;cases e
  subst h0;have hx:xs=[]:=zY0b h.1;subst hx;go_enter Tryz.func20,Tryz.ntmps20;go_wp2;go_ret;exact ⟨_,[],rfl,rfl,by simp,World.ownsRow_nil _ _ _ _,Below.refl _ _⟩
 | some ad =>
  obtain ⟨zs,z1,z2,z3⟩:=h.pairs;have hl:zs.length=n:=by have:=congrArg List.length z1;simp at this;have:=h.1;omega
  have hfl:(flat zs).length=n * 2:=by rw [z46 (fun z hz=>shOp.len (z2 z hz)),hl];rfl
  have hnews:∀ j u,(flat zs)[j]? = some u→(w.alloc (.cells #[] 54)).cell? (ad.add j)=some u:=by
   intro j u hj;have hj':=(zY06.1 hj).1;obtain ⟨b,off,e,hFb,hc⟩:=z3 (by omega);injection e with e
   subst e;rw [z5g,World.cell?_alloc_lt w _ _ (hF b hFb)];exact hc j u hj
  have H1:=Lib.hid (zcn z070 z2);have HN:=Lib.hid hnews;have HL:=Lib.hid hfl;have Z1:=Lib.hid z1;have HZ:=Lib.hid hl;obtain ⟨i0,zv,hi,hz0,hz1,hz2,hz3⟩:∃ i z,Tryz.prog.info? 54=some i∧i.zero=some z∧i.size=2∧i.bytes=16∧z.cells.size=2:=by
   have h1:(Tryz.prog.info? 54).map (fun i=>(i.zero.map (·.cells.size),i.size,i.bytes))=some (some 2,2,16):=by kernel_rfl
   match hh:Tryz.prog.info? 54,h1 with
   | some i,h1 =>
    simp only [zY19,zY00,zY11] at h1
    match hz:i.zero,h1 with
    | some z,h1=>exact ⟨i,z,rfl,hz,h1.2.1,h1.2.2,by simpa using h1.1⟩
  clear hnews hfl h z1 hl z3;go_enter Tryz.func20,Tryz.ntmps20;go_wp2_with (at_builtin;refine wpList_append_own_at _ rfl _ _ 45 rfl w.heap.size 54 i0 zv 2 16 Tryz.underlying45 hi hz0 hz1 hz2 hz3 (by omega) _ 0 [] rfl (zc1 w _ _) ad n c (flat zs) rfl HL.out HN.out H1.out (by unfold maxLen;omega) (by rw [zY0v];exact hn) (by simp) ?_;intro v' w1 hown hgr _ _);go_ret;rw [zY0v,zY0y] at hown;refine ⟨v',zs,rfl,Z1.out,z2,hown,?_⟩;exact ((Below.refl _ _).alloc (zY0t _) _).grown hgr (by simp) (fun k hk=>by injection hk with hk;exact Nat.le_of_eq hk)
theorem zfu (xs:List (Coin)) (A:Option Addr) (n c:Nat) (w:World) (F:Nat→Prop) (h:Rds shCoin w F xs A n c) (hF:∀ b,F b→b<w.heap.size) (hn:n * 64≤140737488355328) :
  Calls Tryz.prog 30 #[.slice A n c] w (z9a shCoin 57 w F xs n):=by
 have hq:=fun (W:World)=>Lib.run_eql_slice_nil (P:=Tryz.prog) W 22 57 A n c 0 0 Tryz.underlying22
 cases A with
 | none =>
  have h0:n=0:=by
   rcases zY1l n with h0|h0
   ·exact h0
   ·obtain ⟨b,off,e,_⟩:=h.2.2.2 h0;cases e
  subst h0;have hx:xs=[]:=zY0b h.1;subst hx;go_enter Tryz.func30,Tryz.ntmps30;go_wp2;go_ret;exact ⟨_,[],rfl,rfl,by simp,World.ownsRow_nil _ _ _ _,Below.refl _ _⟩
 | some ad =>
  obtain ⟨zs,z1,z2,z3⟩:=h.pairs;have hl:zs.length=n:=by have:=congrArg List.length z1;simp at this;have:=h.1;omega
  have hfl:(flat zs).length=n * 6:=by rw [z46 (fun z hz=>shCoin.len (z2 z hz)),hl];rfl
  have hnews:∀ j u,(flat zs)[j]? = some u→(w.alloc (.cells #[] 57)).cell? (ad.add j)=some u:=by
   intro j u hj;have hj':=(zY06.1 hj).1;obtain ⟨b,off,e,hFb,hc⟩:=z3 (by omega);injection e with e
   subst e;rw [z5g,World.cell?_alloc_lt w _ _ (hF b hFb)];exact hc j u hj
  have H1:=Lib.hid (zcn zio z2);have HN:=Lib.hid hnews;have HL:=Lib.hid hfl;have Z1:=Lib.hid z1;have HZ:=Lib.hid hl;obtain ⟨i0,zv,hi,hz0,hz1,hz2,hz3⟩:∃ i z,Tryz.prog.info? 57=some i∧i.zero=some z∧i.size=6∧i.bytes=64∧z.cells.size=6:=by
   have h1:(Tryz.prog.info? 57).map (fun i=>(i.zero.map (·.cells.size),i.size,i.bytes))=some (some 6,6,64):=by kernel_rfl
   match hh:Tryz.prog.info? 57,h1 with
   | some i,h1 =>
    simp only [zY19,zY00,zY11] at h1
    match hz:i.zero,h1 with
    | some z,h1=>exact ⟨i,z,rfl,hz,h1.2.1,h1.2.2,by simpa using h1.1⟩
  clear hnews hfl h z1 hl z3;go_enter Tryz.func30,Tryz.ntmps30;go_wp2_with (at_builtin;refine wpList_append_own_at _ rfl _ _ 22 rfl w.heap.size 57 i0 zv 6 64 Tryz.underlying22 hi hz0 hz1 hz2 hz3 (by omega) _ 0 [] rfl (zc1 w _ _) ad n c (flat zs) rfl HL.out HN.out H1.out (by unfold maxLen;omega) (by rw [zY0v];exact hn) (by simp) ?_;intro v' w1 hown hgr _ _);go_ret;rw [zY0v,zY0y] at hown;refine ⟨v',zs,rfl,Z1.out,z2,hown,?_⟩;exact ((Below.refl _ _).alloc (zY0t _) _).grown hgr (by simp) (fun k hk=>by injection hk with hk;exact Nat.le_of_eq hk)
end
section
open Go.RowKit
theorem z04y {w:World} {F:Nat→Prop} {x:Point} (h1:I64 x.tx) (h2:I64 x.at_):shPoint.rep w F x [.int .i64 x.tx,.int .i64 x.at_] :=
 ⟨x.tx,x.at_,[_],[_],rfl,rfl,⟨rfl,h1⟩,rfl,h2⟩
end
section
open Go.RowKit
structure Stop (p:Prop):Prop where
 go:p
structure Res where
 block:Option Nat
 holds:Nat→(Nat→Prop)→World→Prop
 keep:∀ {h0:Nat} {F F':Nat→Prop} {W W':World},Agree F W W'→(∀ b,F b→F' b)→(∀ g,block=some g→W'.heap[g]? = W.heap[g]?)→holds h0 F W→holds h0 F' W'
 lt:∀ {h0:Nat} {F:Nat→Prop} {W:World} {g:Nat},holds h0 F W→block=some g→h0≤g∧g<W.heap.size
def zoi (p:World→(Nat→Prop)→Prop) (k:∀ {W W':World} {F F':Nat→Prop},Agree F W W'→(∀ b,F b→F' b)→p W F→p W' F'):Res:={
 block:=none
 holds _ F W:=p W F
 keep:=fun ha hF _ h=>k ha hF h
 lt:=fun _ h=>by cases h }
def rds {α:Type} (xs:List α) (A:Option Addr) (n c:Nat) (S:Sh α):Res:=zoi (fun W F=>Rds S W F xs A n c) fun ha hF h=>(h.keep ha).more hF
def rep {α:Type} (x:α) (cs:List Value) (S:Sh α):Res:=zoi (fun W F=>S.rep W F x cs) fun ha hF h=>S.more hF (S.keep ha h)
def cells (b o:Nat) (cs:List Value):Res:=zoi (fun W F=>F b∧W.rangeAt b o cs) fun ha hF h=>⟨hF _ h.1,fun j v hj=>(ha.cell (p:=⟨b,o+j,none⟩) h.1).trans (h.2 j v hj)⟩
def box (g:Nat) (cs:List Value) (t:Nat):Res:={
 block:=some g
 holds h0 _ W:=h0≤g∧W.heap[g]? = some (.cells cs.toArray t (0,0))
 keep:=fun _ _ hb h=>⟨h.1,(hb g rfl).trans h.2⟩
 lt:=fun h e=>by injection e with e;subst e;exact ⟨h.1,z025 h.2⟩ }
theorem zoj {w w':World} {base e size n:Nat} {v:Value} {xs:List Value} (h:w.ownsRow base e size v n xs) (hb:∀ g,v.ownBlock=some g→w'.heap[g]? = w.heap[g]?):w'.ownsRow base e size v n xs:=by
 refine ⟨h.1,?_⟩;rcases h.2 with h0|⟨g,cap,cur,hv,hg,hh,r⟩
 ·exact .inl h0
 ·exact .inr ⟨g,cap,cur,hv,hg,by rw [hb g (by rw [hv];rfl)];exact hh,r⟩
def row {α:Type} (e:Nat) (v:Value) (xs:List α) (S:Sh α):Res:={
 block:=v.ownBlock
 holds h0 F W:=∃ zs:List (α × List Value),zs.map (·.1)=xs∧W.ownsRow h0 e S.size v xs.length (flat zs)∧∀ z ∈ zs,S.rep W F z.1 z.2
 keep:=fun ha hF hb ⟨zs,h1,h2,h3⟩=>⟨zs,h1,zoj h2 hb,fun z hz=>S.more hF (S.keep ha (h3 z hz))⟩
 lt:=fun ⟨_,_,h2,_⟩ e=>h2.lt _ e }
def Free (h0:Nat) (F0:Nat→Prop) (Γ:List Res) (W:World) (b:Nat):Prop:=(F0 b∨(h0≤b∧b<W.heap.size))∧∀ r ∈ Γ,r.block≠some b
def All (h0:Nat) (F0:Nat→Prop) (W:World) (b:Nat):Prop:=F0 b∨(h0≤b∧b<W.heap.size)
structure Sep (w0:World) (F0:Nat→Prop) (Γ:List Res) (W:World):Prop where
 below:Below w0.heap.size w0 W
 low:∀ b,F0 b→b<w0.heap.size
 all:∀ r ∈ Γ,r.holds w0.heap.size (Free w0.heap.size F0 Γ W) W
 dj:Γ.Pairwise fun r r'=>∀ g,r.block=some g→r'.block≠some g
def At (Γ:List Res) (r:Res):Prop:=r ∈ Γ
theorem At.z {Γ:List Res} {r:Res}:At (r::Γ) r:=zY0l ..
theorem At.s {Γ:List Res} {r q:Res} (h:At Γ r):At (q::Γ) r:=zY0j _ h
def Put (Γ:List Res) (r r':Res) (Γ':List Res):Prop:=∃ l1 l2,Γ=l1++r::l2∧Γ'=l1++r'::l2
theorem Put.z {Γ:List Res} {r r':Res}:Put (r::Γ) r r' (r'::Γ):=⟨[],Γ,rfl,rfl⟩
theorem Put.s {Γ Γ':List Res} {r r' q:Res} (h:Put Γ r r' Γ'):Put (q::Γ) r r' (q::Γ'):=by
 obtain ⟨l1,l2,rfl,rfl⟩:=h;exact ⟨q::l1,l2,rfl,rfl⟩
def Del (Γ:List Res) (r:Res) (Γ':List Res):Prop:=∃ l1 l2,Γ=l1++r::l2∧Γ'=l1++l2
theorem Del.z {Γ:List Res} {r:Res}:Del (r::Γ) r Γ:=⟨[],Γ,rfl,rfl⟩
theorem Del.s {Γ Γ':List Res} {r q:Res} (h:Del Γ r Γ'):Del (q::Γ) r (q::Γ'):=by
 obtain ⟨l1,l2,rfl,rfl⟩:=h;exact ⟨q::l1,l2,rfl,rfl⟩
theorem Put.at_ {Γ Γ':List Res} {r r':Res} (h:Put Γ r r' Γ'):At Γ r:=by
 obtain ⟨l1,l2,rfl,rfl⟩:=h;simp [At]
def Sub (Γ' Γ:List Res):Prop:=∃ l,Γ.Perm (Γ'++l)
theorem Sub.nil {Γ:List Res}:Sub [] Γ:=⟨Γ,by simp⟩
theorem Sub.refl {Γ:List Res}:Sub Γ Γ:=⟨[],by simp⟩
theorem Sub.skip {Γ Γ':List Res} {r:Res} (h:Sub Γ' Γ):Sub Γ' (r::Γ):=by
 obtain ⟨l,hl⟩:=h;exact ⟨r::l,(hl.cons r).trans List.perm_middle.symm⟩
theorem Sub.take {Γ Γ1 Γ':List Res} {r:Res} (hd:Del Γ r Γ1) (h:Sub Γ' Γ1):Sub (r::Γ') Γ:=by
 obtain ⟨l1,l2,rfl,rfl⟩:=hd;obtain ⟨l,hl⟩:=h;exact ⟨l,List.perm_middle.trans (hl.cons r)⟩
section
variable {w0 W W':World} {F0:Nat→Prop} {Γ Γ':List Res}
theorem Sep.size (h:Sep w0 F0 Γ W):w0.heap.size≤W.heap.size:=h.below.size
theorem Free.lt (h:Sep w0 F0 Γ W) {b:Nat} (hb:Free w0.heap.size F0 Γ W b):b<W.heap.size:=by
 rcases hb.1 with h1|h1
 ·exact zY1h (h.low b h1) h.size
 ·exact h1.2
theorem Free.all {h0:Nat} {b:Nat} (hb:Free h0 F0 Γ W b):All h0 F0 W b:=hb.1
theorem All.lt (h:Sep w0 F0 Γ W) {b:Nat} (hb:All w0.heap.size F0 W b):b<W.heap.size:=by
 rcases hb with h1|h1
 ·exact zY1h (h.low b h1) h.size
 ·exact h1.2
theorem Sep.start (w:World) (F:Nat→Prop) (hF:∀ b,F b→b<w.heap.size):Sep w F [] w:=⟨Below.refl _ _,hF,by simp,List.Pairwise.nil⟩
theorem Sep.get (h:Sep w0 F0 Γ W) {r:Res} (hr:At Γ r):r.holds w0.heap.size (Free w0.heap.size F0 Γ W) W:=h.all r hr
theorem Sep.out (h:Sep w0 F0 Γ W) {r:Res} (hr:At Γ r):r.holds w0.heap.size (All w0.heap.size F0 W) W:=r.keep (fun _ _=>rfl) (fun b hb=>hb.1) (fun _ _=>rfl) (h.all r hr)
theorem Sep.lts (h:Sep w0 F0 Γ W) {r:Res} (hr:At Γ r):r.holds w0.heap.size (Lt W.heap.size) W:=r.keep (fun _ _=>rfl) (fun b hb=>Free.lt h hb) (fun _ _=>rfl) (h.all r hr)
theorem Sep.sub (h:Sep w0 F0 Γ W) (hs:Sub Γ' Γ):Sep w0 F0 Γ' W:=by
 obtain ⟨l,hl⟩:=hs;have hm:∀ r ∈ Γ',r ∈ Γ:=fun r hr=>hl.mem_iff.2 (List.mem_append_left _ hr)
 refine ⟨h.below,h.low,fun r hr=>r.keep (fun _ _=>rfl) (fun b hb=>⟨hb.1,fun q hq=>hb.2 q (hm q hq)⟩) (fun _ _=>rfl) (h.all r (hm r hr)),?_⟩;have hp:=(hl.pairwise_iff (R:=fun r r':Res=>∀ g,r.block=some g→r'.block≠some g) (fun hab g hb ha=>hab g ha hb)).1 h.dj;exact (zY2c.1 hp).1
theorem Sep.grow (h:Sep w0 F0 Γ W) (hg:W.grownBy W' none) {r:Res} (hr:r.holds w0.heap.size (Free w0.heap.size F0 (r::Γ) W') W') (hb:∀ g,r.block=some g→W.heap.size≤g):Sep w0 F0 (r::Γ) W':=by
 have hsz:=h.size;have hfree:∀ b,Free w0.heap.size F0 Γ W b→Free w0.heap.size F0 (r::Γ) W' b:=by
  intro b hb';have hlt:=Free.lt h hb';refine ⟨hb'.1.imp (fun x=>x) (fun x=>⟨x.1,zY1h x.2 hg.size⟩),fun q hq=>?_⟩;rcases zY0m.1 hq with rfl|hq
  ·intro e
   have:=hb b e;omega
  ·exact hb'.2 q hq
 refine ⟨h.below.grown hg hsz (fun k hk=>by cases hk),h.low,?_,?_⟩
 ·intro q hq
  rcases zY0m.1 hq with rfl|hq
  ·exact hr
  ·exact q.keep (fun b hb'=>hg.block b (Free.lt h hb') (by simp)) hfree (fun g hg'=>hg.block g (q.lt (h.all q hq) hg').2 (by simp)) (h.all q hq)
 ·refine zY1p.2 ⟨fun q hq g h1 h2=>?_,h.dj⟩
  have h3:=hb g h1;have h4:=(q.lt (h.all q hq) h2).2;omega
theorem Sep.more (h:Sep w0 F0 Γ W) (hg:W.grownBy W' none):Sep w0 F0 Γ W':=by
 have hfree:∀ b,Free w0.heap.size F0 Γ W b→Free w0.heap.size F0 Γ W' b:=fun b hb' =>
  ⟨hb'.1.imp (fun x=>x) (fun x=>⟨x.1,zY1h x.2 hg.size⟩),hb'.2⟩
 exact ⟨h.below.grown hg h.size (fun k hk=>by cases hk),h.low,fun q hq=>q.keep (fun b hb'=>hg.block b (Free.lt h hb') (by simp)) hfree (fun g hg'=>hg.block g (q.lt (h.all q hq) hg').2 (by simp)) (h.all q hq),h.dj⟩
theorem zhe {W W':World} {row:Option Nat} (h:Below W.heap.size W W'):W.grownBy W' row:=⟨h.os,h.tape,h.output,h.size,fun k hk _=>h.block k hk⟩
theorem Sep.belows (h:Sep w0 F0 Γ W) (hb:Below W.heap.size W W'):Sep w0 F0 Γ W':=h.more (zhe hb)
theorem Sep.drew (h:Sep w0 F0 Γ W):Sep w0 F0 Γ W.drew:=h.belows (Below.refl _ _).drew
theorem Sep.drewN (h:Sep w0 F0 Γ W) (n:Nat):Sep w0 F0 Γ (W.drewN n):=h.belows (ze3 (Below.refl _ _) n)
theorem Sep.add (h:Sep w0 F0 Γ W) {r:Res} (hn:r.block=none) (hr:r.holds w0.heap.size (Free w0.heap.size F0 Γ W) W):Sep w0 F0 (r::Γ) W:=by
 refine h.grow ⟨rfl,rfl,rfl,zY0t _,fun _ _ _=>rfl⟩ (r.keep (fun _ _=>rfl) (fun b hb=>⟨hb.1,fun q hq=>?_⟩) (fun _ _=>rfl) hr) (fun g hg=>by rw [hn] at hg;cases hg);rcases zY0m.1 hq with rfl|hq
 ·rw [hn];simp
 ·exact hb.2 q hq
theorem Sep.lift (h:Sep w0 F0 Γ W) {r q:Res} (hn:q.block=none) (hr:r.holds w0.heap.size (Free w0.heap.size F0 Γ W) W):r.holds w0.heap.size (Free w0.heap.size F0 (q::Γ) W) W :=
 r.keep (fun _ _=>rfl) (fun b hb=>⟨hb.1,fun p hp=>by
  rcases zY0m.1 hp with rfl|hp
  ·rw [hn];simp
  ·exact hb.2 p hp⟩) (fun _ _=>rfl) hr
theorem Sep.add2 (h:Sep w0 F0 Γ W) {r q:Res} (hn:r.block=none) (hm:q.block=none) (hr:r.holds w0.heap.size (Free w0.heap.size F0 Γ W) W) (hq:q.holds w0.heap.size (Free w0.heap.size F0 Γ W) W):Sep w0 F0 (r::q::Γ) W :=
 (h.add hm hq).add hn (h.lift hm hr)
theorem Sep.put (h:Sep w0 F0 Γ W) {r r':Res} (hp:Put Γ r r' Γ') (hg:W.grownBy W' r.block) (hb:∀ g,r'.block=some g→r.block=some g∨W.heap.size≤g)
  (hr:(∀ b,Free w0.heap.size F0 Γ W b→Free w0.heap.size F0 Γ' W' b)→Agree (Free w0.heap.size F0 Γ W) W W'→r.holds w0.heap.size (Free w0.heap.size F0 Γ W) W→r'.holds w0.heap.size (Free w0.heap.size F0 Γ' W') W'):Sep w0 F0 Γ' W':=by
 obtain ⟨l1,l2,rfl,rfl⟩:=hp;have hmr:r ∈ l1++r::l2:=by simp
 have hother:∀ q,q ∈ l1∨q ∈ l2→q ∈ l1++r::l2:=fun q hq=>by rcases hq with hq|hq <;> simp [hq]
 have hp:=zY2c.1 h.dj;have hp2:=zY1p.1 hp.2.1;have hdj:∀ q,q ∈ l1∨q ∈ l2→∀ g,q.block=some g→r.block≠some g:=by
  intro q hq g h1 h2;rcases hq with hq|hq
  ·exact hp.2.2 q hq r (by simp) g h1 h2
  ·exact hp2.1 q hq g h2 h1
 have hfree:∀ b,Free w0.heap.size F0 (l1++r::l2) W b→Free w0.heap.size F0 (l1++r'::l2) W' b:=by
  intro b hb';have hlt:=Free.lt h hb';refine ⟨hb'.1.imp (fun x=>x) (fun x=>⟨x.1,zY1h x.2 hg.size⟩),fun q hq=>?_⟩;simp only [zY0z,zY0m] at hq;rcases hq with hq|rfl|hq
  ·exact hb'.2 q (hother q (.inl hq))
  ·intro e
   rcases hb b e with h1|h1
   ·exact hb'.2 r hmr h1
   ·omega
  ·exact hb'.2 q (hother q (.inr hq))
 have hag:Agree (Free w0.heap.size F0 (l1++r::l2) W) W W':=fun b hb'=>hg.block b (Free.lt h hb') (fun e=>hb'.2 r hmr e.symm)
 have hkeep:∀ q,q ∈ l1∨q ∈ l2→q.holds w0.heap.size (Free w0.heap.size F0 (l1++r'::l2) W') W':=fun q hq =>
  q.keep hag hfree (fun g hg'=>hg.block g (q.lt (h.all q (hother q hq)) hg').2 (fun e=>hdj q hq g hg' e.symm)) (h.all q (hother q hq))
 refine ⟨h.below.grown hg h.size (fun k hk=>(r.lt (h.all r hmr) hk).1),h.low,?_,?_⟩
 ·intro q hq
  simp only [zY0z,zY0m] at hq;rcases hq with hq|rfl|hq
  ·exact hkeep q (.inl hq)
  ·exact hr hfree hag (h.all r hmr)
  ·exact hkeep q (.inr hq)
 ·have hnew:∀ q,q ∈ l1∨q ∈ l2→∀ g,q.block=some g→r'.block≠some g:=by
   intro q hq g h1 h2;rcases hb g h2 with h3|h3
   ·exact hdj q hq g h1 h3
   ·have:=(q.lt (h.all q (hother q hq)) h1).2
    omega
  refine zY2c.2 ⟨hp.1,zY1p.2 ⟨fun q hq g h1 h2=>hnew q (.inr hq) g h2 h1,hp2.2⟩,?_⟩;intro q hq q' hq' g h1 h2;rcases zY0m.1 hq' with rfl|hq'
  ·exact hnew q (.inl hq) g h1 h2
  ·exact hp.2.2 q hq q' (by simp [hq']) g h1 h2
theorem Sep.alloc (h:Sep w0 F0 Γ W) (cs:List Value) (t:Nat):Sep w0 F0 (box W.heap.size cs t::Γ) (W.alloc (.cells cs.toArray t)) :=
 h.grow (World.grownBy_alloc W _ none) ⟨h.size,heap_alloc_new W _⟩ (fun g hg=>by injection hg with hg;omega)
theorem Sep.store (h:Sep w0 F0 Γ W) {g t j:Nat} {cs:List Value} (u:Value) (hp:Put Γ (box g cs t) (box g (cs.set j u) t) Γ'):Sep w0 F0 Γ' (W.setCell ⟨g,j,none⟩ u):=by
 refine h.put hp ⟨rfl,rfl,rfl,by simp [World.setCell],fun k hk hne=>Below.heap_setCell _ _ _ _ (fun e=>hne (by rw [e];rfl))⟩ (fun g' hg'=>.inl hg') ?_;intro _ _ hr;refine ⟨hr.1,?_⟩;have:=z06z (i:=j) (u:=u) hr.2;rw [this];simp
theorem Sep.freeze (h:Sep w0 F0 Γ W) {r r':Res} (hp:Put Γ r r' Γ') (hn:r'.block=none) (hr:(∀ b,Free w0.heap.size F0 Γ W b∨(r.block=some b∧w0.heap.size≤b∧b<W.heap.size)→Free w0.heap.size F0 Γ' W b)→r.holds w0.heap.size (Free w0.heap.size F0 Γ W) W→r'.holds w0.heap.size (Free w0.heap.size F0 Γ' W) W):Sep w0 F0 Γ' W:=by
 refine h.put hp ⟨rfl,rfl,rfl,zY0t _,fun _ _ _=>rfl⟩ (fun g hg=>by rw [hn] at hg;cases hg) ?_;intro hf _ hh;refine hr (fun b hb=>?_) hh;rcases hb with hb|⟨hb,h1,h2⟩
 ·exact hf b hb
 ·refine ⟨.inr ⟨h1,h2⟩,fun q hq e=>?_⟩
  obtain ⟨l1,l2,rfl,rfl⟩:=hp;have hp:=zY2c.1 h.dj;have hp2:=zY1p.1 hp.2.1;simp only [zY0z,zY0m] at hq;rcases hq with hq|rfl|hq
  ·exact hp.2.2 q hq r (by simp) b e hb
  ·rw [hn] at e;cases e
  ·exact hp2.1 q hq b hb e
end
def AggN (P:Program) (t:TypeId) (n:Nat):Prop:=∃ d,P.underlying t=some d∧d.isRow=true∧(P.info? t).map (·.size)=some n
def OneT (P:Program) (t:TypeId):Prop:=∃ d,P.underlying t=some d∧d.isRow=false∧(P.info? t).map (·.size)=some 1
def z5o (P:Program) (t:TypeId) (cs:List Value):Prop:=∃ z:Value,z.cells=cs.toArray∧∀ W,(zeroValue t).run P W = .ok z W
def SliceT (P:Program) (t e size bytes:Nat):Prop:=P.underlying t=some (.slice e)∧∃ i z,P.info? e=some i∧i.zero=some z∧i.size=size∧i.bytes=bytes∧z.cells.size=size
theorem SliceT.mk {P:Program} {t e size bytes:Nat} (h:P.underlying t=some (.slice e)) (h1:(P.info? e).map (fun i=>(i.zero.map (·.cells.size),i.size,i.bytes))=some (some size,size,bytes)):SliceT P t e size bytes:=by
 refine ⟨h,?_⟩
 match hh:P.info? e,h1 with
 | some i,h1 =>
  simp only [zY19,zY00,zY11] at h1
  match hz:i.zero,h1 with
  | some z,h1=>exact ⟨i,z,rfl,hz,h1.2.1,h1.2.2,by simpa using h1.1⟩
theorem AggN.mk {P:Program} {t n:Nat} {d:TypeDesc} (h:P.underlying t=some d) (hd:d.isRow=true) (hi:(P.info? t).map (·.size)=some n):AggN P t n:=⟨d,h,hd,hi⟩
theorem OneT.mk {P:Program} {t:Nat} {d:TypeDesc} (h:P.underlying t=some d) (hd:d.isRow=false) (hi:(P.info? t).map (·.size)=some 1):OneT P t:=⟨d,h,hd,hi⟩
theorem OneT.load {P:Program} {t:Nat} (h:OneT P t) {W:World} {p:Addr} {v:Value} (hv:W.cell? p=some v):(loadVar t p).run P W = .ok v W:=by
 obtain ⟨d,hu,hd,_⟩:=h;have hagg:(isAgg t).run P W = .ok false W:=by
  unfold isAgg;rw [Sem.run_bind,run_underlying hu W]
  cases d <;> simp_all
 simp [loadVar,Sem.run_bind,hagg,hv]
theorem AggN.load {P:Program} {t b o:Nat} {cs:List Value} (h:AggN P t cs.length) {W:World} (hv:W.rangeAt b o cs):(loadVar t ⟨b,o,none⟩).run P W = .ok (.agg cs.toArray) W:=by
 obtain ⟨d,hu,hd,hi⟩:=h;exact run_loadVar_mid W b o t cs d hv hu hd hi
theorem z027 {v:Value} (h:v.oneCell'=true):v.cells=#[v]:=by cases v <;> first|rfl|cases h
theorem OneT.store {P:Program} {t:Nat} (h:OneT P t) {W:World} {p:Addr} {v u:Value} (hv:W.cell? p=some u) (hf:W.frozen? p=false) (h1:v.oneCell'=true):(storeVar t p v).run P W = .ok () (W.setCell p v):=by
 obtain ⟨d,hu,hd,hi⟩:=h
 match hh:P.info? t,hi with
 | some i,hi =>
  simp at hi;have e:p.add 0=p:=by unfold Addr.add;simp
  simp [storeVar,sizeOf,typeInfo,hh,z027 h1,hi,storeCells,e,run_store P W p v _ h1,hv,hf]
theorem AggN.store {P:Program} {t g ty:Nat} {old cs:List Value} (h:AggN P t cs.length) {W:World} (hg:W.heap[g]? = some (.cells old.toArray ty (0,0))) (hl:old.length=cs.length) (h1:zcm cs) :
  (storeVar t ⟨g,0,none⟩ (.agg cs.toArray)).run P W = .ok () (W.setRow g cs.toArray):=by
 obtain ⟨d,hu,hd,hi⟩:=h;exact run_storeVar_row W g ty t old.toArray cs.toArray hg (by simpa using hi) (by simpa using hl) (all_oneCell_toArray h1)
def RV (w0:World) (F0:Nat→Prop) (Γ:List Res) (v:Value) (e:Ending) (W:World):Prop:=e = .returned v∧Sep w0 F0 Γ W
section
variable {P:Program} {w0 W:World} {F0:Nat→Prop} {Γ Γ' Γ1:List Res}
theorem Sep.old (h:Sep w0 F0 Γ W) {f:FuncId} {args:Array Value} {v:Value} (hc:Calls P f args W fun e w'=>e = .returned v∧Below W.heap.size W w'):Calls P f args W (RV w0 F0 Γ v) :=
 hc.mono fun e w' ⟨h1,h2⟩=>⟨h1,h.belows h2⟩
theorem Sep.oldS (h:Sep w0 F0 Γ W) {f:FuncId} {args:Array Value} {v:Value} (hc:Calls P f args W fun e w'=>e = .returned v∧W=w'):Calls P f args W (RV w0 F0 Γ v) :=
 hc.mono fun e w' ⟨h1,h2⟩=>⟨h1,h2 ▸ h⟩
theorem Sep.boxAt (h:Sep w0 F0 Γ W) {g t:Nat} {cs:List Value} (hm:At Γ (box g cs t)):W.rangeAt g 0 cs:=fun j v hv=>by
 rw [zY0v,z4j (h.get hm).2];simpa using hv
theorem Sep.cellsAt (h:Sep w0 F0 Γ W) {b o:Nat} {cs:List Value} (hm:At Γ (cells b o cs)):W.rangeAt b o cs:=(h.get hm).2
section
variable {ops:Array Oper} {Q:Exit→Act→World→Prop} {a:Act} {rest:List Oper} {o:Oper} {t:TypeId} {x y:Operand}
theorem Sep.wbox (h:Sep w0 F0 Γ W) {cs:List Value} (hgd:Region.wanted o (yielded ops a.tmps)=true) (ho:o.op = .box t x) (hx:(a.eval x).cells=cs.toArray)
  (k:∀ g W',Sep w0 F0 (box g cs t::Γ) W'→wpList P ops Q rest (a.put o.dst (.pointer (some ⟨g,0,none⟩))) W'):wpList P ops Q (o::rest) a W :=
 BigFrame.wpList_want hgd fun K hK=>by
  unfold Oper.wp execOp;simp only [ho,Instr.box,newVar,newRow,Sem.run_bind,run_newObj_alloc,Result.andThen_ok,Sem.run_pure,hx];exact hK _ _ (k _ _ (h.alloc cs t))
theorem Sep.walloc (h:Sep w0 F0 Γ W) {cs:List Value} (hgd:Region.wanted o (yielded ops a.tmps)=true) (ho:o.op = .alloc t) (hz:z5o P t cs)
  (k:∀ g W',Sep w0 F0 (box g cs t::Γ) W'→wpList P ops Q rest (a.put o.dst (.pointer (some ⟨g,0,none⟩))) W'):wpList P ops Q (o::rest) a W :=
 BigFrame.wpList_want hgd fun K hK=>by
  obtain ⟨z,hz1,hz2⟩:=hz;unfold Oper.wp execOp;simp only [ho,Instr.alloc,newVar,newRow,Sem.run_bind,run_newObj_alloc,Result.andThen_ok,Sem.run_pure,hz2,hz1];exact hK _ _ (k _ _ (h.alloc cs t))
theorem zfv (hgd:Region.wanted o (yielded ops a.tmps)=true) (ho:o.op = .load t x) {p:Addr} {v:Value} (hx:a.eval x = .pointer (some p)) (hr:(loadVar t p).run P W = .ok v W)
  (k:wpList P ops Q rest (a.put o.dst v) W):wpList P ops Q (o::rest) a W :=
 BigFrame.wpList_want hgd fun K hK=>by
  unfold Oper.wp execOp;simp only [ho,Instr.loadAt,Instr.sureAddr,Sem.run_bind,Result.andThen_ok,Sem.run_pure,hx,hr];exact hK _ _ k
theorem Sep.wload1b (h:Sep w0 F0 Γ W) (hgd:Region.wanted o (yielded ops a.tmps)=true) (ho:o.op = .load t x) {g j ty:Nat} {cs:List Value} {v:Value} (hx:a.eval x = .pointer (some ⟨g,j,none⟩)) (h1:OneT P t) (hm:At Γ (box g cs ty)) (hv:cs[j]? = some v)
  (k:wpList P ops Q rest (a.put o.dst v) W):wpList P ops Q (o::rest) a W:=by
 refine zfv hgd ho hx (h1.load ?_) k;have:=h.boxAt hm j v hv
 rwa [zY0v] at this
theorem Sep.wloadNb (h:Sep w0 F0 Γ W) (hgd:Region.wanted o (yielded ops a.tmps)=true) (ho:o.op = .load t x) {g ty:Nat} {cs:List Value} (hx:a.eval x = .pointer (some ⟨g,0,none⟩)) (hm:At Γ (box g cs ty)) (h1:AggN P t cs.length)
  (k:wpList P ops Q rest (a.put o.dst (.agg cs.toArray)) W):wpList P ops Q (o::rest) a W :=
 zfv hgd ho hx (h1.load (h.boxAt hm)) k
theorem Sep.wload1c (h:Sep w0 F0 Γ W) (hgd:Region.wanted o (yielded ops a.tmps)=true) (ho:o.op = .load t x) {b q j:Nat} {cs:List Value} {v:Value} (hx:a.eval x = .pointer (some ⟨b,q+j,none⟩)) (h1:OneT P t) (hm:At Γ (cells b q cs)) (hv:cs[j]? = some v)
  (k:wpList P ops Q rest (a.put o.dst v) W):wpList P ops Q (o::rest) a W :=
 zfv hgd ho hx (h1.load (h.cellsAt hm j v hv)) k
theorem Sep.wload1z (h:Sep w0 F0 Γ W) (hgd:Region.wanted o (yielded ops a.tmps)=true) (ho:o.op = .load t x) {b q:Nat} {cs:List Value} {v:Value} (hx:a.eval x = .pointer (some ⟨b,q,none⟩)) (h1:OneT P t) (hm:At Γ (cells b q cs)) (hv:cs[0]? = some v)
  (k:wpList P ops Q rest (a.put o.dst v) W):wpList P ops Q (o::rest) a W :=
 zfv hgd ho hx (h1.load (h.cellsAt hm 0 v hv)) k
theorem Sep.wloadNz (h:Sep w0 F0 Γ W) (hgd:Region.wanted o (yielded ops a.tmps)=true) (ho:o.op = .load t x) {b q:Nat} {cs:List Value} (hx:a.eval x = .pointer (some ⟨b,q,none⟩)) (hm:At Γ (cells b q cs)) (h1:AggN P t cs.length)
  (k:wpList P ops Q rest (a.put o.dst (.agg cs.toArray)) W):wpList P ops Q (o::rest) a W :=
 zfv hgd ho hx (h1.load (h.cellsAt hm)) k
theorem z08x (hgd:Region.wanted o (yielded ops a.tmps)=true) (ho:o.op = .store t x y) {p:Addr} {v:Value} {W':World} (hx:a.eval x = .pointer (some p)) (hy:a.eval y=v) (hr:(storeVar t p v).run P W = .ok () W')
  (k:wpList P ops Q rest (a.put o.dst undef) W'):wpList P ops Q (o::rest) a W :=
 BigFrame.wpList_want hgd fun K hK=>by
  unfold Oper.wp execOp;simp only [ho,Instr.storeAt,Instr.sureAddr,Sem.run_bind,Result.andThen_ok,Sem.run_pure,hx,hy,hr];exact hK _ _ k
theorem zzo {W:World} {g k:Nat} {cs:Array Value} (h:k≠g):(W.setRow g cs).heap[k]? = W.heap[k]?:=setRow_other W g k cs h
theorem Sep.setRow (h:Sep w0 F0 Γ W) {g ty:Nat} {cs cs':List Value} (hp:Put Γ (box g cs ty) (box g cs' ty) Γ'):Sep w0 F0 Γ' (W.setRow g cs'.toArray):=by
 refine h.put hp ⟨rfl,rfl,rfl,by simp,fun k hk hne=>zzo (fun e=>hne (by rw [e];rfl))⟩ (fun g' hg'=>.inl hg') ?_;intro _ _ hr;exact ⟨hr.1,setRow_heap W g cs.toArray cs'.toArray ty _ hr.2⟩
theorem Sep.wstoreNb (h:Sep w0 F0 Γ W) (hgd:Region.wanted o (yielded ops a.tmps)=true) (ho:o.op = .store t x y) {g ty:Nat} {cs cs':List Value} (hx:a.eval x = .pointer (some ⟨g,0,none⟩)) (hy:a.eval y = .agg cs'.toArray) (h1:AggN P t cs'.length) (hone:zcm cs')
  (hm:At Γ (box g cs ty)) (hl:cs.length=cs'.length) (hp:Put Γ (box g cs ty) (box g cs' ty) Γ')
  (k:∀ W',Sep w0 F0 Γ' W'→wpList P ops Q rest (a.put o.dst undef) W'):wpList P ops Q (o::rest) a W:=by
 have hb:=(h.get hm).2;exact z08x hgd ho hx hy (h1.store hb hl hone) (k _ (h.setRow hp))
end
end
theorem zvy (b off k:Nat):(Addr.mk b off none).add k=⟨b,off+k,none⟩:=by unfold Addr.add;split <;> simp_all
section
variable {P:Program} {w0 W:World} {F0:Nat→Prop} {Γ Γ' Γ1 Γ2:List Res}
theorem Del.sub {r:Res} (h:Del Γ r Γ1):Sub Γ1 Γ:=by
 obtain ⟨l1,l2,rfl,rfl⟩:=h;exact ⟨[r],by simpa using List.perm_middle.trans (List.perm_append_singleton r (l1++l2)).symm⟩
theorem Del.front {r:Res} (h:Del Γ r Γ1):Sub (r::Γ1) Γ:=Sub.take h Sub.refl
theorem Sep.del (h:Sep w0 F0 Γ W) {r:Res} (hd:Del Γ r Γ1):Sep w0 F0 Γ1 W:=h.sub hd.sub
theorem Sep.front (h:Sep w0 F0 Γ W) {r:Res} (hd:Del Γ r Γ1):Sep w0 F0 (r::Γ1) W:=h.sub hd.front
theorem Sep.elem (h:Sep w0 F0 Γ W) {α:Type} {S:Sh α} {xs:List α} {A:Option Addr} {n c i:Nat} (hm:At Γ (rds xs A n c S)) (hi:i<n) :
  ∃ b off z cs,A=some ⟨b,off,none⟩∧xs[i]? = some z∧Sep w0 F0 (cells b (off+i * S.size) cs::rep z cs S::Γ) W:=by
 have hr:Rds S W (Free w0.heap.size F0 Γ W) xs A n c:=h.get hm;obtain ⟨b,off,z,cs,e,hF,hx,hz,hc⟩:=hr.at_ hi;refine ⟨b,off,z,cs,e,hx,?_⟩;have h1:Sep w0 F0 (rep z cs S::Γ) W:=h.add rfl hz;exact h1.add rfl ⟨⟨hF.1,fun q hq=>by
  rcases zY0m.1 hq with rfl|hq
  ·intro e;cases e
  ·exact hF.2 q hq⟩,hc⟩
section
variable {ops:Array Oper} {Q:Exit→Act→World→Prop} {a:Act} {rest:List Oper} {o:Oper} {t:TypeId} {x y:Operand}
theorem z071 (a:Act) (i:Nat) (x:Operand):((#[(i,x)]:Array (Nat × Operand)).map fun (i,x)=>(i,a.eval x)).toList=(([a.eval x]).zipIdx i).map fun p=>(p.2,p.1):=by simp
theorem Sep.wbuild1 (h:Sep w0 F0 Γ W) (hgd:o.guard=none) (ho:o.op = .buildSlice t 1 #[(0,x)]) {e s bytes:Nat} {cs:List Value} (hT:SliceT P t e s bytes) (hs:0<s) (hs2:s≤1000) (hx:(a.eval x).cells=cs.toArray) (hc:cs.length=s)
  (k:∀ g W',Sep w0 F0 (box g cs e::Γ) W'→wpList P ops Q rest (a.put o.dst (.slice (some ⟨g,0,none⟩) 1 1)) W'):wpList P ops Q (o::rest) a W:=by
 obtain ⟨ht,ie,zv,he,hz,hsz,_,hzs⟩:=hT;refine wpList_buildSlice hgd t e 1 _ ho cs.toArray ie zv ht he hz (by rw [hsz];omega) (by rw [hsz];omega) ?_ (k _ _ (h.alloc cs e));rw [z071,hsz,Nat.one_mul];refine (Great.fill_whole hs [a.eval x] _ (fun v hv=>?_) (by simp)).trans ?_
 ·simp only [zY13] at hv
  subst hv;rw [hx];simpa using hc
 ·simp [hx]
theorem Sep.wappend1 (h:Sep w0 F0 Γ W) (hgd:o.guard=none) (ho:o.op = .call { callee:=.builtin .append,args:=#[x,y],argTypes:=#[t,t] }) {α:Type} {S:Sh α} {e bytes g:Nat} {v:Value} {xs:List α} {z:α} {cs:List Value}
  (hx:a.eval x=v) (hy:a.eval y = .slice (some ⟨g,0,none⟩) 1 1) (hb:Del Γ (box g cs e) Γ1) (hr:Del Γ1 (row e v xs S) Γ2) (hz:At Γ2 (rep z cs S)) (hT:SliceT P t e S.size bytes) (hpos:0<S.size) (hS1:S.ones) (hl:xs.length≤1000000) (hby:bytes≤10000)
  (k:∀ v' W',Sep w0 F0 (row e v' (xs++[z]) S::Γ2) W'→wpList P ops Q rest (a.put o.dst v') W'):wpList P ops Q (o::rest) a W:=by
 obtain ⟨ht,ie,zv,he,hz0,hsz,hbz,hzs⟩:=hT;have hbox:=h.get (Put.at_ (by obtain ⟨l1,l2,rfl,rfl⟩:=hb;exact ⟨l1,l2,rfl,rfl⟩:Put Γ (box g cs e) (box g cs e) Γ));have h1:=(h.del hb).front hr;obtain ⟨zs,hz1,hz2,hz3⟩:=h1.get At.z;have hrep:S.rep W _ z cs:=h1.get (At.s hz);have hlen:=S.len hrep;refine wpList_append_own_at W hgd x y t ho w0.heap.size e ie zv S.size bytes ht he hz0 hsz hbz hzs hpos v xs.length (flat zs) hx hz2 ⟨g,0,none⟩ 1 1 cs hy (by rw [hlen,Nat.one_mul])
  (fun j u hj=>by rw [zvy,zY0v,z4j hbox.2];simpa using hj) (hS1 hrep) (by unfold maxLen;omega) ?_ h.size ?_
 ·have:=Nat.mul_le_mul (show xs.length+1≤1000001 by omega) hby
  omega
 ·intro v' W' ho1 hgr _ hat
  refine k v' W' (h1.put (r':=row e v' (xs++[z]) S) Put.z hgr ?_ ?_)
  ·intro g' hg'
   rcases hat with h2|h2
   ·exact .inl (by rw [← hg'];exact h2.symm)
   ·rw [show (row e v' (xs++[z]) S).block=v'.ownBlock from rfl,h2] at hg'
    injection hg' with hg'
    exact .inr (Nat.le_of_eq hg')
  ·intro hfree hag _
   refine ⟨zs++[(z,cs)],by simp [hz1],?_,?_⟩
   ·rw [za1,zY01]
    simpa [flat] using ho1
   ·intro q hq
    rcases zY0z.1 hq with hq|hq
    ·exact S.more hfree (S.keep hag (hz3 q hq))
    ·simp only [zY13] at hq
     subst hq;exact S.more hfree (S.keep hag hrep)
theorem Sep.nilRow (h:Sep w0 F0 Γ W) {α:Type} (S:Sh α) (e:Nat):Sep w0 F0 (row e (.slice none 0 0) [] S::Γ) W :=
 h.grow ⟨rfl,rfl,rfl,zY0t _,fun _ _ _=>rfl⟩ ⟨[],rfl,World.ownsRow_nil _ _ _ _,by simp⟩ (fun g hg=>by cases hg)
end
theorem Sep.pure (h:Sep w0 F0 Γ W) {α:Type} {S:Sh α} {z:α} {cs:List Value} (hz:∀ W F,S.rep W F z cs):Sep w0 F0 (rep z cs S::Γ) W:=h.add rfl (hz _ _)
theorem Sep.open_int (h:Sep w0 F0 Γ W) {x:Int} {cs:List Value} (hm:At Γ (rep x cs shInt)):cs=[.int .i64 x]∧I64 x:=h.get hm
theorem Sep.open_point (h:Sep w0 F0 Γ W) {x:Point} {cs:List Value} (hm:At Γ (rep x cs shPoint)):cs=[.int .i64 x.tx,.int .i64 x.at_]∧I64 x.tx∧I64 x.at_:=zck (h.get hm)
theorem Sep.open_in (h:Sep w0 F0 Γ W) {x:In} {cs:List Value} (hm:At Γ (rep x cs shIn)):∃ A n c,cs=[.int .i64 x.p.tx,.int .i64 x.p.at_,.slice A n c]∧I64 x.p.tx∧I64 x.p.at_∧Sep w0 F0 (rds x.key A n c shOp::Γ) W:=by
 obtain ⟨A,n,c,e,h1,h2,h3⟩:=z01z (h.get hm);exact ⟨A,n,c,e,h1,h2,h.add rfl h3⟩
theorem Sep.open_out (h:Sep w0 F0 Γ W) {x:Out} {cs:List Value} (hm:At Γ (rep x cs shOut)):∃ A n c,cs=[.int .i64 x.coin,.slice A n c]∧I64 x.coin∧Sep w0 F0 (rds x.lock A n c shOp::Γ) W:=by
 obtain ⟨A,n,c,e,h1,h3⟩:=zhc (h.get hm);exact ⟨A,n,c,e,h1,h.add rfl h3⟩
theorem Sep.open_tx (h:Sep w0 F0 Γ W) {x:Tx} {cs:List Value} (hm:At Γ (rep x cs shTx)):∃ A n c A' n' c',cs=[.int .i64 x.height,.slice A n c,.slice A' n' c']∧I64 x.height∧Sep w0 F0 (rds x.ins A n c shIn::rds x.outs A' n' c' shOut::Γ) W:=by
 obtain ⟨A,n,c,A',n',c',e,h1,h3,h4⟩:=zoa (h.get hm);exact ⟨A,n,c,A',n',c',e,h1,h.add2 rfl rfl h3 h4⟩
theorem Sep.getRds (h:Sep w0 F0 Γ W) {α:Type} {S:Sh α} {xs:List α} {A:Option Addr} {n c:Nat} (hm:At Γ (rds xs A n c S)):Rds S W (Free w0.heap.size F0 Γ W) xs A n c:=h.get hm
theorem Sep.ltsRds (h:Sep w0 F0 Γ W) {α:Type} {S:Sh α} {xs:List α} {A:Option Addr} {n c:Nat} (hm:At Γ (rds xs A n c S)):Rds S W (Lt W.heap.size) xs A n c:=h.lts hm
theorem Sep.getRow (h:Sep w0 F0 Γ W) {α:Type} {S:Sh α} {e:Nat} {v:Value} {xs:List α} (hm:At Γ (row e v xs S)):∃ zs:List (α × List Value),zs.map (·.1)=xs∧W.ownsRow w0.heap.size e S.size v xs.length (flat zs)∧∀ z ∈ zs,S.rep W (Free w0.heap.size F0 Γ W) z.1 z.2:=h.get hm
theorem Sep.putRow {W':World} {α:Type} {S:Sh α} {e:Nat} {v:Value} {xs xs':List α} (h:Sep w0 F0 (Proofs.YtjknfjbpmdfphaaGreat.row e v xs S::Γ) W) (hg:W.grownBy W' v.ownBlock)
  (hr:(∀ b,Free w0.heap.size F0 (Proofs.YtjknfjbpmdfphaaGreat.row e v xs S::Γ) W b→Free w0.heap.size F0 (Proofs.YtjknfjbpmdfphaaGreat.row e v xs' S::Γ) W' b)→Agree (Free w0.heap.size F0 (Proofs.YtjknfjbpmdfphaaGreat.row e v xs S::Γ) W) W W'→∀ zs:List (α × List Value),zs.map (·.1)=xs→W.ownsRow w0.heap.size e S.size v xs.length (flat zs)→(∀ z ∈ zs,S.rep W (Free w0.heap.size F0 (Proofs.YtjknfjbpmdfphaaGreat.row e v xs S::Γ) W) z.1 z.2) →
   ∃ zs:List (α × List Value),zs.map (·.1)=xs'∧W'.ownsRow w0.heap.size e S.size v xs'.length (flat zs)∧∀ z ∈ zs,S.rep W' (Free w0.heap.size F0 (Proofs.YtjknfjbpmdfphaaGreat.row e v xs' S::Γ) W') z.1 z.2):Sep w0 F0 (Proofs.YtjknfjbpmdfphaaGreat.row e v xs' S::Γ) W' :=
 h.put (r:=Proofs.YtjknfjbpmdfphaaGreat.row e v xs S) (r':=Proofs.YtjknfjbpmdfphaaGreat.row e v xs' S) Put.z hg (fun g hg=>.inl hg) (fun hf ha ⟨zs,h1,h2,h3⟩=>hr hf ha zs h1 h2 h3)
theorem Sep.len (h:Sep w0 F0 Γ W) {α:Type} {S:Sh α} {xs:List α} {A:Option Addr} {n c:Nat} (hm:At Γ (rds xs A n c S)):xs.length=n∧n≤c∧c≤9223372036854775807:=⟨(h.getRds hm).1,(h.getRds hm).2.1,(h.getRds hm).2.2.1⟩
theorem Sep.addRds (h:Sep w0 F0 Γ W) {α:Type} {S:Sh α} {xs:List α} {A:Option Addr} {n c:Nat} (hr:Rds S W (Free w0.heap.size F0 Γ W) xs A n c):Sep w0 F0 (rds xs A n c S::Γ) W:=h.add rfl hr
theorem Sep.addRep (h:Sep w0 F0 Γ W) {α:Type} {S:Sh α} {x:α} {cs:List Value} (hr:S.rep W (Free w0.heap.size F0 Γ W) x cs):Sep w0 F0 (rep x cs S::Γ) W:=h.add rfl hr
end
attribute [irreducible] zoi rds rep cells box row At Put Del Sub
end
section
open Go.RowKit
set_option maxRecDepth 100000
def eqB {α:Type} [DecidableEq α] (xs ys:List α):Bool:=decide (xs=ys)
end
section
open Go.RowKit
set_option maxRecDepth 100000
theorem Rds.op {w:World} {F:Nat→Prop} {xs:List Op} {A:Option Addr} {n c k:Nat} (h:Rds shOp w F xs A n c) (hk:k<n) :
  ∃ b off x,A=some ⟨b,off,none⟩∧F b∧xs[k]? = some x∧(w.cell? ⟨b,off+k * 2,none⟩=some (.int .i64 x.kind)∧w.cell? ⟨b,off+k * 2+1,none⟩=some (.int .i64 x.n))∧I64 x.kind∧I64 x.n:=by
 obtain ⟨b,off,x,cs,e,hF,hx,hr,hc⟩:=h.at_ hk;obtain ⟨rfl,h1,h2⟩:=z08u hr;exact ⟨b,off,x,e,hF,hx,⟨by simpa [shOp,z2b,shInt] using hc 0 _ rfl,by simpa [shOp,z2b,shInt] using hc 1 _ rfl⟩,h1,h2⟩
theorem z050 (xs ys:List (Op)) (A A':Option Addr) (n c n' c':Nat) (w:World) (F F':Nat→Prop) (h:Rds shOp w F xs A n c) (h':Rds shOp w F' ys A' n' c') :
  Calls Tryz.prog 59 #[.slice A n c,.slice A' n' c'] w fun e w'=>e = .returned (.bool (eqB xs ys))∧∃ m,w'=w.drewN m:=by
 have hn:=h.2.1;have hc:=h.2.2.1;have hn':=h'.2.1;have hc':=h'.2.2.1
 by_cases hl:n=n'
 ·obtain rfl:=hl
  go_enter Tryz.func59,Tryz.ntmps59;go_wp2;go_loopw [5,13] (fun _ i wr=>∃ (k m:Nat),k≤n∧i = .int .i64 k∧wr=w.drewN m∧xs.take k=ys.take k) (fun _ i _=>n - (intOf i).toNat)
  case atStart=>exact ⟨0,0,by omega,rfl,rfl,rfl⟩
  case round =>
   obtain ⟨k,m,hk,rfl,rfl,hs⟩:=hrel
   by_cases hlt:k<n
   ·obtain ⟨b,off,x,rfl,-,hx,hcell,x0⟩:=h.op hlt
    obtain ⟨b',off',y,rfl,-,hy,hcell',y0⟩:=h'.op hlt;have Hs:=Lib.hid hs;have Hx:=Lib.hid hx;have Hy:=Lib.hid hy;have i1:(0:Int)≤(k:Int):=by omega
    have i2:(k:Int)<(n:Int):=by omega
    clear hs hx hy h h' x0 y0
    by_cases hxy:x=y
    ·subst hxy
     go_wp2;go_quiet (fail);go_wp2;go_roundw
     case measure=>simp [intOf];omega
     case rel=>exact ⟨k+1,_,by omega,by go_num,rfl,by rw [z3d Hx.out,z3d Hy.out,Hs.out]⟩
    ·have hne:eqB xs ys=false:=by
      have:xs≠ys:=fun e=>hxy (by have:=Hx.out;rw [e,Hy.out] at this;injection this with this;exact this.symm)
      simp [eqB,this]
     obtain ⟨xk,xn⟩:=x;obtain ⟨yk,yn⟩:=y
     by_cases h1:xk=yk
     ·subst h1
      have h2:(xn == yn)=false:=by simpa using hxy
      clear hxy;go_wp2;go_quiet (fail);go_wp2
      all_goals (go_ret;refine ⟨z3h ?_,_,World.drewN_drewN _ _ _⟩;exact hne.symm)
     ·have h2:(xk == yk)=false:=by simpa using h1
      clear hxy h1;go_wp2;go_quiet (fail);go_wp2
      all_goals (go_ret;refine ⟨z3h ?_,_,World.drewN_drewN _ _ _⟩;exact hne.symm)
   ·obtain rfl:k=n:=by omega
    have Hs:=Lib.hid hs;clear hs;go_wp2;go_ret;refine ⟨z3h ?_,_,rfl⟩;have:=Hs.out;rw [zY0u (by have:=h.1;omega),zY0u (by have:=h'.1;omega)] at this;simp [eqB,this]
 ·have hd:((n:Int) == (n':Int))=false:=by simp;omega
  have e:eqB xs ys=false:=by
   have:xs≠ys:=fun e=>hl (by rw [← h.1,← h'.1,e])
   simp [eqB,this]
  rw [e];clear hl e;go_enter Tryz.func59,Tryz.ntmps59;go_wp2;go_ret;exact ⟨rfl,0,rfl⟩
def z24 {α:Type} [DecidableEq α] (x:α):List α→Nat→Int
 | [],_ => -1
 | y::l,k=>if x=y then k else z24 x l (k+1)
def idx {α:Type} [DecidableEq α] (xs:List α) (x:α):Int:=z24 x xs 0
def za3 {α:Type} [DecidableEq α] (xs:List α) (x:α):Bool:=decide (x ∈ xs)
theorem z028 {α:Type} [DecidableEq α] (x:α) (l:List α) (k:Nat):(0≤z24 x l k↔x ∈ l):=by
 induction l generalizing k with
 | nil=>simp [z24]
 | cons y l ih =>
  by_cases h:x=y
  ·subst h;simp [z24]
  ·rw [z24,if_neg h,ih (k+1)];simp [h]
theorem z074 {α:Type} [DecidableEq α] (xs:List α) (x:α):(0≤idx xs x↔x ∈ xs):=z028 x xs 0
end
section
open Go.RowKit
set_option maxRecDepth 100000
end
section
open Go.RowKit
set_option maxRecDepth 100000
theorem ziq {w w':World} {base e size n:Nat} {v:Value} {xs:List Value} (h:w.ownsRow base e size v n xs) (hb:Below w.heap.size w w'):w'.ownsRow base e size v n xs:=by
 refine ⟨h.1,?_⟩;rcases h.2 with h0|⟨g,cap,cur,hv,hg,hh,r⟩
 ·exact .inl h0
 ·refine .inr ⟨g,cap,cur,hv,hg,?_,r⟩
  rw [hb.block g ?_]
  ·exact hh
  ·rcases zY1w g w.heap.size with h|h
   ·exact h
   ·rw [zY14 h] at hh;cases hh
theorem zw0 {w:World} {base e size n:Nat} {v:Value} {xs:List Value} (h:w.ownsRow base e size v n xs) {p:Addr} (hp:p.block<base) (u:Value):(w.setCell p u).ownsRow base e size v n xs:=ownsRow_setCell_below h hp u
theorem z029:∃ i z,Tryz.prog.info? 3=some i∧i.zero=some z∧i.size=1∧i.bytes=8∧z.cells.size=1:=by
 have h1:(Tryz.prog.info? 3).map (fun i=>(i.zero.map (·.cells.size),i.size,i.bytes))=some (some 1,1,8):=by kernel_rfl
 match hh:Tryz.prog.info? 3,h1 with
 | some i,h1 =>
  simp only [zY19,zY00,zY11] at h1
  match hz:i.zero,h1 with
  | some z,h1=>exact ⟨i,z,rfl,hz,h1.2.1,h1.2.2,by simpa using h1.1⟩
end
section
open Go.RowKit
set_option maxRecDepth 100000
def z3v (o:Op):Int:=if o.kind<1∨13<o.kind then 4 else if (o.kind≠1∧o.n≠0)∨o.n < -1000000∨1000000<o.n then 3 else 0
def z3w:List Op→Int
 | []=>0
 | o::l=>if z3v o≠0 then z3v o else z3w l
def zd (l:List Op):Int:=if 16<l.length then 2 else z3w l
theorem z87 (xs:List Op) (A:Option Addr) (n c:Nat) (w:World) (F:Nat→Prop) (h:Rds shOp w F xs A n c) (hF:∀ b,F b→b<w.heap.size) :
  Calls Tryz.prog 25 #[.slice A n c] w fun e w'=>e = .returned (.int .i64 (zd xs))∧Below w.heap.size w w':=by
 have hn:=h.2.1;have hc:=h.2.2.1;have hl:=h.1
 by_cases h16:16<n
 ·have e:zd xs=2:=by simp only [zd];rw [if_pos (by omega)]
  rw [e];clear e hl;go_enter Tryz.func25,Tryz.ntmps25;go_wp2;go_ret;exact ⟨rfl,Below.refl _ _⟩
 ·have e:zd xs=z3w xs:=by simp only [zd];rw [if_neg (by omega)]
  rw [e];have HR:=Lib.hid h;have HLN:=Lib.hid hl;clear e hl h;go_enter Tryz.func25,Tryz.ntmps25;go_wp2;go_loopw [4,10] (fun _ i wr=>∃ k:Nat,k≤n∧i = .int .i64 k∧Below w.heap.size w wr∧z3w (xs.drop k)=z3w xs) (fun _ i _=>n - (intOf i).toNat)
  case atStart=>exact ⟨0,by omega,rfl,Below.refl _ _,rfl⟩
  case round =>
   obtain ⟨k,hk,rfl,hb,hs⟩:=hrel
   by_cases hlt:k<n
   ·obtain ⟨b,off,x,rfl,hFb,hx,⟨hc1,hc2⟩,-,-⟩:=HR.out.op hlt
    rw [z2u hx,z3w] at hs;rw [← hb.cell (p:=⟨b,off+k * 2,none⟩) (hF b hFb)] at hc1;rw [← hb.cell (p:=⟨b,off+k * 2+1,none⟩) (hF b hFb)] at hc2;have HB:=Lib.hid (hb.alloc hb.size (.cells #[.int .i64 x.kind,.int .i64 x.n] 54));clear hx hb;have i1:(0:Int)≤(k:Int):=by omega
    have i2:(k:Int)<(n:Int):=by omega
    obtain ⟨xk,xn⟩:=x;simp only at hc1 hc2 HB;rcases Classical.em (xk<1∨13<xk) with hk1|hk1
    ·have e:z3v ⟨xk,xn⟩=4:=by simp only [z3v];rw [if_pos hk1]
     rw [e,if_pos (by decide)] at hs;have HS:=Lib.hid hs;clear hs e;rcases Classical.em (xk<1) with hk2|hk2
     ·clear hk1
      go_wp2;go_ret;exact ⟨z0h HS.out,HB.out⟩
     ·have hk3:13<xk:=by omega
      clear hk1;go_wp2;go_ret;exact ⟨z0h HS.out,HB.out⟩
    ·have g1:¬ xk<1:=by omega
     have g2:¬ 13<xk:=by omega
     have e0:z3v ⟨xk,xn⟩=if (xk≠1∧xn≠0)∨xn < -1000000∨1000000<xn then 3 else 0:=by simp only [z3v];rw [if_neg hk1]
     rw [e0] at hs;clear hk1 e0;rcases Classical.em ((xk≠1∧xn≠0)∨xn < -1000000∨1000000<xn) with h3|h3
     ·rw [if_pos h3,if_pos (by decide)] at hs
      have HS:=Lib.hid hs;clear hs
      by_cases h4:xk≠1∧xn≠0
      ·have k1:(xk != 1)=true:=by simpa using h4.1
       have k2:(xn != 0)=true:=by simpa using h4.2
       clear h3 h4;go_wp2;go_ret;exact ⟨z0h HS.out,HB.out⟩
      ·by_cases h5:xk=1
       ·subst h5
        clear h4;rcases Classical.em (xn < -1000000) with h6|h6
        ·clear h3
         go_wp2;go_ret;exact ⟨z0h HS.out,HB.out⟩
        ·have h7:1000000<xn:=by omega
         clear h3;go_wp2;go_ret;exact ⟨z0h HS.out,HB.out⟩
       ·exfalso;omega
     ·rw [if_neg h3,if_neg (by decide)] at hs
      have HS:=Lib.hid hs;clear hs;have h6:¬ xn < -1000000:=by omega
      have h7:¬ 1000000<xn:=by omega
      by_cases h5:xk=1
      ·subst h5
       clear h3;go_wp2;go_roundw
       case measure=>simp [intOf];omega
       case rel=>exact ⟨k+1,by omega,by go_num,HB.out,HS.out⟩
      ·obtain rfl:xn=0:=by omega
       have k1:(xk != 1)=true:=by simpa using h5
       clear h3 h5;go_wp2;go_roundw
       case measure=>simp [intOf];omega
       case rel=>exact ⟨k+1,by omega,by go_num,HB.out,HS.out⟩
   ·obtain rfl:k=n:=by omega
    rw [zY26 (by rw [HLN.out];omega),z3w] at hs;have HS:=Lib.hid hs;clear hs;go_wp2;go_ret;exact ⟨z0h HS.out,hb⟩
end
section
open Go.RowKit
set_option maxRecDepth 100000
def z62 (n:Int):Int:=if 0≤n∧n≤1000000000 then 0 else 3
theorem z88 (n:Int) (w:World):Calls Tryz.prog 61 #[.int .i64 n] w fun e w'=>e = .returned (.int .i64 (z62 n))∧w=w':=by
 go_enter Tryz.func61,Tryz.ntmps61;go_wp2
 all_goals (go_ret;refine ⟨z0h ?_,rfl⟩;unfold z62;first|(rw [if_pos (by omega)])|(rw [if_neg (by omega)]))
def z7n:List Int→Int→Int × Int
 | [],a=>(a,0)
 | x::l,a=>if 0≤x∧x≤1000000000 then (if 1000000000<a+x then (0,12) else z7n l (a+x)) else (0,3)
def z2l (l:List Int):Int × Int:=z7n l 0
theorem z07g (xs:List Int) (A:Option Addr) (n c:Nat) (w:World) (F:Nat→Prop) (h:Rds shInt w F xs A n c) :
  Calls Tryz.prog 43 #[.slice A n c] w fun e w'=>e = .returned (.tuple #[.int .i64 (z2l xs).1,.int .i64 (z2l xs).2])∧w=w':=by
 have hn:=h.2.1;have hc:=h.2.2.1;go_enter Tryz.func43,Tryz.ntmps43;go_wp2;go_loop [4,10] (fun a i=>∃ (k:Nat) (aa:Int),k≤n∧i = .int .i64 k∧a = .int .i64 aa∧0≤aa∧aa≤1000000000∧z7n (xs.drop k) aa=z2l xs) (fun _ i=>n - (intOf i).toNat)
 case atStart=>exact ⟨0,0,by omega,rfl,rfl,by omega,by omega,rfl⟩
 case round =>
  obtain ⟨k,aa,hk,rfl,rfl,a0,a1,hs⟩:=hrel
  by_cases hlt:k<n
  ·obtain ⟨b,off,x,rfl,-,hx,hcell,x0,x1⟩:=h.int hlt
   rw [z2u hx,z7n] at hs;have Hs:=Lib.hid hs;clear hs hx h
   by_cases hv:0≤x∧x≤1000000000
   ·obtain ⟨v0,v1⟩:=hv
    have e:z62 x=0:=by unfold z62;rw [if_pos ⟨v0,v1⟩]
    have E:=Lib.hid e;clear e
    by_cases hf:1000000000<aa+x
    ·go_wp2_with (go_at_call 61;refine (z88 _ _).mono ?_;rintro e w' ⟨rfl,rfl⟩;rw [E.out])
     go_ret2;have:=Hs.out;rw [if_pos (by omega),if_pos (by omega)] at this;exact ⟨z71 (by rw [← this]) (by rw [← this]),rfl⟩
    ·go_wp2_with (go_at_call 61;refine (z88 _ _).mono ?_;rintro e w' ⟨rfl,rfl⟩;rw [E.out])
     go_round
     case measure=>simp [intOf];omega
     case rel =>
      have:=Hs.out;rw [if_pos (by omega),if_neg (by omega)] at this;exact ⟨k+1,_,by omega,by go_num,rfl,by omega,by omega,this⟩
   ·have e:z62 x=3:=by unfold z62;rw [if_neg hv]
    have E:=Lib.hid e;clear e;have hv':x<0∨1000000000<x:=by omega
    have Hv:=Lib.hid hv;clear hv;go_wp2_with (go_at_call 61;refine (z88 _ _).mono ?_;rintro e w' ⟨rfl,rfl⟩;rw [E.out]);go_ret2;have:=Hs.out;rw [if_neg Hv.out] at this;exact ⟨z71 (by rw [← this]) (by rw [← this]),rfl⟩
  ·obtain rfl:k=n:=by omega
   have Hs:=Lib.hid hs;clear hs;go_wp2;go_ret2;have:=Hs.out;rw [zY26 (by have:=h.1;omega)] at this;exact ⟨z71 (by rw [← this];rfl) (by rw [← this];rfl),rfl⟩
def z63 (n:Int):Bool:=decide (0≤n) && decide (n≤1000000000)
theorem z9e (n:Int) (w:World):Calls Tryz.prog 52 #[.int .i64 n] w fun e w'=>e = .returned (.bool (z63 n))∧w=w':=by
 go_enter Tryz.func52,Tryz.ntmps52;go_wp2
 all_goals (go_ret;refine ⟨z3h ?_,rfl⟩;unfold z63;(simp;omega))
theorem z02l (xs:List Int) (A:Option Addr) (n c:Nat) (w:World) (F:Nat→Prop) (h:Rds shInt w F xs A n c) :
  Calls Tryz.prog 28 #[.slice A n c] w fun e w'=>e = .returned (.tuple #[.int .i64 (z2l xs).1,.int .i64 (z2l xs).2])∧w=w':=by
 have hn:=h.2.1;have hc:=h.2.2.1;go_enter Tryz.func28,Tryz.ntmps28;go_wp2;go_loop [4,9] (fun a i=>∃ (k:Nat) (aa:Int),k≤n∧i = .int .i64 k∧a = .int .i64 aa∧0≤aa∧aa≤1000000000∧z7n (xs.drop k) aa=z2l xs) (fun _ i=>n - (intOf i).toNat)
 case atStart=>exact ⟨0,0,by omega,rfl,rfl,by omega,by omega,rfl⟩
 case round =>
  obtain ⟨k,aa,hk,rfl,rfl,a0,a1,hs⟩:=hrel
  by_cases hlt:k<n
  ·obtain ⟨b,off,x,rfl,-,hx,hcell,x0,x1⟩:=h.int hlt
   rw [z2u hx,z7n] at hs;have Hs:=Lib.hid hs;clear hs hx h
   by_cases hv:0≤x∧x≤1000000000
   ·obtain ⟨v0,v1⟩:=hv
    have e:z63 x=true:=by simp [z63,v0,v1]
    have E:=Lib.hid e;clear e
    by_cases hf:1000000000<aa+x
    ·go_wp2_with (go_at_call 52;refine (z9e _ _).mono ?_;rintro e w' ⟨rfl,rfl⟩;rw [E.out])
     go_ret2;have:=Hs.out;rw [if_pos (by omega),if_pos (by omega)] at this;exact ⟨z71 (by rw [← this]) (by rw [← this]),rfl⟩
    ·go_wp2_with (go_at_call 52;refine (z9e _ _).mono ?_;rintro e w' ⟨rfl,rfl⟩;rw [E.out])
     go_round
     case measure=>simp [intOf];omega
     case rel =>
      have:=Hs.out;rw [if_pos (by omega),if_neg (by omega)] at this;exact ⟨k+1,_,by omega,by go_num,rfl,by omega,by omega,this⟩
   ·have e:z63 x=false:=by simp [z63];omega
    have E:=Lib.hid e;clear e;have Hv:=Lib.hid hv;clear hv;go_wp2_with (go_at_call 52;refine (z9e _ _).mono ?_;rintro e w' ⟨rfl,rfl⟩;rw [E.out]);go_ret2;have:=Hs.out;rw [if_neg Hv.out] at this;exact ⟨z71 (by rw [← this]) (by rw [← this]),rfl⟩
  ·obtain rfl:k=n:=by omega
   have Hs:=Lib.hid hs;clear hs;go_wp2;go_ret2;have:=Hs.out;rw [zY26 (by have:=h.1;omega)] at this;exact ⟨z71 (by rw [← this];rfl) (by rw [← this];rfl),rfl⟩
end
section
open Go.RowKit
set_option maxRecDepth 100000
theorem Rds.inn {w:World} {F:Nat→Prop} {xs:List In} {A:Option Addr} {n c k:Nat} (h:Rds shIn w F xs A n c) (hk:k<n) :
  ∃ b off x A' n' c',A=some ⟨b,off,none⟩∧F b∧xs[k]? = some x∧(w.cell? ⟨b,off+k * 3,none⟩=some (.int .i64 x.p.tx)∧w.cell? ⟨b,off+k * 3+1,none⟩=some (.int .i64 x.p.at_)∧w.cell? ⟨b,off+k * 3+2,none⟩=some (.slice A' n' c'))∧I64 x.p.tx∧I64 x.p.at_∧Rds shOp w F x.key A' n' c':=by
 obtain ⟨b,off,x,cs,e,hF,hx,hr,hc⟩:=h.at_ hk;obtain ⟨A',n',c',rfl,h1,h2,h3⟩:=z01z hr;exact ⟨b,off,x,A',n',c',e,hF,hx,⟨by simpa [shIn,shPoint,z2b,shInt,z0j] using hc 0 _ rfl,by simpa [shIn,shPoint,z2b,shInt,z0j] using hc 1 _ rfl,by simpa [shIn,shPoint,z2b,shInt,z0j] using hc 2 _ rfl⟩,h1,h2,h3⟩
theorem Rds.out_ {w:World} {F:Nat→Prop} {xs:List Out} {A:Option Addr} {n c k:Nat} (h:Rds shOut w F xs A n c) (hk:k<n) :
  ∃ b off x A' n' c',A=some ⟨b,off,none⟩∧F b∧xs[k]? = some x∧(w.cell? ⟨b,off+k * 2,none⟩=some (.int .i64 x.coin)∧w.cell? ⟨b,off+k * 2+1,none⟩=some (.slice A' n' c'))∧I64 x.coin∧Rds shOp w F x.lock A' n' c':=by
 obtain ⟨b,off,x,cs,e,hF,hx,hr,hc⟩:=h.at_ hk;obtain ⟨A',n',c',rfl,h1,h2⟩:=zhc hr;exact ⟨b,off,x,A',n',c',e,hF,hx,⟨by simpa [shOut,z2b,shInt,z0j] using hc 0 _ rfl,by simpa [shOut,z2b,shInt,z0j] using hc 1 _ rfl⟩,h1,h2⟩
theorem zzy (y:In) (A:Option Addr) (n c g:Nat) (x:In) (w:World) (h0:w.cell? ⟨g,0,none⟩=some (.int .i64 x.p.tx)) (h1:w.cell? ⟨g,1,none⟩=some (.int .i64 x.p.at_)) (hg:g<w.heap.size) :
  Calls Tryz.prog 42 #[.agg #[.int .i64 y.p.tx,.int .i64 y.p.at_,.slice A n c],.pointer (some ⟨g,0,none⟩)] w fun e w'=>e = .returned (.bool (decide (y.p=x.p)))∧Below w.heap.size w w':=by
 have hb:Below w.heap.size w (w.alloc (.cells #[.int .i64 y.p.tx,.int .i64 y.p.at_,.slice A n c] 61)):=(Below.refl _ _).alloc (zY0t _) _;have HB:=Lib.hid hb;have g0:(w.alloc (.cells #[.int .i64 y.p.tx,.int .i64 y.p.at_,.slice A n c] 61)).cell? ⟨g,0,none⟩=some (.int .i64 x.p.tx):=by rw [World.cell?_alloc_lt w _ _ hg];exact h0
 have g1:(w.alloc (.cells #[.int .i64 y.p.tx,.int .i64 y.p.at_,.slice A n c] 61)).cell? ⟨g,1,none⟩=some (.int .i64 x.p.at_):=by rw [World.cell?_alloc_lt w _ _ hg];exact h1
 clear hb h0 h1;obtain ⟨⟨yt,ya⟩,yk⟩:=y;obtain ⟨⟨xt,xa⟩,xk⟩:=x;simp only at g0 g1 HB ⊢
 by_cases e1:yt=xt
 ·subst e1
  by_cases e2:ya=xa
  ·subst e2
   go_enter Tryz.func42,Tryz.ntmps42;go_wp2
   all_goals skip
   go_ret;exact ⟨z3h (by simp),HB.out⟩
  ·go_enter Tryz.func42,Tryz.ntmps42
   go_wp2;go_ret;exact ⟨z3h (by simp [e2]),HB.out⟩
 ·go_enter Tryz.func42,Tryz.ntmps42
  go_wp2;go_ret;exact ⟨z3h (by simp [e1]),HB.out⟩
def z38 (xs:List In) (p:Point) (k:Nat):Int:=match xs with
 | [] => -1
 | y::l=>if y.p=p then k else z38 l p (k+1)
theorem zw4 (xs:List In) (A:Option Addr) (n c g:Nat) (x:In) (w:World) (F:Nat→Prop) (h:Rds shIn w F xs A n c) (hF:∀ b,F b→b<w.heap.size) (h0:w.cell? ⟨g,0,none⟩=some (.int .i64 x.p.tx)) (h1:w.cell? ⟨g,1,none⟩=some (.int .i64 x.p.at_)) (hg:g<w.heap.size) :
  Calls Tryz.prog 60 #[.slice A n c,.func (.func 42) #[] #[.pointer (some ⟨g,0,none⟩)]] w fun e w'=>e = .returned (.int .i64 (z38 xs x.p 0))∧Below w.heap.size w w':=by
 have hn:=h.2.1;have hc:=h.2.2.1;have hl:=h.1;have HR:=Lib.hid h;have HLN:=Lib.hid hl;have H0:=Lib.hid h0;have H1:=Lib.hid h1;clear h hl h0 h1;go_enter Tryz.func60,Tryz.ntmps60;go_wp2;go_loopw [5,8] (fun _ i wr=>∃ k:Nat,k≤n∧i = .int .i64 k∧Below w.heap.size w wr∧z38 (xs.drop k) x.p k=z38 xs x.p 0) (fun _ i _=>n - (intOf i).toNat)
 case atStart=>exact ⟨0,by omega,rfl,Below.refl _ _,rfl⟩
 case round =>
  obtain ⟨k,hk,rfl,hb,hs⟩:=hrel
  by_cases hlt:k<n
  ·obtain ⟨b,off,y,A',n',c',rfl,hFb,hx,⟨hc1,hc2,hc3⟩,-,-,-⟩:=HR.out.inn hlt
   rw [z2u hx,z38] at hs;rw [← hb.cell (p:=⟨b,off+k * 3,none⟩) (hF b hFb)] at hc1;rw [← hb.cell (p:=⟨b,off+k * 3+1,none⟩) (hF b hFb)] at hc2;rw [← hb.cell (p:=⟨b,off+k * 3+2,none⟩) (hF b hFb)] at hc3;have HB:=Lib.hid hb;have i1:(0:Int)≤(k:Int):=by omega
   have i2:(k:Int)<(n:Int):=by omega
   have hcall:=fun (W:World) (hW:Below w.heap.size w W)=>zzy y A' n' c' g x W (by rw [hW.cell (p:=⟨g,0,none⟩) hg];exact H0.out) (by rw [hW.cell (p:=⟨g,1,none⟩) hg];exact H1.out) (zY1h hg hW.size)
   have HC:=Lib.hid hcall;clear hx hb hcall
   by_cases hy:y.p=x.p
   ·rw [if_pos hy] at hs
    have HS:=Lib.hid hs;have hd:decide (y.p=x.p)=true:=by simpa using hy
    have HD:=Lib.hid hd;clear hs hy hd;go_wp2_with (go_at_call 42;refine (HC.out _ HB.out).mono ?_;rintro e w2 ⟨rfl,hb2⟩;rw [HD.out]);go_ret;exact ⟨z0h HS.out,HB.out.trans (hb2.mono HB.out.size)⟩
   ·rw [if_neg hy] at hs
    have HS:=Lib.hid hs;have hd:decide (y.p=x.p)=false:=by simpa using hy
    have HD:=Lib.hid hd;clear hs hy hd;go_wp2_with (go_at_call 42;refine (HC.out _ HB.out).mono ?_;rintro e w2 ⟨rfl,hb2⟩;rw [HD.out]);go_roundw
    case measure=>simp [intOf];omega
    case rel=>exact ⟨k+1,by omega,by go_num,HB.out.trans (hb2.mono HB.out.size),HS.out⟩
  ·obtain rfl:k=n:=by omega
   rw [zY26 (by rw [HLN.out];omega),z38] at hs;have HS:=Lib.hid hs;clear hs;go_wp2;go_ret;exact ⟨z0h HS.out,hb⟩
theorem zhp (xs:List In) (A:Option Addr) (n c g:Nat) (x:In) (w:World) (F:Nat→Prop) (h:Rds shIn w F xs A n c) (hF:∀ b,F b→b<w.heap.size) (h0:w.cell? ⟨g,0,none⟩=some (.int .i64 x.p.tx)) (h1:w.cell? ⟨g,1,none⟩=some (.int .i64 x.p.at_)) (hg:g<w.heap.size) :
  Calls Tryz.prog 41 #[.slice A n c,.func (.func 42) #[] #[.pointer (some ⟨g,0,none⟩)]] w fun e w'=>e = .returned (.bool (decide (0≤z38 xs x.p 0)))∧Below w.heap.size w w':=by
 have HC:=Lib.hid (zw4 xs A n c g x w F h hF h0 h1 hg);clear h hF h0 h1 hg;generalize z38 xs x.p 0=j at HC ⊢;go_enter Tryz.func41,Tryz.ntmps41;go_wp2_with fail;refine HC.out.mono ?_;rintro e w1 ⟨rfl,hb⟩;rcases Classical.em (0≤j) with hj|hj
 ·go_wp2_with fail
  go_ret;exact ⟨z3h (by simp [hj]),hb⟩
 ·go_wp2_with fail
  go_ret;exact ⟨z3h (by (simp;done)),hb⟩
def z2r (x:In):Int:=if x.p.tx<1∨120<x.p.tx∨x.p.at_<0∨6≤x.p.at_ then 3 else zd x.key
def z0x:List In→List In→Int
 | [],_=>0
 | x::l,seen=>if z2r x≠0 then z2r x else if 0≤z38 seen x.p 0 then 6 else z0x l (seen++[x])
def z31 (x:Out):Int:=if x.coin<1 then 3 else zd x.lock
def z0u:List Out→Int
 | []=>0
 | x::l=>if z31 x≠0 then z31 x else z0u l
def z1v (t:Tx):Int:=if 6<t.ins.length∨6<t.outs.length then 2 else if t.outs.length=0 then 4 else if (t.ins.length=0∧(t.height<1∨1000<t.height))∨(0<t.ins.length∧t.height≠0) then 3 else 0
def zr (t:Tx):Int:=if z1v t≠0 then z1v t else if z0x t.ins []≠0 then z0x t.ins [] else if z0u t.outs≠0 then z0u t.outs else (z2l (t.outs.map Out.coin)).2
set_option maxHeartbeats 1000000 in
theorem zw5 (t:Tx) (cs:List Value) (w:World) (F:Nat→Prop) (h:shTx.rep w F t cs) (hF:∀ b,F b→b<w.heap.size) :
  Calls Tryz.prog 15 #[.agg cs.toArray] w fun e w'=>e = .returned (.int .i64 (zr t))∧Below w.heap.size w w':=by
 obtain ⟨A1,n1,c1,A2,n2,c2,rfl,hh,hi,ho⟩:=zoa h
 obtain ⟨th,ins,outs⟩:=t
 simp only at hi ho hh ⊢
 have hl1:=hi.1
 have hn1:=hi.2.1
 have hc1:=hi.2.2.1
 have hl2:=ho.1
 have hn2:=ho.2.1
 have hc2:=ho.2.2.1
 have HI:=Lib.hid hi
 have HO:=Lib.hid ho
 have hB:=(Below.refl w.heap.size w).alloc (zY0t _) (.cells #[.int .i64 th,.slice A1 n1 c1,.slice A2 n2 c2] 26)
 have hblk:=heap_alloc_new w (.cells #[.int .i64 th,.slice A1 n1 c1,.slice A2 n2 c2] 26)
 have HB:=Lib.hid hB
 have HK:=Lib.hid hblk
 clear hi ho h hh hB hblk
 by_cases h0:z1v ⟨th,ins,outs⟩=0
 ·simp only [z1v] at h0
  rw [hl1,hl2] at h0
  have a1:¬ (6<n1∨6<n2):=fun e=>by rw [if_pos e] at h0;cases h0
  rw [if_neg a1] at h0
  have a2:¬ n2=0:=fun e=>by rw [if_pos e] at h0;cases h0
  rw [if_neg a2] at h0
  have a3:¬ ((n1=0∧(th<1∨1000<th))∨(0<n1∧th≠0)):=fun e=>by rw [if_pos e] at h0;cases h0
  have e:zr ⟨th,ins,outs⟩=if z0x ins []≠0 then z0x ins [] else if z0u outs≠0 then z0u outs else (z2l (outs.map Out.coin)).2:=by
   have:¬ z1v ⟨th,ins,outs⟩≠0:=by simp only [z1v];rw [hl1,hl2,if_neg a1,if_neg a2,if_neg a3];decide
   simp only [zr];rw [if_neg this]
  obtain ⟨R,hR⟩:∃ R,R=if z0x ins []≠0 then z0x ins [] else if z0u outs≠0 then z0u outs else (z2l (outs.map Out.coin)).2:=⟨_,rfl⟩
  rw [e,← hR]
  have R1:=Lib.hid (show ∀ v,v=z0x ins []→v≠0→v=R from fun v hv h=>by rw [hR,← hv,if_pos h])
  have R2:=Lib.hid (show z0x ins []=0→∀ v,v=z0u outs→v≠0→v=R from fun h0 v hv h=>by rw [hR,h0,← hv,if_neg (by decide),if_pos h])
  have R3:=Lib.hid (show z0x ins []=0→z0u outs=0→(z2l (outs.map Out.coin)).2=R from fun h0 h1=>by rw [hR,h0,h1,if_neg (by decide),if_neg (by decide)])
  clear hR
  have m1:n1≤6:=by omega
  have m2:n2≤6:=by omega
  have m3:0<n2:=by omega
  have L1:=Lib.hid hl1
  have L2:=Lib.hid hl2
  clear e h0 a1 a2 hl1 hl2 hn1 hn2 hc1 hc2
  obtain ⟨i0,zv,hi,hz0,hz1,hz2,hz3⟩:=z029
  have hi1:=HI.out.2.1
  have hi2:=HI.out.2.2.1
  have ho1:=HO.out.2.1
  have ho2:=HO.out.2.2.1
  go_enter Tryz.func15,Tryz.ntmps15
  rcases (show (n1=0∧¬ th<1∧¬ 1000<th)∨(0<n1∧th=0) by omega) with ⟨g1,g2,g3⟩|⟨g1,g2⟩
  case' inl =>
   have q1:((n1:Int) == 0)=true:=by simp [g1]
   have q4:¬ (0:Int)<(n1:Int):=by omega
   clear a3 g1
   go_wp2
   rename_i z0 z1 z2 z3
   clear z1 z0
  case' inr =>
   have q1:((n1:Int) == 0)=false:=by simp;omega
   have q4:(0:Int)<(n1:Int):=by omega
   have q5:(th != 0)=false:=by simp [g2]
   clear a3 g1 g2
   go_wp2
  all_goals (
   go_loopw [3,4,5,54] (fun _ _ _ i wr=>∃ k:Nat,k≤n1∧i = .int .i64 k∧Below w.heap.size w wr∧wr.heap[w.heap.size]? = some (.cells #[.int .i64 th,.slice A1 n1 c1,.slice A2 n2 c2] 26 (0,0))∧z0x (ins.drop k) (ins.take k)=z0x ins []) (fun _ _ _ i _=>n1 - (intOf i).toNat)
   case atStart=>exact ⟨0,by omega,rfl,HB.out,HK.out,rfl⟩
   case round =>
    obtain ⟨k,hk,rfl,hb,hbox,hs⟩:=hrel
    have Hb:=Lib.hid hb
    have Hbox:=Lib.hid hbox
    have hwz:=z025 hbox
    clear hb hbox q1 q4
    rcases Classical.em (k<n1) with hlt|hlt
    ·obtain ⟨b,off,x,A',n',c',rfl,hFb,hx,⟨hc1,hc2,hc3⟩,-,-,hrk⟩:=HI.out.inn hlt
     have hbx:=z4j (i:=1) Hbox.out
     have hFw:=hF b hFb
     rw [← Hb.out.cell (p:=⟨b,off+k * 3,none⟩) hFw] at hc1
     rw [← Hb.out.cell (p:=⟨b,off+k * 3+1,none⟩) hFw] at hc2
     rw [← Hb.out.cell (p:=⟨b,off+k * 3+2,none⟩) hFw] at hc3
     rw [z2u hx,z0x] at hs
     have HT:=Lib.hid (z3d hx)
     have HW:=Lib.hid (Hb.out.alloc Hb.out.size (.cells #[.int .i64 x.p.tx,.int .i64 x.p.at_,.slice A' n' c'] 61))
     have HRK:=Lib.hid ((hrk.keep ((Agree.below HW.out).mono hF)).more (F':=Lt (wr.alloc (.cells #[.int .i64 x.p.tx,.int .i64 x.p.at_,.slice A' n' c'] 61)).heap.size) fun b hb=>by have:=hF b hb;show b<_;simp;omega)
     have HBX:=Lib.hid (z7w (g:=w.heap.size) Hbox.out ((Below.refl wr.heap.size wr).alloc (zY0t _) (.cells #[.int .i64 x.p.tx,.int .i64 x.p.at_,.slice A' n' c'] 61)) hwz)
     have HNW:=Lib.hid (heap_alloc_new wr (.cells #[.int .i64 x.p.tx,.int .i64 x.p.at_,.slice A' n' c'] 61))
     have i1:(0:Int)≤(k:Int):=by omega
     have i2:(k:Int)<(n1:Int):=by omega
     clear hx hrk hFb
     by_cases hp:x.p.tx<1∨120<x.p.tx∨x.p.at_<0∨6≤x.p.at_
     ·have e:z2r x=3:=by simp only [z2r];rw [if_pos hp]
      rw [e,if_pos (by decide)] at hs
      have HS:=Lib.hid (R1.out 3 hs (by decide))
      clear e hs
      obtain ⟨⟨xt,xa⟩,xk⟩:=x
      simp only at hc1 hc2 hp HW
      rcases Classical.em (xt<1) with p1|p1
      ·clear hp
       go_wp2_with fail
       go_ret
       exact ⟨z0h HS.out,HW.out⟩
      ·rcases Classical.em (120<xt) with p2|p2
       ·clear hp
        go_wp2_with fail
        go_ret
        exact ⟨z0h HS.out,HW.out⟩
       ·rcases Classical.em (xa<0) with p3|p3
        ·clear hp
         go_wp2_with fail
         go_ret
         exact ⟨z0h HS.out,HW.out⟩
        ·have p4:6≤xa:=by omega
         clear hp
         go_wp2_with fail
         go_ret
         exact ⟨z0h HS.out,HW.out⟩
     ·have e:z2r x=zd x.key:=by simp only [z2r];rw [if_neg hp]
      rw [e] at hs
      have p1:¬ x.p.tx<1:=by omega
      have p2:¬ 120<x.p.tx:=by omega
      have p3:¬ x.p.at_<0:=by omega
      have p4:¬ 6≤x.p.at_:=by omega
      have HS:=Lib.hid hs
      clear e hp hs
      go_wp2_with fail
      generalize hW1:wr.alloc (.cells #[.int .i64 x.p.tx,.int .i64 x.p.at_,.slice A' n' c'] 61)=W1 at HW HRK HBX HNW ⊢
      have hsW:wr.heap.size<W1.heap.size:=by rw [← hW1];simp
      clear hW1
      refine (z87 _ _ _ _ _ _ HRK.out (fun b hb=>hb)).mono ?_
      rintro e w2 ⟨rfl,hb2⟩
      have HW2:=Lib.hid (HW.out.trans (hb2.mono HW.out.size))
      have HBX2:=Lib.hid (z7w HBX.out hb2 (by omega))
      have HNW2:=Lib.hid (z7w HNW.out hb2 hsW)
      have hz2':=hb2.size
      clear hb2 HW HRK HBX HNW
      by_cases he:zd x.key=0
      ·rw [he]
       have hs:=HS.out
       rw [he,if_neg (by decide)] at hs
       clear HS he
       have hbx2:=z4j (i:=1) HBX2.out
       go_wp2_with fail
       refine (zhp (ins.take k) _ k _ wr.heap.size x w2 (Lt w2.heap.size) (((HI.out.take (by omega)).keep ((Agree.below HW2.out).mono hF)).more fun b hb=>by have:=hF b hb;have:=HW2.out.size;show b<_;omega) (fun b hb=>hb) (by rw [z4j HNW2.out];rfl) (by rw [z4j HNW2.out];rfl) (by omega)).mono ?_
       rintro e w3 ⟨rfl,hb3⟩
       have HW3:=Lib.hid (HW2.out.trans (hb3.mono HW2.out.size))
       have HBX3:=Lib.hid (z7w HBX2.out hb3 (by omega))
       clear hb3 HW2 HBX2 HNW2 hbx2
       by_cases hx:0≤z38 (ins.take k) x.p 0
       ·rw [if_pos hx] at hs
        have hd:decide (0≤z38 (ins.take k) x.p 0)=true:=by simpa using hx
        rw [hd]
        have HS:=Lib.hid (R1.out 6 hs (by decide))
        clear hd hx hs
        go_wp2_with fail
        go_ret
        exact ⟨z0h HS.out,HW3.out⟩
       ·rw [if_neg hx] at hs
        have hd:decide (0≤z38 (ins.take k) x.p 0)=false:=by simpa using hx
        rw [hd]
        have HS:=Lib.hid hs
        clear hd hx hs
        go_wp2_with fail
        go_roundw
        case measure=>simp [intOf];omega
        case rel=>exact ⟨k+1,by omega,by go_num,HW3.out,HBX3.out,by rw [HT.out];exact HS.out⟩
      ·have hs:=HS.out
       rw [if_pos he] at hs
       have hd:(zd x.key != 0)=true:=by simpa using he
       have HS':=Lib.hid (R1.out _ hs he)
       clear HS he hs
       go_wp2_with fail
       go_ret
       exact ⟨z0h HS'.out,HW2.out⟩
    ·obtain rfl:n1=k:=by omega
     rw [zY26 (by rw [L1.out];omega),z0x] at hs
     have HS:=Lib.hid hs.symm
     have hbx:=z4j (i:=2) Hbox.out
     clear hs
     go_wp2_with fail
     go_loopw [6,8,9,97] (fun o _ _ i wr=>∃ k:Nat,k≤n2∧i = .int .i64 k∧Below w.heap.size w wr∧w.heap.size<wr.heap.size∧wr.ownsRow (w.heap.size+1) 3 1 o k (((outs.take k).map Out.coin).map (Value.int .i64))∧(∀ y ∈ outs.take k,I64 y.coin)∧z0u (outs.drop k)=z0u outs) (fun _ _ _ i _=>n2 - (intOf i).toNat)
     case atStart=>exact ⟨0,by omega,rfl,Hb.out,hwz,World.ownsRow_nil _ _ _ _,by simp,rfl⟩
     case round =>
      obtain ⟨k,hk,rfl,hb,hwq,hown,hob,hs'⟩:=hrel
      rcases Classical.em (k<n2) with hlt2|hlt2
      ·obtain ⟨b,off,x,A',n',c',rfl,hFb,hx,⟨hc1,hc2⟩,xi,hrk⟩:=HO.out.out_ hlt2
       have hFw:=hF b hFb
       rw [← hb.cell (p:=⟨b,off+k * 2,none⟩) hFw] at hc1
       rw [← hb.cell (p:=⟨b,off+k * 2+1,none⟩) hFw] at hc2
       rw [z2u hx,z0u] at hs'
       have HT:=Lib.hid (z3d hx)
       have hW:=hb.alloc hb.size (.cells #[.int .i64 x.coin,.slice A' n' c'] 47)
       have HW:=Lib.hid hW
       have HRK:=Lib.hid ((hrk.keep ((Agree.below hW).mono hF)).more (F':=Lt (wr.alloc (.cells #[.int .i64 x.coin,.slice A' n' c'] 47)).heap.size) fun b hb=>by have:=hF b hb;show b<_;simp;omega)
       have HNW:=Lib.hid (heap_alloc_new wr (.cells #[.int .i64 x.coin,.slice A' n' c'] 47))
       have HOW:=Lib.hid (ziq hown ((Below.refl wr.heap.size wr).alloc (zY0t _) (.cells #[.int .i64 x.coin,.slice A' n' c'] 47)))
       have HOB:=Lib.hid hob
       have i1:(0:Int)≤(k:Int):=by omega
       have i2:(k:Int)<(n2:Int):=by omega
       clear hx hrk hFb hW hown hob hb
       by_cases hp:x.coin<1
       ·have e:z31 x=3:=by simp only [z31];rw [if_pos hp]
        rw [e,if_pos (by decide)] at hs'
        have HS2:=Lib.hid (R2.out HS.out 3 hs' (by decide))
        clear e hs'
        go_wp2_with fail
        go_ret
        exact ⟨z0h HS2.out,HW.out⟩
       ·have e:z31 x=zd x.lock:=by simp only [z31];rw [if_neg hp]
        rw [e] at hs'
        have HS2:=Lib.hid hs'
        clear e hs'
        go_wp2_with fail
        generalize hW1:wr.alloc (.cells #[.int .i64 x.coin,.slice A' n' c'] 47)=W1 at HW HRK HNW HOW ⊢
        have hsW:wr.heap.size<W1.heap.size:=by rw [← hW1];simp
        clear hW1
        refine (z87 _ _ _ _ _ _ HRK.out (fun b hb=>hb)).mono ?_
        rintro e w2 ⟨rfl,hb2⟩
        have HW2:=Lib.hid (HW.out.trans (hb2.mono HW.out.size))
        have HNW2:=Lib.hid (z7w HNW.out hb2 hsW)
        have HOW2:=Lib.hid (ziq HOW.out hb2)
        have hz2':=hb2.size
        clear hb2 HW HRK HNW HOW
        by_cases he:zd x.lock=0
        ·rw [he]
         have hs:=HS2.out
         rw [he,if_neg (by decide)] at hs
         have HS3:=Lib.hid hs
         clear HS2 he hs
         have hcx:=z4j (i:=0) HNW2.out
         go_wp2_with (at_builtin;refine wpList_append_own_at _ rfl _ _ 67 rfl (w.heap.size+1) 3 i0 zv 1 8 Tryz.underlying67 hi hz0 hz1 hz2 hz3 (by omega) _ k (((outs.take k).map Out.coin).map (Value.int .i64)) rfl (HOW2.out.alloc _) ⟨w2.heap.size,0,none⟩ 1 1 [.int .i64 x.coin] rfl rfl (cell_one_new _ _ _) (by intro u hu;simp at hu;subst hu;rfl) (by unfold maxLen;omega) (by omega) (by simp;omega) ?_;intro v5 w5 hown5 hgr5 _ hob5)
         have hgr:(w2.alloc (.cells #[.int .i64 x.coin] 3)).grownBy w5 u6.ownBlock:=hgr5
         have hge:=fun k hk=>zfs HOW2.out (k:=k) hk
         go_roundw
         case measure=>simp [intOf];omega
         case rel =>
          have hs5:=hgr.size
          simp only [World.size_alloc] at hs5
          refine ⟨k+1,by omega,by go_num,(HW2.out.alloc HW2.out.size _).grown hgr (by have:=HW2.out.size;simp;omega) (fun k hk=>by have:=hge _ hk;omega),by omega,by rw [HT.out,zY27,zY27];exact hown5,?_,HS3.out⟩
          intro y hy
          rw [HT.out] at hy
          rcases zY0z.1 hy with h|h
          ·exact HOB.out y h
          ·simp at h;subst h;exact xi
        ·have hs:=HS2.out
         rw [if_pos he] at hs
         have hd:(zd x.lock != 0)=true:=by simpa using he
         have HS3:=Lib.hid (R2.out HS.out _ hs he)
         clear HS2 he hs
         go_wp2_with fail
         go_ret
         exact ⟨z0h HS3.out,HW2.out⟩
      ·obtain rfl:n2=k:=by omega
       rw [zY26 (by rw [L2.out];omega),z0u] at hs'
       have HS2:=Lib.hid (R3.out HS.out hs'.symm)
       rw [zY0u (by rw [L2.out];omega)] at hown hob
       have HBq:=Lib.hid hb
       obtain ⟨A',c',ev,hri⟩:=Rds.of_own_int hown (fun x hx=>by obtain ⟨y,hy,rfl⟩:=zY2h.1 hx;exact hob y hy)
       subst ev
       have HRI:=Lib.hid hri
       clear hs' hown hob hb hri
       go_wp2_with fail
       refine (z07g _ _ _ _ _ _ HRI.out).mono ?_
       rintro e w2 ⟨rfl,rfl⟩
       go_wp2_with fail
       go_ret
       exact ⟨z0h HS2.out,HBq.out⟩)
 ·have e:zr ⟨th,ins,outs⟩=z1v ⟨th,ins,outs⟩:=by simp only [zr];rw [if_pos h0]
  rw [e]
  clear e
  by_cases a1:6<n1∨6<n2
  ·have e:z1v ⟨th,ins,outs⟩=2:=by simp only [z1v];rw [if_pos (by rw [hl1,hl2];exact a1)]
   rw [e]
   clear e h0 hl1 hl2
   by_cases a:6<n1
   ·clear a1
    go_enter Tryz.func15,Tryz.ntmps15
    go_wp2
    go_ret
    exact ⟨rfl,HB.out⟩
   ·have a2:6<n2:=by omega
    clear a1
    go_enter Tryz.func15,Tryz.ntmps15
    go_wp2
    go_ret
    exact ⟨rfl,HB.out⟩
  ·by_cases a2:n2=0
   ·have e:z1v ⟨th,ins,outs⟩=4:=by simp only [z1v];rw [if_neg (by rw [hl1,hl2];exact a1),if_pos (by rw [hl2];exact a2)]
    rw [e]
    subst a2
    clear e h0 hl1 hl2
    go_enter Tryz.func15,Tryz.ntmps15
    go_wp2
    go_ret
    exact ⟨rfl,HB.out⟩
   ·have a3:(n1=0∧(th<1∨1000<th))∨(0<n1∧th≠0):=by
     apply Classical.byContradiction
     intro a3
     exact h0 (by simp only [z1v];rw [if_neg (by rw [hl1,hl2];exact a1),if_neg (by rw [hl2];exact a2),if_neg (by rw [hl1];exact a3)])
    have e:z1v ⟨th,ins,outs⟩=3:=by simp only [z1v];rw [if_neg (by rw [hl1,hl2];exact a1),if_neg (by rw [hl2];exact a2),if_pos (by rw [hl1];exact a3)]
    rw [e]
    have a4:0<n2:=by omega
    clear e h0 hl1 hl2 a2
    rcases a3 with ⟨rfl,a3⟩|⟨a3,a5⟩
    ·rcases Classical.em (th<1) with a5|a5
     ·clear a3
      go_enter Tryz.func15,Tryz.ntmps15
      go_wp2
      go_ret
      exact ⟨rfl,HB.out⟩
     ·have a6:1000<th:=by omega
      clear a3
      go_enter Tryz.func15,Tryz.ntmps15
      go_wp2
      go_ret
      exact ⟨rfl,HB.out⟩
    ·have a6:(th != 0)=true:=by simpa using a5
     clear a5
     go_enter Tryz.func15,Tryz.ntmps15
     go_wp2
     go_ret
     exact ⟨rfl,HB.out⟩
end
section
open Go.RowKit
set_option maxRecDepth 100000
theorem Rds.tx {w:World} {F:Nat→Prop} {xs:List Tx} {A:Option Addr} {n c k:Nat} (h:Rds shTx w F xs A n c) (hk:k<n) :
  ∃ b off x A1 n1 c1 A2 n2 c2,A=some ⟨b,off,none⟩∧F b∧xs[k]? = some x∧(w.cell? ⟨b,off+k * 3,none⟩=some (.int .i64 x.height)∧w.cell? ⟨b,off+k * 3+1,none⟩=some (.slice A1 n1 c1)∧w.cell? ⟨b,off+k * 3+2,none⟩=some (.slice A2 n2 c2))∧shTx.rep w F x [.int .i64 x.height,.slice A1 n1 c1,.slice A2 n2 c2]∧I64 x.height∧x.ins.length=n1:=by
 obtain ⟨b,off,x,cs,e,hF,hx,hr,hc⟩:=h.at_ hk;have hr':=hr;obtain ⟨A1,n1,c1,A2,n2,c2,rfl,h1,h2,h3⟩:=zoa hr;exact ⟨b,off,x,A1,n1,c1,A2,n2,c2,e,hF,hx,⟨by simpa [shTx,z99,z2b,shInt,z0j] using hc 0 _ rfl,by simpa [shTx,z99,z2b,shInt,z0j] using hc 1 _ rfl,by simpa [shTx,z99,z2b,shInt,z0j] using hc 2 _ rfl⟩,hr',h1,h2.1⟩
def zbf (b:Block):Prop:=b.parent<0∨120<b.parent∨b.height<1∨1000<b.height∨b.work<1∨1000<b.work∨b.nonce<0∨1000000000<b.nonce
instance (b:Block):Decidable (zbf b):=by unfold zbf;infer_instance
def zyo (b:Block):Int:=if zbf b then 3 else if 4<b.txs.length then 2 else if b.txs.length=0 then 4 else 0
def zzz (h:Int) (t:Tx) (i:Nat):Prop:=¬ (t.ins.length=0↔i=0)∨(i=0∧t.height≠h)
instance (h:Int) (t:Tx) (i:Nat):Decidable (zzz h t i):=by unfold zzz;infer_instance
def z000 (h:Int):List Tx→Nat→Int
 | [],_=>0
 | t::l,i=>if zr t≠0 then zr t else if zzz h t i then 4 else z000 h l (i+1)
def zbg (b:Block):Int:=if zyo b≠0 then zyo b else z000 b.height b.txs 0
end
section
open Go.RowKit
set_option maxRecDepth 100000
section
variable {P:Program} (w:World)
theorem ze1 (base:Nat) (t ty e:TypeId) (i:TypeInfo) (size:Nat) (ht:P.underlying t=some (.slice e)) (hi:P.info? e=some i)
  (v:Value) (n:Nat) (xs:List Value) (hown:w.ownsRow base e size v n xs) (c:Nat):(Builtin.append_ #[t,t] ty #[v,.slice none 0 c]).run P w = .ok v w:=by
 rcases hown.2 with ⟨rfl,rfl⟩|⟨g,cap,cur,rfl,_,_,hnc,_⟩
 ·simp [Builtin.append_,run_underlying ht,sizeOf,typeInfo,hi,Builtin.lenOf,Builtin.firstCells]
 ·simp [Builtin.append_,run_underlying ht,sizeOf,typeInfo,hi,Builtin.lenOf,Builtin.firstCells,hnc,storeCells]
theorem zhr {α:Type} {S:Sh α} (hS:S.ones) (base:Nat) (t ty e:TypeId) (i:TypeInfo) (z:Value) (bytes:Nat) (ht:P.underlying t=some (.slice e)) (hi:P.info? e=some i) (hz:i.zero=some z)
  (hsize:i.size=S.size) (hby:i.bytes=bytes) (hzs:z.cells.size=S.size) (hsz:0<S.size)
  (v:Value) (n:Nat) (cells:List Value) (hown:w.ownsRow base e S.size v n cells) {F:Nat→Prop} {xs:List α} {A:Option Addr} {m c:Nat} (hr:Rds S w F xs A m c)
  (h63:n+m≤maxLen) (hbytes:(n+m) * bytes≤140737488355328) (hbase:base≤w.heap.size) :
  ∃ v' w' ys,ys.map (·.1)=xs∧(∀ y ∈ ys,S.rep w F y.1 y.2)∧(Builtin.append_ #[t,t] ty #[v,.slice A m c]).run P w = .ok v' w'∧w'.ownsRow base e S.size v' (n+m) (cells++flat ys)∧w.grownBy w' v.ownBlock ∧
   (v'.ownBlock=v.ownBlock∨v'.ownBlock=some w.heap.size):=by
 obtain ⟨ys,y1,y2,y3⟩:=hr.pairs;have hl:ys.length=m:=by have:=congrArg List.length y1;simp at this;have:=hr.1;omega
 cases A with
 | none =>
  have h0:m=0:=by
   rcases zY1l m with h0|h0
   ·exact h0
   ·obtain ⟨b,off,e,_⟩:=y3 h0;cases e
  subst h0;have:ys=[]:=zY0b hl;subst this;exact ⟨v,w,[],y1,y2,ze1 w base t ty e i S.size ht hi v n cells hown c,by simpa [flat] using hown,World.grownBy.refl w _,.inl rfl⟩
 | some ad =>
  have hfl:(flat ys).length=m * S.size:=by rw [z46 (fun z hz=>S.len (y2 z hz)),hl]
  have hnews:∀ j u,(flat ys)[j]? = some u→w.cell? (ad.add j)=some u:=by
   intro j u hj;have hj':=(zY06.1 hj).1;have hm:0<m:=by
    rcases zY1l m with h0|h0
    ·rw [h0,Nat.zero_mul] at hfl;omega
    ·exact h0
   obtain ⟨b,off,e,hFb,hc⟩:=y3 hm;injection e with e
   subst e;rw [z5g];exact hc j u hj
  obtain ⟨v',w',hrun,h2,h3,_,h5⟩:=run_append_own_at (P:=P) w base t ty e i z S.size bytes ht hi hz hsize hby hzs hsz v n cells hown ad m c (flat ys) hfl hnews (zcn hS y2) h63 hbytes hbase;exact ⟨v',w',ys,y1,y2,hrun,h2,h3,h5⟩
theorem zjh {o:Oper} {a:Act} {K:Act→World→Prop} {Q:Exit→Act→World→Prop} (s x:Operand) (t:TypeId)
  (ho:o.op = .call { callee:=.builtin .append,args:=#[s,x],argTypes:=#[t,t] })
  {α:Type} {S:Sh α} (hS:S.ones) (base:Nat) (e:TypeId) (i:TypeInfo) (z:Value) (bytes:Nat) (ht:P.underlying t=some (.slice e)) (hi:P.info? e=some i) (hz:i.zero=some z)
  (hsize:i.size=S.size) (hby:i.bytes=bytes) (hzs:z.cells.size=S.size) (hsz:0<S.size)
  (v:Value) (n:Nat) (cells:List Value) (hs:a.eval s=v) (hown:w.ownsRow base e S.size v n cells) {F:Nat→Prop} {xs:List α} {A:Option Addr} {m c:Nat} (hx:a.eval x = .slice A m c) (hr:Rds S w F xs A m c)
  (h63:n+m≤maxLen) (hbytes:(n+m) * bytes≤140737488355328) (hbase:base≤w.heap.size)
  (h:∀ v' w' ys,ys.map (·.1)=xs→(∀ y ∈ ys,S.rep w F y.1 y.2)→w'.ownsRow base e S.size v' (n+m) (cells++flat ys)→w.grownBy w' v.ownBlock→(v'.ownBlock=v.ownBlock∨v'.ownBlock=some w.heap.size)→K (a.put o.dst v') w'):o.wp P a w K Q:=by
 obtain ⟨v',w',ys,y1,y2,hrun,h2,h3,h4⟩:=zhr (P:=P) w hS base t o.type e i z bytes ht hi hz hsize hby hzs hsz v n cells hown hr h63 hbytes hbase;unfold Oper.wp execOp;simp only [ho,resolve,invoke,builtin,Sem.run_bind,Sem.run_pure,Result.andThen_ok,zY32,zY1t,zY2z,hs,hx,hrun];exact h v' w' ys y1 y2 h2 h3 h4
theorem ze2 {ops:Array Oper} {rest:List Oper} {o:Oper} {a:Act} {Q:Exit→Act→World→Prop} (hgd:o.guard=none) (s x:Operand) (t:TypeId)
  (ho:o.op = .call { callee:=.builtin .append,args:=#[s,x],argTypes:=#[t,t] })
  {α:Type} {S:Sh α} (hS:S.ones) (base:Nat) (e:TypeId) (i:TypeInfo) (z:Value) (bytes:Nat) (ht:P.underlying t=some (.slice e)) (hi:P.info? e=some i) (hz:i.zero=some z)
  (hsize:i.size=S.size) (hby:i.bytes=bytes) (hzs:z.cells.size=S.size) (hsz:0<S.size)
  (v:Value) (n:Nat) (cells:List Value) (hs:a.eval s=v) (hown:w.ownsRow base e S.size v n cells) {F:Nat→Prop} {xs:List α} {A:Option Addr} {m c:Nat} (hx:a.eval x = .slice A m c) (hr:Rds S w F xs A m c)
  (h63:n+m≤maxLen) (hbytes:(n+m) * bytes≤140737488355328) (hbase:base≤w.heap.size)
  (h:∀ v' w' ys,ys.map (·.1)=xs→(∀ y ∈ ys,S.rep w F y.1 y.2)→w'.ownsRow base e S.size v' (n+m) (cells++flat ys)→w.grownBy w' v.ownBlock→(v'.ownBlock=v.ownBlock∨v'.ownBlock=some w.heap.size)→wpList P ops Q rest (a.put o.dst v') w'):wpList P ops Q (o::rest) a w :=
 wpList_plain hgd fun _ hK=>zjh w s x t ho hS base e i z bytes ht hi hz hsize hby hzs hsz v n cells hs hown hx hr h63 hbytes hbase fun v' w' ys h1 h2 h3 h4 h5=>hK _ _ (h v' w' ys h1 h2 h3 h4 h5)
end
theorem wpList_append_run {P:Program} {w w':World} {v':Value} {ops:Array Oper} {rest:List Oper} {o:Oper} {a:Act} {Q:Exit→Act→World→Prop} (hgd:o.guard=none) (s x:Operand) (t tn:TypeId)
  (ho:o.op = .call { callee:=.builtin .append,args:=#[s,x],argTypes:=#[t,tn] }) (vs vx:Value) (hs:a.eval s=vs) (hx:a.eval x=vx)
  (hrun:(Builtin.append_ #[t,tn] o.type #[vs,vx]).run P w = .ok v' w') (h:wpList P ops Q rest (a.put o.dst v') w'):wpList P ops Q (o::rest) a w :=
 wpList_plain hgd fun _ hK=>by
  unfold Oper.wp execOp;simp only [ho,resolve,invoke,builtin,Sem.run_bind,Sem.run_pure,Result.andThen_ok,zY32,zY1t,zY2z,hs,hx,hrun];exact hK _ _ h
theorem z02x {α:Type} {S:Sh α} {w:World} {F:Nat→Prop} {xss:List (List α)} {A:Option Addr} {n c k:Nat} (h:Rds (z0j S) w F xss A n c) (hk:k<n) :
  ∃ b off xs A' n' c',A=some ⟨b,off,none⟩∧F b∧xss[k]? = some xs∧w.cell? ⟨b,off+k,none⟩=some (.slice A' n' c')∧Rds S w F xs A' n' c':=by
 obtain ⟨b,off,xs,cs,e,hF,hx,⟨A',n',c',rfl,hr⟩,hc⟩:=h.at_ hk;exact ⟨b,off,xs,A',n',c',e,hF,hx,by simpa [z0j] using hc 0 _ rfl,hr⟩
def total {α:Type}:List (List α)→Nat
 | []=>0
 | xs::l=>xs.length+total l
theorem zgl {α:Type} {l:List (List α)} {k:Nat} {x:List α} (h:l[k]? = some x):total (l.take (k+1))=total (l.take k)+x.length:=by
 induction l generalizing k with
 | nil=>simp at h
 | cons y l ih =>
  cases k with
  | zero=>simp at h;subst h;simp [total]
  | succ k=>simp at h;simp [total,ih h];omega
theorem z8b {α:Type} (l:List (List α)) (k:Nat):total (l.take k)≤total l:=by
 induction l generalizing k with
 | nil=>simp [total]
 | cons y l ih =>
  cases k with
  | zero=>simp [total]
  | succ k=>simp [total];exact ih k
end
section
open Go.RowKit
set_option maxRecDepth 100000
theorem z02y (k:Nat) (w:World) (hk:k≤1000000) :
  Calls Tryz.prog 56 #[.slice none 0 0,.int .i64 k] w fun e w'=>∃ v,e = .returned v∧w'.ownsRow w.heap.size 57 6 v 0 []∧Below w.heap.size w w':=by
 obtain ⟨i0,zv,hi,hz0,hz1,hz2,hz3⟩:∃ i z,Tryz.prog.info? 57=some i∧i.zero=some z∧i.size=6∧i.bytes=64∧z.cells.size=6:=by
  have h1:(Tryz.prog.info? 57).map (fun i=>(i.zero.map (·.cells.size),i.size,i.bytes))=some (some 6,6,64):=by kernel_rfl
  match hh:Tryz.prog.info? 57,h1 with
  | some i,h1 =>
   simp only [zY19,zY00,zY11] at h1
   match hz:i.zero,h1 with
   | some z,h1=>exact ⟨i,z,rfl,hz,h1.2.1,h1.2.2,by simpa using h1.1⟩
 rcases zY1l k with h0|h0
 ·have h0':(k:Int)≤0:=by omega
  clear h0;go_enter Tryz.func56,Tryz.ntmps56;go_wp2;go_ret;exact ⟨_,rfl,World.ownsRow_nil _ _ _ _,Below.refl _ _⟩
 ·have h0':(0:Int)<(k:Int):=by omega
  have hrun:=Lib.run_append_grow_zeros (P:=Tryz.prog) w 22 3 22 57 i0 zv .i64 .i64 Tryz.underlying22 Tryz.underlying3 hi hz0 none 0 0 [] (by simp [Builtin.firstCells]) k h0 (by omega) (by omega) (by omega) (by rw [hz2];omega) (by
   have:Builtin.nextslicecap (0+k) 0=k:=by unfold Builtin.nextslicecap;rw [if_pos (by omega)];omega
   rw [this,hz2];omega)
  have hg:=grownCap_ge w (0+k) 0 57;have hg2:=grownCap_le_maxLen w (0+k) 0 57 (by unfold maxLen;omega);simp only [zY0v] at hrun hg hg2;generalize hG:grownCap w k 0 57=G at hrun hg hg2;clear hG;generalize hC:(List.toArray (α:=Value) []++Builtin.zeroCells zv.cells k++Builtin.zeroCells zv.cells (G - k))=C at hrun;have hCs:C.size=G * 6:=by
   rw [← hC];simp only [zY2o,zY2m,zY04,size_zeroCells,hz3];rw [zY0v,← Nat.add_mul];congr 1;omega
  clear hC hi hz0 hz1 hz2 hz3;have hgI:(0:Int)≤(G:Int):=by omega
  have HRUN:=Lib.hid hrun;clear hrun;go_enter Tryz.func56,Tryz.ntmps56;go_wp2_with (at_builtin;refine wpList_append_run rfl _ _ _ _ rfl _ _ rfl rfl HRUN.out ?_);go_ret;refine ⟨_,rfl,⟨by simp,.inr ⟨w.heap.size,G,C,rfl,zY0t _,heap_alloc_new w.drew _,by omega,hg2,hCs,by simp⟩⟩,?_⟩;exact (Below.refl _ _).drew.alloc (zY0t _) _
theorem zwp (xss:List (List (Coin))) (A:Option Addr) (n c:Nat) (w:World) (F:Nat→Prop) (h:Rds (z0j shCoin) w F xss A n c) (hF:∀ b,F b→b<w.heap.size) (hn:total xss≤1000000) :
  Calls Tryz.prog 33 #[.slice A n c] w (z9a shCoin 57 w F xss.flatten (total xss)):=by
 have hnc:=h.2.1;have hcc:=h.2.2.1;have hxl:=h.1;obtain ⟨i0,zv,hi,hz0,hz1,hz2,hz3⟩:∃ i z,Tryz.prog.info? 57=some i∧i.zero=some z∧i.size=6∧i.bytes=64∧z.cells.size=6:=by
  have h1:(Tryz.prog.info? 57).map (fun i=>(i.zero.map (·.cells.size),i.size,i.bytes))=some (some 6,6,64):=by kernel_rfl
  match hh:Tryz.prog.info? 57,h1 with
  | some i,h1 =>
   simp only [zY19,zY00,zY11] at h1
   match hz:i.zero,h1 with
   | some z,h1=>exact ⟨i,z,rfl,hz,h1.2.1,h1.2.2,by simpa using h1.1⟩
 have H:=Lib.hid h;clear h;go_enter Tryz.func33,Tryz.ntmps33;go_wp2;go_loop [3,5,11] (fun s _ i=>∃ k:Nat,k≤n∧i = .int .i64 k∧s = .int .i64 (total (xss.take k):Nat)) (fun _ _ i=>n - (intOf i).toNat)
 case atStart=>exact ⟨0,by omega,rfl,by simp [total]⟩
 case round =>
  obtain ⟨k,hk,rfl,rfl⟩:=hrel;have ht:=z8b xss k
  by_cases hlt:k<n
  ·obtain ⟨b,off,xs,A',n',c',rfl,hFb,hx,hcell,hr'⟩:=z02x H.out hlt
   have htt:=zgl hx;have ht2:=z8b xss (k+1);have hl':=hr'.1;have HL:=Lib.hid hl';have HT:=Lib.hid htt;have hb1:total (xss.take k)+n'≤1000000:=by omega
   clear htt hx ht2 hr' hl';have hl2:=hlt;go_wp2;go_round
   case measure=>simp [intOf];omega
   case rel=>exact ⟨k+1,by omega,by go_num,by rw [HT.out,← HL.out];rfl⟩
  ·obtain rfl:k=n:=by omega
   have e:xss.take k=xss:=zY0u (by omega);rw [e] at ht ⊢;have HX:=Lib.hid hxl;clear e hlt hxl ht;have h00:(0:Int)≤(total xss:Int):=by omega
   go_wp2_with fail;refine (z02y _ _ hn).mono ?_;rintro e w1 ⟨v1,rfl,hown1,hb1⟩;have HO1:=Lib.hid hown1;have HB1:=Lib.hid hb1;clear hown1 hb1;go_wp2_with fail;go_loopw [6,8,27] (fun s _ i wr=>∃ (k':Nat) (zs:List ((Coin) × List Value)),k'≤k∧i = .int .i64 k'∧zs.map (·.1)=(xss.take k').flatten∧(∀ z ∈ zs,(shCoin).rep w F z.1 z.2)∧wr.ownsRow w.heap.size 57 (shCoin).size s (total (xss.take k')) (flat zs)∧Below w.heap.size w wr) (fun _ _ i _=>k - (intOf i).toNat)
   case atStart=>exact ⟨0,[],by omega,rfl,rfl,by simp,HO1.out,HB1.out⟩
   case round =>
    obtain ⟨k',zs,hk',rfl,z1,z2,hown,hb⟩:=hrel
    by_cases hlt:k'<k
    ·obtain ⟨b,off,xs,A',n',c',rfl,hFb,hx,hcell,hr'⟩:=z02x H.out hlt
     rw [← hb.cell (p:=⟨b,off+k',none⟩) (hF b hFb)] at hcell;have htt:=zgl hx;have ht2:=z8b xss (k'+1);have hb1:total (xss.take k')+n'≤1000000:=by have:=hr'.1;omega
     have HR:=Lib.hid (hr'.keep ((Agree.below hb).mono hF));have HT:=Lib.hid htt;have HX2:=Lib.hid hx;have HO:=Lib.hid hown;have HB:=Lib.hid hb;have Z1:=Lib.hid z1;have Z2:=Lib.hid z2;clear hr' htt hx hown hb z1 z2 ht2;go_wp2_with (at_builtin;refine ze2 _ rfl _ _ 22 rfl zio w.heap.size 57 i0 zv 64 Tryz.underlying22 hi hz0 hz1 hz2 hz3 (by decide) _ (total (xss.take k')) (flat zs) rfl HO.out rfl HR.out (by unfold maxLen;omega) (by omega) HB.out.size ?_;intro v2 w2 ys y1 y2 hown2 hgr2 _);go_roundw
     case measure=>simp [intOf];omega
     case rel =>
      have hl2:=HR.out.1;refine ⟨k'+1,zs++ys,by omega,by go_num,?_,?_,?_,HB.out.grown hgr2 HB.out.size (fun j hj=>zfs HO.out hj)⟩
      ·rw [zY27,Z1.out,y1,z3d HX2.out,zY2r];simp
      ·intro z hz
       rcases zY0z.1 hz with h|h
       ·exact Z2.out z h
       ·exact (shCoin).keep (fun b hb=>(HB.out.block b (hF b hb)).symm) (y2 z h)
      ·rw [HT.out,hl2,za1];exact hown2
    ·obtain rfl:k'=k:=by omega
     rw [zY0u (by rw [HX.out];omega)] at z1 hown;have HO:=Lib.hid hown;have Z1:=Lib.hid z1;have Z2:=Lib.hid z2;clear hown z1 z2;go_wp2;go_ret;exact ⟨_,zs,rfl,Z1.out,Z2.out,HO.out,hb⟩
end
section
open Go.RowKit
theorem z0am:AggN Tryz.prog 54 2:=.mk Tryz.underlying54 rfl (by kernel_rfl)
theorem z_op:z5o Tryz.prog 54 [.int .i64 0,.int .i64 0]:=⟨.agg #[.int .i64 0,.int .i64 0],rfl,fun _=>by kernel_rfl⟩
theorem z05m:AggN Tryz.prog 49 2:=.mk Tryz.underlying49 rfl (by kernel_rfl)
theorem z0av:z5o Tryz.prog 49 [.int .i64 0,.int .i64 0]:=⟨.agg #[.int .i64 0,.int .i64 0],rfl,fun _=>by kernel_rfl⟩
theorem z0an:AggN Tryz.prog 61 3:=.mk Tryz.underlying61 rfl (by kernel_rfl)
theorem z_in:z5o Tryz.prog 61 [.int .i64 0,.int .i64 0,.slice none 0 0]:=⟨.agg #[.int .i64 0,.int .i64 0,.slice none 0 0],rfl,fun _=>by kernel_rfl⟩
theorem z09y:AggN Tryz.prog 47 2:=.mk Tryz.underlying47 rfl (by kernel_rfl)
theorem z0ao:z5o Tryz.prog 47 [.int .i64 0,.slice none 0 0]:=⟨.agg #[.int .i64 0,.slice none 0 0],rfl,fun _=>by kernel_rfl⟩
theorem z0ap:AggN Tryz.prog 26 3:=.mk Tryz.underlying26 rfl (by kernel_rfl)
theorem z_tx:z5o Tryz.prog 26 [.int .i64 0,.slice none 0 0,.slice none 0 0]:=⟨.agg #[.int .i64 0,.slice none 0 0,.slice none 0 0],rfl,fun _=>by kernel_rfl⟩
theorem z07r:AggN Tryz.prog 57 6:=.mk Tryz.underlying57 rfl (by kernel_rfl)
theorem z0az:z5o Tryz.prog 57 [.int .i64 0,.int .i64 0,.int .i64 0,.slice none 0 0,.int .i64 0,.bool false]:=⟨.agg #[.int .i64 0,.int .i64 0,.int .i64 0,.slice none 0 0,.int .i64 0,.bool false],rfl,fun _=>by kernel_rfl⟩
theorem z07s:AggN Tryz.prog 28 1:=.mk Tryz.underlying28 rfl (by kernel_rfl)
theorem z0b0:z5o Tryz.prog 28 [.slice none 0 0]:=⟨.agg #[.slice none 0 0],rfl,fun _=>by kernel_rfl⟩
theorem z07t:OneT Tryz.prog 3:=.mk Tryz.underlying3 rfl (by kernel_rfl)
theorem z0b3:z5o Tryz.prog 3 [.int .i64 0]:=⟨.int .i64 0,rfl,fun _=>by kernel_rfl⟩
theorem z07u:OneT Tryz.prog 9:=.mk Tryz.underlying9 rfl (by kernel_rfl)
theorem z0b4:z5o Tryz.prog 9 [.string ⟨#[]⟩]:=⟨.string ⟨#[]⟩,rfl,fun _=>by kernel_rfl⟩
theorem z05n:OneT Tryz.prog 4:=.mk Tryz.underlying4 rfl (by kernel_rfl)
theorem z0b1:z5o Tryz.prog 4 [.bool false]:=⟨.bool false,rfl,fun _=>by kernel_rfl⟩
theorem z03o:OneT Tryz.prog 29:=.mk Tryz.underlying29 rfl (by kernel_rfl)
theorem z0aw:z5o Tryz.prog 29 [.int .i64 0]:=⟨.int .i64 0,rfl,fun _=>by kernel_rfl⟩
theorem z07v:OneT Tryz.prog 45:=.mk Tryz.underlying45 rfl (by kernel_rfl)
theorem z00i:OneT Tryz.prog 65:=.mk Tryz.underlying65 rfl (by kernel_rfl)
theorem zrz:SliceT Tryz.prog 65 49 2 16:=.mk Tryz.underlying65 (by kernel_rfl)
theorem z07w:OneT Tryz.prog 23:=.mk Tryz.underlying23 rfl (by kernel_rfl)
theorem z05o:OneT Tryz.prog 24:=.mk Tryz.underlying24 rfl (by kernel_rfl)
theorem z03p:OneT Tryz.prog 22:=.mk Tryz.underlying22 rfl (by kernel_rfl)
theorem zhx:SliceT Tryz.prog 22 57 6 64:=.mk Tryz.underlying22 (by kernel_rfl)
theorem z05p:OneT Tryz.prog 67:=.mk Tryz.underlying67 rfl (by kernel_rfl)
theorem z03q:SliceT Tryz.prog 67 3 1 8:=.mk Tryz.underlying67 (by kernel_rfl)
theorem zas {t:Nat} (h:[3,29,4,9,45,65,23,24,22,67].contains t=true):OneT Tryz.prog t:=by
 have h':=zY21.1 h;simp only [zY0m,zY1j,or_false] at h';rcases h' with rfl|rfl|rfl|rfl|rfl|rfl|rfl|rfl|rfl|rfl
 ·exact z07t
 ·exact z03o
 ·exact z05n
 ·exact z07u
 ·exact z07v
 ·exact z00i
 ·exact z07w
 ·exact z05o
 ·exact z03p
 ·exact z05p
theorem z4r {t n:Nat} (h:[(54,2),(49,2),(61,3),(47,2),(26,3),(57,6),(28,1)].contains (t,n)=true):AggN Tryz.prog t n:=by
 have h':=zY21.1 h;simp only [zY0m,zY1j,or_false,zY11] at h';rcases h' with ⟨rfl,rfl⟩|⟨rfl,rfl⟩|⟨rfl,rfl⟩|⟨rfl,rfl⟩|⟨rfl,rfl⟩|⟨rfl,rfl⟩|⟨rfl,rfl⟩
 ·exact z0am
 ·exact z05m
 ·exact z0an
 ·exact z09y
 ·exact z0ap
 ·exact z07r
 ·exact z07s
end
section
open Go.RowKit
def Yl (P:Program) (w0:World) (F0:Nat→Prop) (Γ:List Res) (o:Oper) (a:Act) (v:Value):Prop:=∀ W,Sep w0 F0 Γ W→(execOp a.eval o).run P W = .ok (.value v) W
section
variable {P:Program} {w0 W:World} {F0:Nat→Prop} {Γ:List Res} {ops:Array Oper} {a:Act} {rest:List Oper} {o:Oper} {t:TypeId} {x y:Operand}
theorem Yl.pure {v:Value} (h:∀ W,(execOp a.eval o).run P W = .ok (.value v) W):Yl P w0 F0 Γ o a v:=fun W _=>h W
theorem Yl.move (ho:o.op = .move x):Yl P w0 F0 Γ o a (a.eval x):=fun W _=>by unfold execOp;simp only [ho];rfl
theorem Yl.assign (ho:o.op = .assign x):Yl P w0 F0 Γ o a (a.eval x):=fun W _=>by unfold execOp;simp only [ho];rfl
theorem Yl.load (ho:o.op = .load t x) {p:Addr} {v:Value} (hx:a.eval x = .pointer (some p)) (hr:∀ W,Sep w0 F0 Γ W→(loadVar t p).run P W = .ok v W):Yl P w0 F0 Γ o a v:=fun W hS=>by
 unfold execOp;simp only [ho,Instr.loadAt,Instr.sureAddr,Sem.run_bind,Result.andThen_ok,Sem.run_pure,hx,hr W hS]
theorem Sep.region (h:Sep w0 F0 Γ W) {id:Nat} {Q:Exit→Act→World→Prop} {l:List Oper} (hm:P.follows .mixedOrders=true) (hB:Region.lexB .any l.toArray=true)
  (k:wpQuiet P l.toArray (Sep w0 F0 Γ) (fun a'=>∀ W',Sep w0 F0 Γ W'→Q .normal a' W') l a):(Code.region id l.toArray true).wp P Q a W :=
 wp_region_quiet (C:=Sep w0 F0 Γ) hm hB h.drew (by simpa using k)
def z03z (late:List Nat) (listed:Array Bool):Bool:=late.any fun s=>listed.getD s false
variable {md:Region.Mode} {Q:Exit→Act→World→Prop} {S:World→Prop} {late:List Nat}
def zvf (P:Program) (md:Region.Mode) (ops:Array Oper) (Q:Exit→Act→World→Prop) (S:World→Prop) (late:List Nat):Nat→Array Bool→Act→World→Prop
 | 0,listed,a,w=>Region.ready md ops listed=[]∧Q .normal a w
 | fuel+1,listed,a,w =>
  (Region.ready md ops listed=[]→Q .normal a w) ∧
  ∀ i ∈ Region.ready md ops listed,wpOp P ops Q i (fun a' w'=>(z03z late (listed.setIfInBounds i true)=false→S w')∧zvf P md ops Q S late fuel (listed.setIfInBounds i true) a' w') a w
structure NextT (P:Program) (md:Region.Mode) (ops:Array Oper) (Q:Exit→Act→World→Prop) (S:World→Prop) (late:List Nat) (fuel:Nat) (listed:Array Bool) (a:Act) (w:World):Prop where
 s:z03z late listed=false→S w
 t:zvf P md ops Q S late fuel listed a w
end
def Got (P:Program) (W:World) (tmps:Array Value):ResultVar→Value→Prop
 | .tmp t,v=>tmps.getD t undef=v
 | .cell a t,v=>∃ p,tmps.getD a undef = .pointer (some p)∧(loadVar t p).run P W = .ok v W
def getR (tmps:Array Value):ResultVar→Sem Value
 | .tmp t=>Pure.pure (tmps.getD t undef)
 | .cell a t=>do loadVar t (← asAddr (tmps.getD a undef))
theorem Got.run {P:Program} {W:World} {tmps:Array Value} {r:ResultVar} {v:Value} (h:Got P W tmps r v):(getR tmps r).run P W = .ok v W:=by
 cases r with
 | tmp t=>simp only [Got] at h;simp only [getR,h,Sem.run_pure]
 | cell a t=>obtain ⟨p,h1,h2⟩:=h;simp only [getR,h1,asAddr,Sem.run_bind,Sem.run_pure,Result.andThen_ok,h2]
section
variable {P:Program} {w0 W:World} {F0:Nat→Prop} {Γ:List Res} {fn:Func} {tmps:Array Value} {r s q p:ResultVar} {v u x y:Value}
theorem Got.tmp {t:Tmp} (h:tmps.getD t undef=v):Got P W tmps (.tmp t) v:=h
end
attribute [irreducible] Yl zvf
end
section
open Go.RowKit
end
section
open Go.RowKit
section
variable {P:Program} {w0 W:World} {F0:Nat→Prop} {Γ Γ' Γ1:List Res}
variable {ops:Array Oper} {Q:Exit→Act→World→Prop} {a:Act} {rest:List Oper} {o:Oper} {t:TypeId} {x y:Operand}
end
end
section
open Go.RowKit
set_option maxRecDepth 100000
end
section
theorem z061 {α:Type} [DecidableEq α] (x:α) (l:List α) (k:Nat) (h:0≤z24 x l k):∃ j:Nat,z24 x l k=k+j∧l[j]? = some x:=by
 induction l generalizing k with
 | nil=>simp [z24] at h
 | cons y l ih =>
  by_cases hxy:x=y
  ·subst hxy;exact ⟨0,by simp [z24],by simp⟩
  ·rw [z24,if_neg hxy] at h ⊢
   obtain ⟨j,h1,h2⟩:=ih (k+1) h;exact ⟨j+1,by rw [h1];omega,by simpa using h2⟩
theorem z040 {α:Type} [DecidableEq α] {l:List α} {x:α} (h:0≤idx l x):∃ j:Nat,idx l x=j∧l[j]? = some x:=by
 obtain ⟨j,h1,h2⟩:=z061 x l 0 h;exact ⟨j,by unfold idx;omega,h2⟩
theorem zvg {α:Type} [DecidableEq α] (x:α) (l m:List α) (k:Nat) (h:0≤z24 x l k):z24 x (l++m) k=z24 x l k:=by
 induction l generalizing k with
 | nil=>simp [z24] at h
 | cons y l ih =>
  by_cases hxy:x=y
  ·subst hxy;simp [z24]
  ·rw [z24,if_neg hxy] at h
   rw [zY18,z24,if_neg hxy,z24,if_neg hxy];exact ih _ h
theorem z010 {α:Type} [DecidableEq α] {l m:List α} (hp:l <+: m) {x:α} (h:0≤idx l x):idx m x=idx l x:=by
 obtain ⟨r,rfl⟩:=hp;exact zvg x l r 0 h
end
section
open Go.RowKit
set_option maxRecDepth 100000
theorem Rds.blk {w:World} {F:Nat→Prop} {xs:List Block} {A:Option Addr} {n c k:Nat} (h:Rds shBlock w F xs A n c) (hk:k<n) :
  ∃ b off x A1 n1 c1,A=some ⟨b,off,none⟩∧F b∧xs[k]? = some x∧(w.cell? ⟨b,off+k * 5,none⟩=some (.int .i64 x.parent)∧w.cell? ⟨b,off+k * 5+1,none⟩=some (.int .i64 x.height)∧w.cell? ⟨b,off+k * 5+2,none⟩=some (.int .i64 x.work)∧w.cell? ⟨b,off+k * 5+3,none⟩=some (.int .i64 x.nonce)∧w.cell? ⟨b,off+k * 5+4,none⟩=some (.slice A1 n1 c1))∧shBlock.rep w F x [.int .i64 x.parent,.int .i64 x.height,.int .i64 x.work,.int .i64 x.nonce,.slice A1 n1 c1]:=by
 obtain ⟨b,off,x,cs,e,hF,hx,hr,hc⟩:=h.at_ hk;have hr':=hr;obtain ⟨A1,n1,c1,rfl,h1,h2,h3,h4,h5⟩:=z020 hr;exact ⟨b,off,x,A1,n1,c1,e,hF,hx,⟨by simpa [shBlock,zet,zcj,z99,z2b,shInt,z0j] using hc 0 _ rfl,by simpa [shBlock,zet,zcj,z99,z2b,shInt,z0j] using hc 1 _ rfl,by simpa [shBlock,zet,zcj,z99,z2b,shInt,z0j] using hc 2 _ rfl,by simpa [shBlock,zet,zcj,z99,z2b,shInt,z0j] using hc 3 _ rfl,by simpa [shBlock,zet,zcj,z99,z2b,shInt,z0j] using hc 4 _ rfl⟩,hr'⟩
def zdx (bs:List Block) (i:Int):Block:=(bs[i.toNat]?).getD ⟨0,0,0,0,[]⟩
def zdy (ns:List Int) (bs:List Block) (b:Block) (m:Nat):Int :=
 if b.parent=0 then (if b.height≠1 then 4 else 0)
 else if idx (ns.take m) b.parent<0 then 5 else if b.height≠(zdx bs (idx (ns.take m) b.parent)).height+1 then 4 else 0
end
section
open Go.RowKit
set_option maxRecDepth 100000
def zgy (ns:List Int) (k:Nat):Int:=(ns[k]?).getD 0
def zf8 (ns:List Int) (bs:List Block) (k:Nat) (n:Int) (b:Block):Int :=
 if n<1∨120<n then 3 else if zbg b≠0 then zbg b else if za3 (ns.take k) n=true then 6 else zdy ns bs b k
end
section
open Go.RowKit
structure TreeOK (ns:List Int) (bs:List Block):Prop where
 len:ns.length=bs.length
 le:ns.length≤24
 step:∀ k,k<ns.length→zf8 ns bs k (zgy ns k) (zdx bs k)=0
theorem zxw {ns:List Int} {bs:List Block} {k:Nat} {n:Int} {b:Block} (h:zf8 ns bs k n b=0):(1≤n∧n≤120)∧zbg b=0∧n ∉ ns.take k∧zdy ns bs b k=0:=by
 unfold zf8 at h
 by_cases h1:n<1∨120<n
 ·rw [if_pos h1] at h;cases h
 ·rw [if_neg h1] at h
  by_cases h2:zbg b=0
  ·rw [h2,if_neg (show ¬ ((0:Int)≠0) by decide)] at h
   by_cases h3:za3 (ns.take k) n=true
   ·rw [if_pos h3] at h;cases h
   ·rw [if_neg h3] at h
    exact ⟨by omega,h2,by simpa [za3] using h3,h⟩
  ·rw [if_pos h2] at h;exact absurd h h2
theorem z011 {ns:List Int} {bs:List Block} {k:Nat} {b:Block} (h:zdy ns bs b k=0):(b.parent=0∧b.height=1)∨(b.parent≠0∧∃ j:Nat,j<k∧idx ns b.parent=j∧ns[j]? = some b.parent∧b.height=(zdx bs j).height+1):=by
 unfold zdy at h
 by_cases h1:b.parent=0
 ·rw [if_pos h1] at h
  by_cases h2:b.height=1
  ·exact .inl ⟨h1,h2⟩
  ·rw [if_pos h2] at h;cases h
 ·rw [if_neg h1] at h
  by_cases h2:idx (ns.take k) b.parent<0
  ·rw [if_pos h2] at h;cases h
  ·rw [if_neg h2] at h
   by_cases h3:b.height=(zdx bs (idx (ns.take k) b.parent)).height+1
   ·obtain ⟨j,hj,hjs⟩:=z040 (show 0≤idx (ns.take k) b.parent by omega)
    have hp:=z010 (List.take_prefix k ns) (x:=b.parent) (by omega);have hlt:=(zY06.1 hjs).1;rw [zY12] at hjs
    split at hjs
    ·exact .inr ⟨h1,j,by assumption,by omega,hjs,by rw [hj] at h3;exact h3⟩
    ·cases hjs
   ·rw [if_pos h3] at h;cases h
def z5v (ns:List Int) (bs:List Block) (m:Int):Int:=(zdx bs (idx ns m)).parent
def remN (ns:List Int) (m:Int):Nat:=if m=0 then 0 else (idx ns m+1).toNat
theorem TreeOK.name {ns:List Int} {bs:List Block} (h:TreeOK ns bs) {m:Int} (hm:0≤idx ns m):1≤m∧m≤120∧∃ j:Nat,j<ns.length∧idx ns m=j∧zgy ns j=m∧(z5v ns bs m=0∨(z5v ns bs m≠0∧0≤idx ns (z5v ns bs m)∧idx ns (z5v ns bs m)<j)):=by
 obtain ⟨j,hj,hjs⟩:=z040 hm;have hlt:=(zY06.1 hjs).1;have hn:zgy ns j=m:=by simp [zgy,hjs]
 obtain ⟨⟨a,b⟩,c,d,e⟩:=zxw (h.step j hlt);refine ⟨by omega,by omega,j,hlt,hj,hn,?_⟩;have hp:z5v ns bs m=(zdx bs j).parent:=by unfold z5v;rw [hj]
 rw [hp];rcases z011 e with ⟨h1,h2⟩|⟨h1,i,hi,hi2,hi3,hi4⟩
 ·exact .inl h1
 ·exact .inr ⟨h1,by omega,by omega⟩
theorem TreeOK.rem {ns:List Int} {bs:List Block} (h:TreeOK ns bs) {m:Int} (h0:m≠0) (hm:0≤idx ns m):remN ns (z5v ns bs m)<remN ns m:=by
 obtain ⟨_,_,j,hj,he,_,hp⟩:=h.name hm;unfold remN;rw [if_neg h0];rcases hp with hp|⟨hp,h1,h2⟩
 ·rw [if_pos hp];omega
 ·rw [if_neg hp];omega
end
section
open Go.RowKit Go.Shelf
set_option maxRecDepth 100000
end
section
open Go.RowKit
set_option maxRecDepth 100000
end
section
open Go.RowKit
set_option maxRecDepth 100000
end
section
open Go.RowKit
set_option maxRecDepth 100000
end
section
open Go.RowKit
attribute [local semireducible] zoi rds rep cells box row At Put Del Sub
section
variable {P:Program} {w0 W:World} {F0:Nat→Prop} {Γ Γ' Γ1:List Res}
variable {ops:Array Oper} {Q:Exit→Act→World→Prop} {a:Act} {rest:List Oper} {o:Oper} {t:TypeId} {x y:Operand}
end
end
section
open Go.RowKit Go.ChangeShapes Go.WideShapes
theorem zdm {α:Type} (l:List α) (k m:Nat):(l.drop k).take m++l.drop (k+m)=l.drop k:=by rw [← zY3e,zY0q]
def z0t {α:Type} (P:Program) (S:Sh α) (t:TypeId):Prop :=
 ∀ {H:Type} {enc:TypeId × Value→H} {w:World} {base:Nat} {spare:Nat→Bool} {held:Bool} {fuel:Nat} {cs:List Value} {x:DataW H × List MemPlace},
  DataW.trod enc P w base spare held fuel t cs=some x→∃ a,S.rep w (Lt w.heap.size) a cs
section
variable {P:Program} {t:TypeId}
theorem z041 (ht:P.underlying t=some (.int .i64)):z0t P shInt t:=by
 intro H enc w base spare held fuel cs x h;obtain ⟨n,rfl,_,hw⟩:=DataW.trod_int ht h;exact ⟨n,rfl,by simp [Lit.wf,IntKind.min,IntKind.max,IntKind.signed,IntKind.bits] at hw;omega⟩
theorem z016 (ht:P.underlying t=some .bool):z0t P shBool t:=by
 intro H enc w base spare held fuel cs x h;obtain ⟨n,rfl,_⟩:=DataW.trod_bool ht h;exact ⟨n,rfl⟩
theorem z042 (ht:P.underlying t=some .string):z0t P zna t:=by
 intro H enc w base spare held fuel cs x h;obtain ⟨s,rfl,_,hw⟩:=DataW.trod_string ht h;exact ⟨s.data.toList,by simp,by unfold maxLen at hw;simpa using hw⟩
theorem z5l {α:Type} {S:Sh α} {e:TypeId} (ht:P.underlying t=some (.slice e)) (hs:P.cellsOf e=S.size) (h0:0<S.size) (he:z0t P S e):z0t P (z0j S) t:=by
 intro H enc w base spare held fuel cs x h;rcases Go.Deep.open_slice ht h with ⟨rfl,_⟩|⟨a,len,cap,m,n,D,Pl,rfl,_,hl,hm,hmm,-,hi⟩
 ·exact ⟨[],_,_,_,rfl,Rds.nil _ _ _⟩
 ·have hlm:len≤m:=by rw [hmm];split <;> omega
  have key:∀ i,i<len→∃ y:α × List Value,S.rep w (Lt w.heap.size) y.1 y.2∧∀ j,j<S.size→w.cell? (a.add (i * S.size+j))=y.2[j]?:=by
   intro i hlt;obtain ⟨cs',hc,ht'⟩:=hi i (by omega);obtain ⟨y,hy⟩:=he ht';obtain ⟨_,hcl,hat⟩:=World.cells?_some hc;refine ⟨(y,cs'),hy,fun j hj=>?_⟩;have:=hat j (by omega);rw [hs,Go.Deep.add_add] at this;exact this
  have key2:∃ ys:List (α × List Value),ys.length=len∧∀ i (hi:i<ys.length),S.rep w (Lt w.heap.size) ys[i].1 ys[i].2∧∀ j,j<S.size→w.cell? (a.add (i * S.size+j))=ys[i].2[j]?:=by
   clear hi hmm hlm hl h
   induction len with
   | zero=>exact ⟨[],rfl,fun i hi=>by simp at hi⟩
   | succ l ih =>
    obtain ⟨ys,hy1,hy2⟩:=ih (fun i hi=>key i (by omega));obtain ⟨y,hy⟩:=key l (by omega);refine ⟨ys++[y],by simp [hy1],fun i hi=>?_⟩
    by_cases h':i<ys.length
    ·rw [List.getElem_append_left h'];exact hy2 i h'
    ·have:i=l:=by simp at hi;omega
     subst this;rw [List.getElem_append_right (by omega)];simpa [hy1] using hy
  obtain ⟨ys,hy1,hy2⟩:=key2;refine ⟨ys.map (·.1),_,_,_,rfl,by simp [hy1],hl,by unfold maxLen at hm;omega,fun hn=>?_⟩;have c0:=(hy2 0 (by omega)).2 0 h0;have hl0:=S.len (hy2 0 (by omega)).1;have hspot:a.spot=none:=by
   have:(ys[0]'(by omega)).2[0]? = some ((ys[0]'(by omega)).2[0]'(by omega)):=zY08 (by omega);rw [this] at c0;have:=World.cell?_spot c0;simpa [Addr.add] using this
  obtain ⟨b,off,spot⟩:=a;simp only at hspot;subst hspot;have hadd:∀ k,(Addr.mk b off none).add k=⟨b,off+k,none⟩:=by
   intro k;unfold Addr.add;split <;> simp_all
  refine ⟨b,off,rfl,?_,fun i hi=>?_⟩
  ·show b<w.heap.size
   rcases zY1w b w.heap.size with h'|h'
   ·exact h'
   ·have e:w.cell? ((Addr.mk b off none).add (0 * S.size+0))=none:=by
     rw [hadd];simp [World.cell?,zY14 h']
    rw [e] at c0;have:(ys[0]'(by omega)).2[0]? = some ((ys[0]'(by omega)).2[0]'(by omega)):=zY08 (by omega);rw [this] at c0;cases c0
  ·have hi':i<ys.length:=by simpa using hi
   refine ⟨ys[i].2,by simpa using (hy2 i hi').1,fun j v hj=>?_⟩;have hjl:j<S.size:=by
    have:=S.len (hy2 i hi').1;have:=(zY06.1 hj).1;omega
   have:=(hy2 i hi').2 j hjl;rw [hadd,hj] at this;rw [← this,zY2p]
theorem zby {α β τ:Type} {S0:Sh α} {S1:Sh β} {f:α→β→τ} {f0 f1:Field} (ht:P.underlying t=some (.struct #[f0,f1])) (hc:P.cellsOf t=S0.size+S1.size)
  (o0:f0.offset=0) (o1:f1.offset=S0.size) (c0:P.cellsOf f0.type=S0.size) (c1:P.cellsOf f1.type=S1.size) (h0:z0t P S0 f0.type) (h1:z0t P S1 f1.type):z0t P (z2b S0 S1 f) t:=by
 intro H enc w base spare held fuel cs x h;obtain ⟨xs,n,_,_,hl,hxl,hf⟩:=DataW.trod_struct ht h
 match xs,hxl with
 | [x0,x1],_ =>
  have g0:=hf 0 f0 rfl;have g1:=hf 1 f1 rfl;rw [o0,c0] at g0;rw [o1,c1] at g1;obtain ⟨a,ha⟩:=h0 g0;obtain ⟨b,hb⟩:=h1 g1;refine ⟨f a b,a,b,_,_,rfl,?_,ha,hb⟩;rw [zY34,zY0u (l:=cs.drop S0.size) (by simp;omega),zY0q]
theorem z063 {α τ:Type} {S0:Sh α} {f:α→τ} {f0:Field} (ht:P.underlying t=some (.struct #[f0])) (hc:P.cellsOf t=S0.size)
  (o0:f0.offset=0) (c0:P.cellsOf f0.type=S0.size) (h0:z0t P S0 f0.type):z0t P (shS1 S0 f) t:=by
 intro H enc w base spare held fuel cs x h;obtain ⟨xs,n,_,_,hl,hxl,hf⟩:=DataW.trod_struct ht h
 match xs,hxl with
 | [x0],_ =>
  have g0:=hf 0 f0 rfl;rw [o0,c0] at g0;obtain ⟨a,ha⟩:=h0 g0;refine ⟨f a,a,rfl,?_⟩
  rwa [zY34,zY0u (by omega)] at ha
theorem z064 {α β γ τ:Type} {S0:Sh α} {S1:Sh β} {S2:Sh γ} {f:α→β→γ→τ} {f0 f1 f2:Field} (ht:P.underlying t=some (.struct #[f0,f1,f2])) (hc:P.cellsOf t=S0.size+(S1.size+S2.size))
  (o0:f0.offset=0) (o1:f1.offset=S0.size) (o2:f2.offset=S0.size+S1.size) (c0:P.cellsOf f0.type=S0.size) (c1:P.cellsOf f1.type=S1.size) (c2:P.cellsOf f2.type=S2.size)
  (h0:z0t P S0 f0.type) (h1:z0t P S1 f1.type) (h2:z0t P S2 f2.type):z0t P (z99 S0 S1 S2 f) t:=by
 intro H enc w base spare held fuel cs x h;obtain ⟨xs,n,_,_,hl,hxl,hf⟩:=DataW.trod_struct ht h
 match xs,hxl with
 | [x0,x1,x2],_ =>
  have g0:=hf 0 f0 rfl;have g1:=hf 1 f1 rfl;have g2:=hf 2 f2 rfl;rw [o0,c0] at g0;rw [o1,c1] at g1;rw [o2,c2] at g2;obtain ⟨a,ha⟩:=h0 g0;obtain ⟨b,hb⟩:=h1 g1;obtain ⟨c,hc'⟩:=h2 g2;refine ⟨f a b c,a,(b,c),_,_,rfl,?_,ha,b,c,_,_,rfl,rfl,hb,hc'⟩;rw [zY34,zY0u (l:=cs.drop (S0.size+S1.size)) (by simp;omega),← zY3e,zY0q,zY0q]
theorem z065 {α β γ δ τ:Type} {S0:Sh α} {S1:Sh β} {S2:Sh γ} {S3:Sh δ} {f:α→β→γ→δ→τ} {f0 f1 f2 f3:Field} (ht:P.underlying t=some (.struct #[f0,f1,f2,f3])) (hc:P.cellsOf t=S0.size+(S1.size+(S2.size+S3.size)))
  (o0:f0.offset=0) (o1:f1.offset=S0.size) (o2:f2.offset=S0.size+S1.size) (o3:f3.offset=S0.size+S1.size+S2.size) (c0:P.cellsOf f0.type=S0.size) (c1:P.cellsOf f1.type=S1.size) (c2:P.cellsOf f2.type=S2.size) (c3:P.cellsOf f3.type=S3.size)
  (h0:z0t P S0 f0.type) (h1:z0t P S1 f1.type) (h2:z0t P S2 f2.type) (h3:z0t P S3 f3.type):z0t P (zcj S0 S1 S2 S3 f) t:=by
 intro H enc w base spare held fuel cs x h;obtain ⟨xs,n,_,_,hl,hxl,hf⟩:=DataW.trod_struct ht h
 match xs,hxl with
 | [x0,x1,x2,x3],_ =>
  have g0:=hf 0 f0 rfl;have g1:=hf 1 f1 rfl;have g2:=hf 2 f2 rfl;have g3:=hf 3 f3 rfl;rw [o0,c0] at g0;rw [o1,c1] at g1;rw [o2,c2] at g2;rw [o3,c3] at g3;obtain ⟨a,ha⟩:=h0 g0;obtain ⟨b,hb⟩:=h1 g1;obtain ⟨c,hc'⟩:=h2 g2;obtain ⟨d,hd⟩:=h3 g3;refine ⟨f a b c d,a,(b,c,d),_,_,rfl,?_,ha,b,(c,d),_,_,rfl,rfl,hb,c,d,_,_,rfl,rfl,hc',hd⟩;rw [zY34,zY0u (l:=cs.drop (S0.size+S1.size+S2.size)) (by simp;omega),zdm,zdm,zY0q]
theorem z0au {α β γ δ ε τ:Type} {S0:Sh α} {S1:Sh β} {S2:Sh γ} {S3:Sh δ} {S4:Sh ε} {f:α→β→γ→δ→ε→τ} {f0 f1 f2 f3 f4:Field} (ht:P.underlying t=some (.struct #[f0,f1,f2,f3,f4]))
  (hc:P.cellsOf t=S0.size+(S1.size+(S2.size+(S3.size+S4.size))))
  (o0:f0.offset=0) (o1:f1.offset=S0.size) (o2:f2.offset=S0.size+S1.size) (o3:f3.offset=S0.size+S1.size+S2.size) (o4:f4.offset=S0.size+S1.size+S2.size+S3.size)
  (c0:P.cellsOf f0.type=S0.size) (c1:P.cellsOf f1.type=S1.size) (c2:P.cellsOf f2.type=S2.size) (c3:P.cellsOf f3.type=S3.size) (c4:P.cellsOf f4.type=S4.size)
  (h0:z0t P S0 f0.type) (h1:z0t P S1 f1.type) (h2:z0t P S2 f2.type) (h3:z0t P S3 f3.type) (h4:z0t P S4 f4.type):z0t P (zet S0 S1 S2 S3 S4 f) t:=by
 intro H enc w base spare held fuel cs x h;obtain ⟨xs,n,_,_,hl,hxl,hf⟩:=DataW.trod_struct ht h
 match xs,hxl with
 | [x0,x1,x2,x3,x4],_ =>
  have g0:=hf 0 f0 rfl;have g1:=hf 1 f1 rfl;have g2:=hf 2 f2 rfl;have g3:=hf 3 f3 rfl;have g4:=hf 4 f4 rfl;rw [o0,c0] at g0;rw [o1,c1] at g1;rw [o2,c2] at g2;rw [o3,c3] at g3;rw [o4,c4] at g4;obtain ⟨a,ha⟩:=h0 g0;obtain ⟨b,hb⟩:=h1 g1;obtain ⟨c,hc'⟩:=h2 g2;obtain ⟨d,hd⟩:=h3 g3;obtain ⟨e,he⟩:=h4 g4;refine ⟨f a b c d e,a,(b,c,d,e),_,_,rfl,?_,ha,b,(c,d,e),_,_,rfl,rfl,hb,c,(d,e),_,_,rfl,rfl,hc',d,e,_,_,rfl,rfl,hd,he⟩;rw [zY34,zY0u (l:=cs.drop (S0.size+S1.size+S2.size+S3.size)) (by simp;omega),zdm,zdm,zdm,zY0q]
end
theorem z70:z0t Tryz.prog shInt 3:=z041 Tryz.underlying3
theorem zyx:z0t Tryz.prog shBool 4:=z016 Tryz.underlying4
theorem z0b2:z0t Tryz.prog zna 9:=z042 Tryz.underlying9
theorem z0ax:z0t Tryz.prog (z0j shInt) 67:=z5l Tryz.underlying67 (by kernel_rfl) (by decide) z70
theorem z06f:z0t Tryz.prog shOp 54:=zby Tryz.underlying54 (by kernel_rfl) rfl rfl (by kernel_rfl) (by kernel_rfl) z70 z70
theorem z043:z0t Tryz.prog (z0j shOp) 45:=z5l Tryz.underlying45 (by kernel_rfl) (by decide) z06f
theorem zf9:z0t Tryz.prog shPoint 49:=zby Tryz.underlying49 (by kernel_rfl) rfl rfl (by kernel_rfl) (by kernel_rfl) z70 z70
theorem z0aq:z0t Tryz.prog shIn 61:=zby Tryz.underlying61 (by kernel_rfl) rfl rfl (by kernel_rfl) (by kernel_rfl) zf9 z043
theorem z0a4:z0t Tryz.prog (z0j shIn) 23:=z5l Tryz.underlying23 (by kernel_rfl) (by decide) z0aq
theorem z044:z0t Tryz.prog shOut 47:=zby Tryz.underlying47 (by kernel_rfl) rfl rfl (by kernel_rfl) (by kernel_rfl) z70 z043
theorem z08a:z0t Tryz.prog (z0j shOut) 24:=z5l Tryz.underlying24 (by kernel_rfl) (by decide) z044
theorem op_tx:z0t Tryz.prog shTx 26:=z064 Tryz.underlying26 (by kernel_rfl) rfl rfl rfl (by kernel_rfl) (by kernel_rfl) (by kernel_rfl) z70 z0a4 z08a
theorem z08b:z0t Tryz.prog shCoin 57:=z065 Tryz.underlying57 (by kernel_rfl) rfl rfl rfl rfl (by kernel_rfl) (by kernel_rfl) (by kernel_rfl) (by kernel_rfl) zf9 z044 z70 zyx
theorem op_coins:z0t Tryz.prog (z0j shCoin) 22:=z5l Tryz.underlying22 (by kernel_rfl) (by decide) z08b
theorem z0ay:z0t Tryz.prog shUndo 28:=z063 Tryz.underlying28 (by kernel_rfl) rfl (by kernel_rfl) op_coins
end
section
open Go.RowKit Go.ChangeShapes Go.WideShapes
structure OpensF {α:Type} (P:Program) (S:Sh α) (fit:α→Prop) (t:TypeId):Prop where
 go:∀ {H:Type} {enc:TypeId × Value→H} {w:World} {base:Nat} {spare:Nat→Bool} {held:Bool} {fuel:Nat} {cs:List Value} {x:DataW H × List MemPlace},
  DataW.trod enc P w base spare held fuel t cs=some x→(x.1.weights P t).all (fun n=>decide (n≤reachBytes))=true→∃ a,S.rep w (Lt w.heap.size) a cs∧fit a
structure OpensR {α:Type} (P:Program) (S:Sh α) (fit:α→Prop) (fs:List Field) (off:Nat):Prop where
 go:∀ {H:Type} {enc:TypeId × Value→H} {w:World} {base:Nat} {spare:Nat→Bool} {held:Bool} {n:Nat} {cs:List Value} {xs:List (DataW H × List MemPlace)},cs.length=off+S.size→xs.length=fs.length →
  (∀ (i:Nat) (f:Field),fs[i]? = some f→DataW.trod enc P w base spare held n f.type ((cs.drop f.offset).take (P.cellsOf f.type))=xs[i]?) →
  (DataW.weightsEach P (fs.map (·.type)) (xs.map (·.1))).all (fun n=>decide (n≤reachBytes))=true→∃ a,S.rep w (Lt w.heap.size) a (cs.drop off)∧fit a
section
variable {P:Program} {t:TypeId}
theorem z045 {H:Type} {e:TypeId}:∀ {l:List (DataW H)},(DataW.weightsAll P e l).all (fun n=>decide (n≤reachBytes))=true→∀ d ∈ l,(d.weights P e).all (fun n=>decide (n≤reachBytes))=true
 | [],_,d,hd=>by cases hd
 | x::l,h,d,hd=>by
  simp only [DataW.weightsAll,zY37,zY0c] at h;rcases zY0m.1 hd with rfl|hd
  ·exact h.1
  ·exact z045 h.2 d hd
theorem zdz {α:Type} {S:Sh α} (h:z0t P S t):OpensF P S (fun _=>True) t:=by
 refine ⟨?_⟩;intro H enc w base spare held fuel cs x h1 _;obtain ⟨a,ha⟩:=h h1;exact ⟨a,ha,trivial⟩
theorem zjb {α:Type} {S:Sh α} {p:α→Prop} {e:TypeId} {z q:Nat} (ht:P.underlying t=some (.slice e)) (hs:P.cellsOf e=S.size) (h0:0<S.size) (hz:P.bytesOf e=z) (hq:∀ n:Nat,n * z≤140737488351232→n≤q) (he:OpensF P S p e):OpensF P (z0j S) (fun l=>l.length≤q∧∀ x ∈ l,p x) t:=by
 refine ⟨?_⟩;intro H enc w base spare held fuel cs x h hwt;rcases Go.Deep.open_slice ht h with ⟨rfl,_⟩|⟨a,len,cap,m,n,D,Pl,rfl,_,hl,hm,hmm,hx,hi⟩
 ·exact ⟨[],⟨_,_,_,rfl,Rds.nil _ _ _⟩,by simp,fun x hx=>by cases hx⟩
 rw [hx] at hwt;simp only [DataW.weights,ht,zY3j,zY37,zY0c,decide_eq_true_eq] at hwt;obtain ⟨hw1,hw2,-⟩:=hwt;have hlz:len * z≤140737488351232:=by
  rw [hz,zY10,List.length_range] at hw1;refine zY39 (zY1f z (Nat.le_add_right _ _)) (zY39 hw1 ?_);decide
 ·have hlm:len≤m:=by rw [hmm];split <;> omega
  have key:∀ i,i<len→∃ y:α × List Value,(S.rep w (Lt w.heap.size) y.1 y.2∧p y.1)∧∀ j,j<S.size→w.cell? (a.add (i * S.size+j))=y.2[j]?:=by
   intro i hlt;obtain ⟨cs',hc,ht'⟩:=hi i (by omega);obtain ⟨y,hy,hp⟩:=he.go ht' (z045 hw2 (D i) (zY2h.2 ⟨i,zY2d.2 hlt,rfl⟩));obtain ⟨_,hcl,hat⟩:=World.cells?_some hc;refine ⟨(y,cs'),⟨hy,hp⟩,fun j hj=>?_⟩;have:=hat j (by omega);rw [hs,Go.Deep.add_add] at this;exact this
  have key2:∃ ys:List (α × List Value),ys.length=len∧∀ i (hi:i<ys.length),(S.rep w (Lt w.heap.size) ys[i].1 ys[i].2∧p ys[i].1)∧∀ j,j<S.size→w.cell? (a.add (i * S.size+j))=ys[i].2[j]?:=by
   clear hi hmm hlm hl h hx hw1 hw2 hlz
   induction len with
   | zero=>exact ⟨[],rfl,fun i hi=>by simp at hi⟩
   | succ l ih =>
    obtain ⟨ys,hy1,hy2⟩:=ih (fun i hi=>key i (by omega));obtain ⟨y,hy⟩:=key l (by omega);refine ⟨ys++[y],by simp [hy1],fun i hi=>?_⟩
    by_cases h':i<ys.length
    ·rw [List.getElem_append_left h'];exact hy2 i h'
    ·have:i=l:=by simp at hi;omega
     subst this;rw [List.getElem_append_right (by omega)];simpa [hy1] using hy
  obtain ⟨ys,hy1,hy2⟩:=key2;refine ⟨ys.map (·.1),⟨_,_,_,rfl,by simp [hy1],hl,by unfold maxLen at hm;omega,fun hn=>?_⟩,by rw [zY10,hy1];exact hq _ hlz,fun x hx=>?_⟩
  rotate_left
  ·obtain ⟨y,hy,rfl⟩:=zY2h.1 hx
   obtain ⟨i,hi,rfl⟩:=List.mem_iff_getElem.1 hy;exact (hy2 i hi).1.2
  have c0:=(hy2 0 (by omega)).2 0 h0;have hl0:=S.len (hy2 0 (by omega)).1.1;have hspot:a.spot=none:=by
   have:(ys[0]'(by omega)).2[0]? = some ((ys[0]'(by omega)).2[0]'(by omega)):=zY08 (by omega);rw [this] at c0;have:=World.cell?_spot c0;simpa [Addr.add] using this
  obtain ⟨b,off,spot⟩:=a;simp only at hspot;subst hspot;have hadd:∀ k,(Addr.mk b off none).add k=⟨b,off+k,none⟩:=by
   intro k;unfold Addr.add;split <;> simp_all
  refine ⟨b,off,rfl,?_,fun i hi=>?_⟩
  ·show b<w.heap.size
   rcases zY1w b w.heap.size with h'|h'
   ·exact h'
   ·have e:w.cell? ((Addr.mk b off none).add (0 * S.size+0))=none:=by
     rw [hadd];simp [World.cell?,zY14 h']
    rw [e] at c0;have:(ys[0]'(by omega)).2[0]? = some ((ys[0]'(by omega)).2[0]'(by omega)):=zY08 (by omega);rw [this] at c0;cases c0
  ·have hi':i<ys.length:=by simpa using hi
   refine ⟨ys[i].2,by simpa using (hy2 i hi').1.1,fun j v hj=>?_⟩;have hjl:j<S.size:=by
    have:=S.len (hy2 i hi').1.1;have:=(zY06.1 hj).1;omega
   have:=(hy2 i hi').2 j hjl;rw [hadd,hj] at this;rw [← this,zY2p]
theorem zi2 {α:Type} {S0:Sh α} {p0:α→Prop} {f0:Field} {off:Nat} (o0:f0.offset=off) (c0:P.cellsOf f0.type=S0.size) (h0:OpensF P S0 p0 f0.type):OpensR P S0 p0 [f0] off:=by
 refine ⟨?_⟩;intro H enc w base spare held n cs xs hl hx hf hw
 match xs,hx with
 | [x0],_ =>
  have g0:=hf 0 f0 rfl;rw [o0,c0,zY0u (by simp;omega)] at g0;simp only [zY1t,zY2z,DataW.weightsEach,zY2e] at hw;exact h0.go g0 hw
theorem zbz {α β τ:Type} {S0:Sh α} {S1:Sh β} {f:α→β→τ} {p0:α→Prop} {p1:β→Prop} {fit:τ→Prop} {f0:Field} {fs:List Field} {off:Nat} (o0:f0.offset=off) (c0:P.cellsOf f0.type=S0.size) (h0:OpensF P S0 p0 f0.type) (h1:OpensR P S1 p1 fs (off+S0.size))
  (hfit:∀ a b,p0 a→p1 b→fit (f a b)):OpensR P (z2b S0 S1 f) fit (f0::fs) off:=by
 refine ⟨?_⟩;intro H enc w base spare held n cs xs hl hx hf hw
 match xs,hx with
 | x0::xs,hx =>
  have g0:=hf 0 f0 rfl;rw [o0,c0] at g0;simp only [zY1t,DataW.weightsEach,zY37,zY0c] at hw;obtain ⟨a,ha,hpa⟩:=h0.go g0 hw.1;have hl':cs.length=off+S0.size+S1.size:=by rw [hl];show off+(S0.size+S1.size)=_;omega
  obtain ⟨b,hb,hpb⟩:=h1.go (cs:=cs) (xs:=xs) (n:=n) hl' (by simpa using hx) (fun i f h=>by simpa using hf (i+1) f (by simpa using h)) hw.2;refine ⟨f a b,⟨a,b,_,_,rfl,?_,ha,hb⟩,hfit a b hpa hpb⟩;rw [← zY3e,zY0q]
theorem zc0 {α:Type} {S:Sh α} {fit:α→Prop} {fs:Array Field} (ht:P.underlying t=some (.struct fs)) (hc:P.cellsOf t=S.size) (h:OpensR P S fit fs.toList 0):OpensF P S fit t:=by
 refine ⟨?_⟩;intro H enc w base spare held fuel cs x hx hw;obtain ⟨xs,n,_,rfl,hl,hxl,hf⟩:=DataW.trod_struct ht hx;simp only [DataW.weights,ht] at hw;obtain ⟨a,ha,hp⟩:=h.go (cs:=cs) (xs:=xs) (n:=n) (by rw [hl,hc];omega) (by rw [hxl];simp) (fun i f h=>hf i f (by simpa using h)) hw;exact ⟨a,by simpa using ha,hp⟩
end
theorem zyy:OpensF Tryz.prog shInt (fun _=>True) 3:=zdz z70
theorem z08c:OpensF Tryz.prog (z0j shOp) (fun l=>l.length≤8796093021952∧∀ x ∈ l,True) 45:=zjb (z:=16) Tryz.underlying45 (by kernel_rfl) (by decide) (by kernel_rfl) (fun n h=>by omega) (zdz z06f)
theorem z08d:OpensF Tryz.prog shOut (fun x=>x.lock.length≤8796093021952) 47:=zc0 Tryz.underlying47 (by kernel_rfl) (zbz rfl (by kernel_rfl) zyy (zi2 rfl (by kernel_rfl) z08c) fun _ _ _ h=>h.1)
end
section
open Go.RowKit Go.ChangeShapes Go.WideShapes
theorem z066:OpensF Tryz.prog shCoin (fun c=>c.o.lock.length≤8796093021952) 57:=zc0 Tryz.underlying57 (by kernel_rfl) (zbz (p0:=fun _=>True) (p1:=fun q:Out × Int × Bool=>q.1.lock.length≤8796093021952) rfl (by kernel_rfl) (zdz zf9) (zbz (p1:=fun _=>True) rfl (by kernel_rfl) z08d (zbz (p1:=fun _=>True) rfl (by kernel_rfl) zyy (zi2 rfl (by kernel_rfl) (zdz zyx)) fun _ _ _ _=>trivial) fun _ _ h _=>h) fun _ _ _ h=>h)
theorem z046:OpensF Tryz.prog (z0j shCoin) (fun l=>l.length≤2199023255488∧∀ c ∈ l,c.o.lock.length≤8796093021952) 22:=zjb (z:=64) (q:=2199023255488) Tryz.underlying22 (by kernel_rfl) (by decide) (by kernel_rfl) (fun n h=>zY39 (Nat.le_div_iff_mul_le (by decide) |>.2 h) (by decide)) z066
theorem opf_undo:OpensF Tryz.prog shUndo (fun u=>∀ c ∈ u.spent,c.o.lock.length≤8796093021952) 28:=zc0 Tryz.underlying28 (by kernel_rfl) ⟨fun hl hx hf hw=>by
 obtain ⟨a,ha,_,hp⟩:=(zi2 rfl (by kernel_rfl) z046:OpensR Tryz.prog (z0j shCoin) _ _ 0).go hl hx hf hw;exact ⟨Undo.mk a,⟨a,rfl,ha⟩,hp⟩⟩
end
section
open Go.RowKit Go.ChangeShapes Go.WideShapes
theorem weights_head {P:Program} {t:TypeId} {H:Type} {f:Nat→Bool} {ts:List TypeId} {d:DataW H} {ds:List (DataW H)} (h:(DataW.weightsEach P (t::ts) (d::ds)).all f=true):(d.weights P t).all f=true∧(DataW.weightsEach P ts ds).all f=true:=by
 simp only [DataW.weightsEach,zY37,zY0c] at h;exact h
end
end Go.Proofs.YtjknfjbpmdfphaaGreat
