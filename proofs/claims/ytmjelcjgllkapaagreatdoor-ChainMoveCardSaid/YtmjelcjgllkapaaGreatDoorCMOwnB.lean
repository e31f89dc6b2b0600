/- Own texts, put together by wip/bundle.py: Base, Data, Own, Clones, Mk, Sep, Slices, Slices2, Book, Book2, Lock, Coin, Tx, Block, Draw, Draw2, Types, OwnSet, Row, Append, Row2, Concat, Book3, BookLaw, Tree, Tree2, TreeLaw, Reverse, Path, Path2, Fork, ForkLaw, Opens, OpF0, OpC, OpW. -/
import Derived.WalkKit
import Derived.WalkLawsBesides
import Derived.BigQuiet
import Derived.Deep.QuietTactic
import Derived.Deep.DeepFit
import Derived.Deep.LoopGhost
import Derived.Lib.Hide
import Derived.KernelRfl
import Derived.Test.YtmjelcjgllkapaaGreatDoorProg
import Derived.Maps.AppendAt
import Derived.Lib.SliceRun
import Derived.Deep.MidRow
import Derived.Great.BuildSlice
import Derived.OwnWalk
import Derived.BigFrame
import Derived.Maps.OwnOps
import Derived.Maps.Views
import Derived.Deep.Quiet
import Derived.OrdersHeld
import Derived.Lib.AppendZerosOnto
import Derived.Test.YtmjelcjgllkapaaGreatDoorShelf
import Derived.ProofKit
import Derived.Deep.Slices
import Derived.SizedLaws
set_option linter.unusedVariables false
set_option linter.unusedSimpArgs false
set_option maxRecDepth 100000
set_option maxHeartbeats 8000000
namespace Go.Proofs.YtmjelcjgllkapaaGreatDoor
open Go.RowKit
variable {listed:Array Bool} {f0 f1 f2:Field} {l:List Oper} {B b base c e fuel g i j k n q t ty:Nat} {F:Nat->Prop} {o oi:Oper} {P:Program} {p:Prop} {α β γ δ τ:Type} {w w':World}
theorem zX0(h:p:=by omega):p:=h
theorem zX1(h:p:=by kernel_rfl):p:=h
theorem zX2(h:p:=by repeat(with_reducible exact Sub.refl)):p:=h
theorem zX3(h:p:=by(repeat'(first|rw[z0n (by omega) (by omega) (by omega)]|fail))):p:=h
theorem zX4(h:p:=by simp):p:=h
theorem zX5(h:p:=by rw[hF (by(repeat'(first|simp only[zY07,zY0b]|fail)))];rfl):p:=h
theorem zX6(h:p:=by repeat(first|with_reducible exact At.z|apply At.s)):p:=h
theorem zX7(h:p:=by rw[show(((s.length:Nat):Int)-0).toNat=s.length by omega];exact zY1l):p:=h
theorem zX8(h:p:=by simp only[zY04,zY08,zY0p];omega):p:=h
theorem zX9(h:p:=by decide):p:=h
theorem zXa(h:p:=by simp;omega):p:=h
theorem zXb(h:p:=by rw[hF (by(repeat'(first|rw[z2o (by omega)]|fail)))];rfl):p:=h
theorem zXc(h:p:=by repeat(with_reducible exact At.z)):p:=h
theorem zXd(h:p:=by unfold maxLen;omega):p:=h
theorem zXe(h:p:=by(repeat'(first|rw[z2o (by omega)]|fail))):p:=h
theorem zXf(h:p:=by simpa using hl):p:=h
theorem zXg(h:p:=by rw[hF (by(repeat'(first|rw[z2o (by omega)]|rw[z0n (by omega) (by omega) (by omega)]|rw[zP (by omega)]|simp only[zY07,zY0b]|fail)))];rfl):p:=h
theorem zXh(h:p:=by(repeat'(first|rw[z0n (by first|omega|(simp only[zY04,zY08,zY0p]at *;omega)) (by omega) (by omega)]|simp only[zY07,zY0b]|fail))):p:=h
theorem zXi(h:p:=by simpa using hlt):p:=h
theorem zXj(h:p:=by repeat(first|with_reducible exact Sub.nil|refine Sub.take (by repeat(first|with_reducible exact Del.z|apply Del.s)) ?_)):p:=h
theorem zXk(h:p:=by repeat(first|with_reducible exact Sub.refl|apply Sub.skip)):p:=h
theorem zXl(h:p:=by(repeat'(first|rfl|rw[z0n (by omega) (by omega) (by omega)]|rw[zN (by omega)]|simp only[zY07,zY0b]|fail))):p:=h
theorem zXm(h:p:=by rw[hF (by(repeat'(first|rfl|rw[z2o (by(simp only[zY04,zY08,zY0p]at *;omega))]|fail)))];rfl):p:=h
theorem zXn(h:p:=by assumption):p:=h
theorem zXo(h:p:=by simpa using hx):p:=h
theorem zXp(h:p:=by repeat(first|with_reducible exact Put.z|apply Put.s)):p:=h
theorem zXq(h:p:=by(exact Yl.load1b rfl rfl (zgw rfl) (by repeat(with_reducible exact At.z)) rfl)):p:=h
theorem zXr(h:p:=by rw[zY0z];exact hn):p:=h
theorem zXs(h:p:=by exact Got.tmp rfl):p:=h
theorem zXt(h:p:=by simpa using h):p:=h
theorem zXu(h:p:=by simpa using hy):p:=h
theorem zXv(h:p:=by rw[zY0d];omega):p:=h
theorem zXw(h:p:=by simpa using hi):p:=h
theorem zXx(h:p:=by simp[ByteArray.size];omega):p:=h
theorem zXy(h:p:=by simpa using hu):p:=h
theorem zXz(h:p:=by simp[Act.eval,Act.put]):p:=h
theorem zX10(h:p:=by rw[hlen];show _=min _ _*6;rw[Nat.min_def];split<;>omega):p:=h
theorem zX11(h:p:=by rw[hcl];show _=min _ _*6;rw[Nat.min_def];split<;>omega):p:=h
theorem zX12(h:p:=by have:=hI.cnt;simp only at this⊢;simp only[zY1c];omega):p:=h
theorem zX13(h:p:=by simpa using ht):p:=h
theorem zX14(h:p:=by simpa using hj):p:=h
theorem zX15(h:p:=by rw[hF (by(repeat'(first|rw[zP (by omega)]|fail)))];rfl):p:=h
theorem zX16(h:p:=by first|assumption|exact hx):p:=h
theorem zX17(h:p:=by(have y:=‹((s:Int)==12)=false›;simp at y;omega)):p:=h
theorem zX18(h:p:=by(have y:=‹((s:Int)==12)=true›;simp at y;omega)):p:=h
theorem zX19(h:p:=by(have y:=‹((s:Int)==0)=false›;simp at y;omega)):p:=h
theorem zX1a(h:p:=by rfl):p:=h
theorem zX1b(h:p:=by unfold zay;rw[xl];simp[hk0,hn0]):p:=h
theorem zX1c(h:p:=by simpa using hd):p:=h
theorem zX1d(h:p:=by rw[m1];rfl):p:=h
theorem zX1e(h:p:=by simp only[zY08];omega):p:=h
theorem zX1f(h:p:=by simpa using hs):p:=h
theorem zX1g(h:p:=by simpa using ho):p:=h
theorem zX1h(h:p:=by simpa using he):p:=h
theorem zX1i(h:p:=by simp[h.len]):p:=h
theorem zX1j(h:p:=by simp[znb,Value.oneCell']):p:=h
theorem zX1k(h:p:=by rw[HLN.out];omega):p:=h
theorem zX1l(h:p:=by cases h):p:=h
theorem zX1m(h:p:=by rw[m2];rfl):p:=h
theorem zX1n(h:p:=by rw[e];rfl):p:=h
abbrev zN:=@if_neg
abbrev zP:=@if_pos
abbrev zY00:=@Option.some.injEq
abbrev zY01:=@Option.bind_eq_some_iff
abbrev zY02:=@List.getElem?_eq_some_iff
abbrev zY03:=@List.getElem?_eq_getElem
abbrev zY04:=@List.length_append
abbrev zY05:=@List.getElem?_cons_zero
abbrev zY06:=@List.mem_of_getElem?
abbrev zY07:=@Option.bind_some
abbrev zY08:=@List.length_cons
abbrev zY09:=@List.setIfInBounds_toArray
abbrev zY0a:=@Option.bind_eq_bind
abbrev zY0b:=@Option.bind_none
abbrev zY0c:=@List.eq_nil_of_length_eq_zero
abbrev zY0d:=@List.length_take
abbrev zY0e:=@Bool.and_eq_true
abbrev zY0f:=@List.getElem?_set_self
abbrev zY0g:=@List.mem_cons
abbrev zY0h:=@List.mem_cons_of_mem
abbrev zY0i:=@List.mem_cons_self
abbrev zY0j:=@List.getElem?_set_ne
abbrev zY0k:=@Nat.le_refl
abbrev zY0l:=@List.getElem?_append_left
abbrev zY0m:=@List.getElem?_map
abbrev zY0n:=@List.set_cons_zero
abbrev zY0o:=@List.set_cons_succ
abbrev zY0p:=@List.length_nil
abbrev zY0q:=@List.getElem?_append_right
abbrev zY0r:=@List.getD_eq_getElem?_getD
abbrev zY0s:=@Array.getD_eq_getD_getElem?
abbrev zY0t:=@Option.map_eq_some_iff
abbrev zY0u:=@Decidable.not_not
abbrev zY0v:=@List.take_of_length_le
abbrev zY0w:=@List.length_drop
abbrev zY0x:=@Bool.false_eq_true
abbrev zY0y:=@List.length_map
abbrev zY0z:=@Nat.zero_add
abbrev zY10:=@List.take_append_drop
abbrev zY11:=@Nat.eq_of_beq_eq_true
abbrev zY12:=@List.mem_singleton
abbrev zY13:=@List.mem_append
abbrev zY14:=@Array.getElem?_eq_getElem
abbrev zY15:=@Array.getElem?_eq_some_iff
abbrev zY16:=@List.nil_append
abbrev zY17:=@List.getElem?_take
abbrev zY18:=@Array.getElem?_eq_none
abbrev zY19:=@Prod.mk.injEq
abbrev zY1a:=@List.append_assoc
abbrev zY1b:=@List.append_nil
abbrev zY1c:=@List.length_singleton
abbrev zY1d:=@Int.toNat_natCast
abbrev zY1e:=@Option.pure_def
abbrev zY1f:=@Option.getD_some
abbrev zY1g:=@List.cons_append
abbrev zY1h:=@List.pairwise_cons
abbrev zY1i:=@Option.map_some
abbrev zY1j:=@List.all_eq_true
abbrev zY1k:=@List.not_mem_nil
abbrev zY1l:=@List.take_length
abbrev zY1m:=@List.drop_eq_nil_of_le
abbrev zY1n:=@List.map_cons
abbrev zY1o:=@List.take_append_of_le_length
abbrev zY1p:=@List.getElem?_drop
abbrev zY1q:=@List.flatten_cons
abbrev zY1r:=@Array.toArray_toList
abbrev zY1s:=@Nat.mul_le_mul_right
abbrev zY1t:=@Array.getElem?_toList
abbrev zY1u:=@Nat.eq_zero_or_pos
abbrev zY1v:=@Nat.lt_of_lt_of_le
abbrev zY1w:=@Nat.lt_or_ge
abbrev zY1x:=@List.flatMap_cons
abbrev zY1y:=@List.getElem_mem
abbrev zY1z:=@List.drop_eq_getElem_cons
abbrev zY20:=@Array.getElem?_setIfInBounds
abbrev zY21:=@Nat.succ_mul
abbrev zY22:=@List.cons.injEq
abbrev zY23:=@List.getElem_of_mem
abbrev zY24:=@List.map_append
abbrev zY25:=@List.length_replicate
abbrev zY26:=@List.mem_map_of_mem
abbrev zY27:=@List.getElem?_of_mem
abbrev zY28:=@Nat.add_zero
abbrev zY29:=@Nat.lt_succ_self
abbrev zY2a:=@List.drop_of_length_le
abbrev zY2b:=@Nat.min_eq_left
abbrev zY2c:=@List.contains_iff_mem
abbrev zY2d:=@List.getElem?_cons_succ
abbrev zY2e:=@List.getElem?_set
abbrev zY2f:=@List.mem_of_mem_take
abbrev zY2g:=@List.mem_of_mem_drop
abbrev zY2h:=@Array.length_toList
abbrev zY2i:=@List.mem_range
abbrev zY2j:=@Bool.not_eq_true
abbrev zY2k:=@List.mem_map
abbrev zY2l:=@Array.getElem?_modify
abbrev zY2m:=@List.getElem?_eq_none
abbrev zY2n:=@List.size_toArray
abbrev zY2o:=@List.map_nil
abbrev zY2p:=@List.pairwise_append
abbrev zY2q:=@List.length_set
abbrev zY2r:=@List.flatMap_nil
abbrev zY2s:=@List.flatten_append
abbrev zY2t:=@List.pairwise_iff_getElem
abbrev zY2u:=@Bool.not_eq_true'
abbrev zY2v:=@Bool.not_eq_false
abbrev zY2w:=@List.ext_getElem?
abbrev zY2x:=@Array.size_append
abbrev zY2y:=@List.singleton_append
abbrev zY2z:=@Option.isSome_iff_exists
abbrev zY30:=@Nat.add_sub_cancel
abbrev zY31:=@Bool.or_eq_false_iff
abbrev zY32:=@List.getElem?_replicate
abbrev zY33:=@Nat.add_assoc
abbrev zY34:=@List.toList_toArray
abbrev zY35:=@List.take_succ_cons
abbrev zY36:=@List.any_eq_true
abbrev zY37:=@List.take_succ_eq_append_getElem
abbrev zY38:=@Bool.false_or
abbrev zY39:=@Bool.true_and
abbrev zY3a:=@List.any_cons
abbrev zY3b:=@List.take_take
abbrev zY3c:=@Array.eq_empty_of_size_eq_zero
abbrev zY3d:=@Bool.or_eq_true
abbrev zY3e:=@Bool.not_true
abbrev zY3f:=@List.map_toArray
abbrev zY3g:=@Array.all_eq_true'
abbrev zY3h:=@List.drop_zero
abbrev zY3i:=@Bool.false_ne_true
abbrev zY3j:=@Classical.choose_spec
abbrev zY3k:=@List.mem_append_right
abbrev zY3l:=@List.all_append
abbrev zY3m:=@List.any_eq_false
abbrev zY3n:=@Nat.le_trans
abbrev zY3o:=@Bool.false_and
abbrev zY3p:=@Array.toList_map
abbrev zY3q:=@List.drop_drop
abbrev zY3r:=@Array.getElem?_push
abbrev zY3s:=@Nat.zero_mul
abbrev zY3t:=@List.map_map
abbrev zY3u:=@Int.tmod_nonneg
abbrev zY3v:=@Option.map_none
abbrev zY3w:=@List.mem_filter
abbrev zY3x:=@List.all_cons
abbrev zY3y:=@List.map_take
theorem z0u{k:IntKind}{a b:Int}(h:a=b):Ending.returned (.int k a)=.returned (.int k b):=by rw[h]
theorem z8a{a b:Bool}(h:a=b):Ending.returned (.bool a)=.returned (.bool b):=by rw[h]
theorem ze3{k l:IntKind}{a b c d:Int}(h:a=b)(h':c=d):Ending.returned (.tuple #[.int k a,.int l c])=.returned (.tuple #[.int k b,.int l d]):=by rw[h,h']
def Lt(B:Nat):Nat->Prop:=λb=>b<B
def Agree(F:Nat->Prop)(w w':World):Prop:=∀b,F b->w'.heap[b]?=w.heap[b]?
theorem Agree.cell(h:Agree F w w'){p:Addr}(hp:F p.block):w'.cell? p=w.cell? p:=World.cell?_of_block (w:=w) (h p.block hp)
theorem Agree.below(h:Below B w w'):Agree (Lt B) w w':=λb hb=>h.block b hb
theorem Agree.mono{F':Nat->Prop}(h:Agree F w w')(hF:∀b,F' b->F b):Agree F' w w':=λb hb=>h b (hF b hb)
theorem Agree.trans{w'':World}(h:Agree F w w')(h':Agree F w' w''):Agree F w w'':=λb hb=>(h' b hb).trans (h b hb)
structure Sh(α:Type) where
 size:Nat
 rep:World->(Nat->Prop)->α->List Value->Prop
 len:∀ {w F x cs},rep w F x cs->cs.length=size
 keep:∀ {w w':World} {F x cs},Agree F w w'->rep w F x cs->rep w' F x cs
 more:∀ {w F F' x cs},(∀b,F b->F' b)->rep w F x cs->rep w F' x cs
def Rds(S:Sh α)(w:World)(F:Nat->Prop)(xs:List α)(A:Option Addr)(n c:Nat):Prop :=
 xs.length=n/\n<=c/\c<=9223372036854775807/\(0<n->∃b off,A=some ⟨b,off,none⟩/\F b /\
  ∀i (hi:i<xs.length),∃cs,S.rep w F xs[i] cs/\∀j v,cs[j]?=some v->w.cell? ⟨b,off+i*S.size+j,none⟩=some v)
theorem Rds.keep{S:Sh α}{xs:List α}{A:Option Addr}(ha:Agree F w w')(h:Rds S w F xs A n c):Rds S w' F xs A n c :=
 ⟨h.1,h.2.1,h.2.2.1,λhn=>by obtain⟨b,off,e,hF,hc⟩:=h.2.2.2 hn;refine⟨b,off,e,hF,λi hi=>?_⟩;obtain⟨cs,hr,hv⟩:=hc i hi;exact⟨cs,S.keep ha hr,λj v hj=>(ha.cell (p:=⟨b,_,none⟩) hF).trans (hv j v hj)⟩⟩
theorem Rds.more{S:Sh α}{F':Nat->Prop}{xs:List α}{A:Option Addr}(hF':∀b,F b->F' b)(h:Rds S w F xs A n c):Rds S w F' xs A n c :=
 ⟨h.1,h.2.1,h.2.2.1,λhn=>by obtain⟨b,off,e,hF,hc⟩:=h.2.2.2 hn;refine⟨b,off,e,hF' b hF,λi hi=>?_⟩;obtain⟨cs,hr,hv⟩:=hc i hi;exact⟨cs,S.more hF' hr,hv⟩⟩
theorem Rds.take{S:Sh α}{xs:List α}{A:Option Addr}(h:Rds S w F xs A n c)(hk:k<=n):Rds S w F (xs.take k) A k c:=by obtain⟨h1,h2,h3,h4⟩:=h;refine⟨by rw[zY0d,h1];omega,by omega,h3,λhn=>?_⟩;obtain⟨b,off,e,hF,hc⟩:=h4 zX0;refine⟨b,off,e,hF,λi hi=>?_⟩;rw[zY0d]at hi;obtain⟨cs,hr,hv⟩:=hc i zX0;exact⟨cs,by rw[List.getElem_take];exact hr,hv⟩
theorem Rds.nil(S:Sh α)(w:World)(F:Nat->Prop):Rds S w F [] none 0 0:=⟨rfl,by omega,by omega,λh=>by omega⟩
theorem Rds.at_{S:Sh α}{xs:List α}{A:Option Addr}(h:Rds S w F xs A n c)(hk:k<n) :
  ∃b off x cs,A=some ⟨b,off,none⟩/\F b/\xs[k]?=some x/\S.rep w F x cs/\∀j v,cs[j]?=some v->w.cell? ⟨b,off+k*S.size+j,none⟩=some v:=by
 obtain⟨b,off,e,hF,hc⟩:=h.2.2.2 zX0;have hl:k<xs.length:=by have:=h.1;omega
 obtain⟨cs,hr,hv⟩:=hc k hl;exact⟨b,off,xs[k],cs,e,hF,zY03 hl,hr,hv⟩
def z0j(S:Sh α):Sh (List α):={
 size:=1
 rep w F xs cs:=∃A n c,cs=[.slice A n c]/\Rds S w F xs A n c
 len:=by rintro w F x cs ⟨A,n,c,rfl,_⟩;rfl
 keep:=by rintro w w' F x cs ha ⟨A,n,c,rfl,h⟩;exact⟨A,n,c,rfl,h.keep ha⟩
 more:=by rintro w F F' x cs hF ⟨A,n,c,rfl,h⟩;exact⟨A,n,c,rfl,h.more hF⟩ }
def I64(n:Int):Prop:=-9223372036854775808<=n/\n<=9223372036854775807
def shInt:Sh Int:={
 size:=1
 rep _ _ n cs:=cs=[.int .i64 n] /\ -9223372036854775808<=n/\n<=9223372036854775807
 len:=by rintro w F x cs ⟨rfl,_⟩;rfl
 keep:=λ_ h=>h
 more:=λ_ h=>h }
def shBool:Sh Bool:={
 size:=1
 rep _ _ b cs:=cs=[.bool b]
 len:=by rintro w F x cs rfl;rfl
 keep:=λ_ h=>h
 more:=λ_ h=>h }
def shStr:Sh (List UInt8):={
 size:=1
 rep _ _ s cs:=cs=[.string ⟨s.toArray⟩]/\s.length<=9223372036854775807
 len:=by rintro w F x cs ⟨rfl,_⟩;rfl
 keep:=λ_ h=>h
 more:=λ_ h=>h }
theorem Rds.int{xs:List Int}{A:Option Addr}(h:Rds shInt w F xs A n c)(hk:k<n) :
  ∃b off x,A=some ⟨b,off,none⟩/\F b/\xs[k]?=some x/\w.cell? ⟨b,off+k,none⟩=some (.int .i64 x) /\ -9223372036854775808<=x/\x<=9223372036854775807:=by
 obtain⟨b,off,x,cs,e,hF,hx,⟨rfl,h1,h2⟩,hc⟩:=h.at_ hk;exact⟨b,off,x,e,hF,hx,by simpa[shInt]using hc 0 _ rfl,h1,h2⟩
theorem Rds.str{xs:List (List UInt8)}{A:Option Addr}(h:Rds shStr w F xs A n c)(hk:k<n) :
  ∃b off x,A=some ⟨b,off,none⟩/\F b/\xs[k]?=some x/\w.cell? ⟨b,off+k,none⟩=some (.string ⟨x.toArray⟩)/\x.length<=9223372036854775807:=by
 obtain⟨b,off,x,cs,e,hF,hx,⟨rfl,h1⟩,hc⟩:=h.at_ hk;exact⟨b,off,x,e,hF,hx,by simpa[shStr]using hc 0 _ rfl,h1⟩
theorem Rds.of_own_int{v:Value}{xs:List Int}(h:w.ownsRow base e 1 v n (xs.map (Value.int .i64)))(hb:∀x∈xs,-9223372036854775808<=x/\x<=9223372036854775807) :
  ∃A c,v=.slice A n c/\Rds shInt w (λb=>base<=b/\b<w.heap.size) xs A n c:=by
 obtain⟨hl,h2⟩:=h;simp at hl;rcases h2 with⟨rfl,rfl⟩|⟨g,cap,cur,rfl,hg,hh,hnc,hcm,hcs,ht⟩
 ·refine⟨none,0,rfl,?_⟩;obtain rfl:xs=[]:=zY0c hl;exact Rds.nil _ _ _
 ·refine⟨_,cap,rfl,hl,hnc,by unfold maxLen at hcm;omega,λhn=>⟨g,0,rfl,⟨hg,?_⟩,λi hi=>⟨_,⟨rfl,hb _ (zY1y hi)⟩,?_⟩⟩⟩
  ·rcases zY1w g w.heap.size with h|h
   ·exact h
   ·rw[zY18 h]at hh;cases hh
  ·intro j v hj
   match j,hj with
   |0,hj =>
    simp at hj;subst hj;have e1:(cur.toList.take (n*1))[i]?=some (.int .i64 xs[i]):=by rw[ht];simp[hi]
    rw[zY17]at e1;split at e1
    ·rw[cell_of_row w g _ cur _ (0,0) hh];simpa[shInt]using e1
    ·cases e1
theorem zfv{a:World}(h:Below B a w)(n:Nat):Below B a (w.drewN n):=⟨h.os,h.tape,h.output,h.size,h.block⟩
theorem z59{l:List α}{x:α}(h:l[k]?=some x):l.drop k=x::l.drop (k+1):=by obtain⟨hk,e⟩:=zY02.1 h;rw[zY1z hk,e]
theorem z3x{l:List α}{x:α}(h:l[k]?=some x):l.take (k+1)=l.take k++[x]:=by rw[List.take_add_one,h];rfl
theorem z9t{y:Nat}(h1:(P.info? e).map (λi=>(i.zero.map (·.cells.size),i.size,i.bytes))=some (some k,k,y)):∃i z,P.info? e=some i/\i.zero=some z/\i.size=k/\i.bytes=y/\z.cells.size=k :=
 match hh:P.info? e,h1 with
 |some i,h1=>by
  simp only[zY1i,zY00,zY19]at h1
  match hz:i.zero,h1 with
  |some z,h1=>exact⟨i,z,rfl,hz,h1.2.1,h1.2.2,by simpa using h1.1⟩
def z3q(S0:Sh α)(S1:Sh β)(f:α->β->τ):Sh τ:={
 size:=S0.size+S1.size
 rep w F x cs:=∃a b ca cb,x=f a b/\cs=ca++cb/\S0.rep w F a ca/\S1.rep w F b cb
 len:=by rintro w F x cs ⟨a,b,ca,cb,rfl,rfl,ha,hb⟩;simp[S0.len ha,S1.len hb]
 keep:=by rintro w w' F x cs hk ⟨a,b,ca,cb,e,e',ha,hb⟩;exact⟨a,b,ca,cb,e,e',S0.keep hk ha,S1.keep hk hb⟩
 more:=by rintro w F F' x cs hk ⟨a,b,ca,cb,e,e',ha,hb⟩;exact⟨a,b,ca,cb,e,e',S0.more hk ha,S1.more hk hb⟩ }
def shS1(S0:Sh α)(f:α->τ):Sh τ:={
 size:=S0.size
 rep w F x cs:=∃a,x=f a/\S0.rep w F a cs
 len:=by rintro w F x cs ⟨a,rfl,ha⟩;exact S0.len ha
 keep:=by rintro w w' F x cs hk ⟨a,e,ha⟩;exact⟨a,e,S0.keep hk ha⟩
 more:=by rintro w F F' x cs hk ⟨a,e,ha⟩;exact⟨a,e,S0.more hk ha⟩ }
def zef(S0:Sh α)(S1:Sh β)(S2:Sh γ)(f:α->β->γ->τ):Sh τ:=z3q S0 (z3q S1 S2 Prod.mk) (λa p=>f a p.1 p.2)
def zjk(S0:Sh α)(S1:Sh β)(S2:Sh γ)(S3:Sh δ)(f:α->β->γ->δ->τ):Sh τ:=z3q S0 (zef S1 S2 S3 λa b c=>(a,b,c)) (λa p=>f a p.1 p.2.1 p.2.2)
def zn6{ε:Type}(S0:Sh α)(S1:Sh β)(S2:Sh γ)(S3:Sh δ)(S4:Sh ε)(f:α->β->γ->δ->ε->τ):Sh τ:=z3q S0 (zjk S1 S2 S3 S4 λa b c d=>(a,b,c,d)) (λa p=>f a p.1 p.2.1 p.2.2.1 p.2.2.2)
structure Op where (kind n:Int) deriving DecidableEq,Repr
structure Point where (tx at_:Int) deriving DecidableEq,Repr
structure In where (p:Point) (key:List Op) deriving DecidableEq,Repr
structure Out where (coin:Int) (lock:List Op) deriving DecidableEq,Repr
structure Tx where (height:Int) (ins:List In) (outs:List Out) deriving DecidableEq,Repr
structure Book where (texts:List (List UInt8)) deriving DecidableEq,Repr
structure Coin where (p:Point) (o:Out) (height:Int) (reward:Bool) deriving DecidableEq,Repr
structure Undo where (spent:List Coin) deriving DecidableEq,Repr
structure Block where (parent height work nonce:Int) (txs:List Tx) deriving DecidableEq,Repr
structure Tree where (names:List Int) (blocks:List Block) deriving DecidableEq,Repr
structure Message where (kind src to name:Int) (b:Block) (t:Tx) deriving DecidableEq,Repr
structure Node where (t:Tree) (pool:List Tx) (tip:Int) deriving DecidableEq,Repr
structure Wld where (book:Book) (nodes:List Node) (net:List Message) deriving DecidableEq,Repr
structure Happening where (kind node to k work n:Int) (t:Tx) deriving DecidableEq,Repr
def shOp:Sh Op:=z3q shInt shInt Op.mk
def shPoint:Sh Point:=z3q shInt shInt Point.mk
def shIn:Sh In:=z3q shPoint (z0j shOp) In.mk
def shOut:Sh Out:=z3q shInt (z0j shOp) Out.mk
def shTx:Sh Tx:=zef shInt (z0j shIn) (z0j shOut) Tx.mk
def shBook:Sh Book:=shS1 (z0j shStr) Book.mk
def shCoin:Sh Coin:=zjk shPoint shOut shInt shBool Coin.mk
def z063:Sh Undo:=shS1 (z0j shCoin) Undo.mk
def shBlock:Sh Block:=zn6 shInt shInt shInt shInt (z0j shTx) Block.mk
def shTree:Sh Tree:=z3q (z0j shInt) (z0j shBlock) Tree.mk
theorem z0f7{x:Op}{cs:List Value}(h:shOp.rep w F x cs) :
  cs=[.int .i64 x.kind,.int .i64 x.n]/\I64 x.kind/\I64 x.n:=by
 obtain⟨a,b,ca,cb,rfl,rfl,⟨rfl,h1⟩,rfl,h2⟩:=h;exact⟨rfl,h1,h2⟩
theorem zsy{x:Point}{cs:List Value}(h:shPoint.rep w F x cs) :
  cs=[.int .i64 x.tx,.int .i64 x.at_]/\I64 x.tx/\I64 x.at_:=by
 obtain⟨a,b,ca,cb,rfl,rfl,⟨rfl,h1⟩,rfl,h2⟩:=h;exact⟨rfl,h1,h2⟩
theorem z064{x:In}{cs:List Value}(h:shIn.rep w F x cs) :
  ∃A n c,cs=[.int .i64 x.p.tx,.int .i64 x.p.at_,.slice A n c]/\I64 x.p.tx/\I64 x.p.at_/\Rds shOp w F x.key A n c:=by
 obtain⟨a,b,ca,cb,rfl,rfl,ha,A,n,c,rfl,hr⟩:=h;obtain⟨rfl,h1,h2⟩:=zsy ha;exact⟨A,n,c,rfl,h1,h2,hr⟩
theorem zqz{x:Out}{cs:List Value}(h:shOut.rep w F x cs) :
  ∃A n c,cs=[.int .i64 x.coin,.slice A n c]/\I64 x.coin/\Rds shOp w F x.lock A n c:=by
 obtain⟨a,b,ca,cb,rfl,rfl,⟨rfl,h1⟩,A,n,c,rfl,hr⟩:=h;exact⟨A,n,c,rfl,h1,hr⟩
theorem zw9{x:Tx}{cs:List Value}(h:shTx.rep w F x cs) :
  ∃A n c A' n' c',cs=[.int .i64 x.height,.slice A n c,.slice A' n' c']/\I64 x.height/\Rds shIn w F x.ins A n c/\Rds shOut w F x.outs A' n' c':=by
 obtain⟨a,b,ca,cb,rfl,rfl,⟨rfl,h1⟩,a1,b1,ca1,cb1,rfl,rfl,⟨A,n,c,rfl,hr⟩,A',n',c',rfl,hr'⟩:=h;exact⟨A,n,c,A',n',c',rfl,h1,hr,hr'⟩
theorem z09q{x:Book}{cs:List Value}(h:shBook.rep w F x cs) :
  ∃A n c,cs=[.slice A n c]/\Rds shStr w F x.texts A n c:=by
 obtain⟨a,rfl,A,n,c,rfl,hr⟩:=h;exact⟨A,n,c,rfl,hr⟩
theorem z09r{x:Coin}{cs:List Value}(h:shCoin.rep w F x cs) :
  ∃A n c,cs=[.int .i64 x.p.tx,.int .i64 x.p.at_,.int .i64 x.o.coin,.slice A n c,.int .i64 x.height,.bool x.reward]/\I64 x.p.tx/\I64 x.p.at_/\I64 x.o.coin/\I64 x.height/\Rds shOp w F x.o.lock A n c:=by
 obtain⟨a,b,ca,cb,rfl,rfl,ha,a1,b1,ca1,cb1,rfl,rfl,hb,a2,b2,ca2,cb2,rfl,rfl,⟨rfl,h3⟩,rfl⟩:=h;obtain⟨rfl,h1,h2⟩:=zsy ha;obtain⟨A,n,c,rfl,h4,hr⟩:=zqz hb;exact⟨A,n,c,rfl,h1,h2,h4,h3,hr⟩
theorem zjl{x:Block}{cs:List Value}(h:shBlock.rep w F x cs) :
  ∃A n c,cs=[.int .i64 x.parent,.int .i64 x.height,.int .i64 x.work,.int .i64 x.nonce,.slice A n c]/\I64 x.parent/\I64 x.height/\I64 x.work/\I64 x.nonce/\Rds shTx w F x.txs A n c:=by
 obtain⟨a,b,ca,cb,rfl,rfl,⟨rfl,h1⟩,a1,b1,ca1,cb1,rfl,rfl,⟨rfl,h2⟩,a2,b2,ca2,cb2,rfl,rfl,⟨rfl,h3⟩,a3,b3,ca3,cb3,rfl,rfl,⟨rfl,h4⟩,A,n,c,rfl,hr⟩:=h;exact⟨A,n,c,rfl,h1,h2,h3,h4,hr⟩
def flat(zs:List (α×List Value)):List Value:=(zs.map (·.2)).flatten
theorem zt3(z:α×List Value)(zs:List (α×List Value)):flat (z::zs)=z.2++flat zs:=by simp[flat]
theorem zfy(zs ys:List (α×List Value)):flat (zs++ys)=flat zs++flat ys:=by simp[flat]
theorem z9k{s:Nat}{zs:List (α×List Value)}(h:∀z∈zs,z.2.length=s):(flat zs).length=zs.length*s:=by
 induction zs with
 |nil=>simp[flat]
 |cons z zs ih =>rw[zt3,zY04,ih (λy hy=>h y (by simp[hy])),h z zX4,zY08,zY21];omega
theorem z0cq{s:Nat}{zs:List (α×List Value)}(h:∀z∈zs,z.2.length=s){z:α×List Value}(hi:zs[i]?=some z)(hj:j<s):(flat zs)[i*s+j]?=z.2[j]?:=by
 induction zs generalizing i with
 |nil=>simp at hi
 |cons y zs ih =>
  have hy:=h y zX4;rw[zt3];cases i with
  |zero =>simp at hi;subst hi;rw[zY3s,zY0z,zY0l zX0]
  |succ i =>simp at hi;rw[zY0q (by rw[hy,zY21];omega),hy,show(i+1)*s+j-s=i*s+j by rw[zY21];omega];exact ih (λz hz=>h z (by simp[hz])) hi
theorem Rds.pairs{S:Sh α}{xs:List α}{A:Option Addr}(h:Rds S w F xs A n c) :
  ∃zs:List (α×List Value),zs.map (·.1)=xs/\(∀z∈zs,S.rep w F z.1 z.2)/\(0<n->∃b off,A=some ⟨b,off,none⟩/\F b/\∀j v,(flat zs)[j]?=some v->w.cell? ⟨b,off+j,none⟩=some v):=by
 obtain⟨h1,h2,h3,h4⟩:=h;rcases zY1u n with h0|h0
 ·have:xs=[]:=zY0c zX0;subst this;exact⟨[],rfl,by simp,λh=>by omega⟩
 ·obtain⟨b,off,e,hF,hc⟩:=h4 h0;have key:∀m,m<=xs.length->∃zs:List (α×List Value),zs.map (·.1)=xs.take m/\(∀z∈zs,S.rep w F z.1 z.2)/\∀j v,(flat zs)[j]?=some v->w.cell? ⟨b,off+j,none⟩=some v:=by
   intro m;induction m with
   |zero=>intro _;exact⟨[],by simp,by simp,by simp[flat]⟩
   |succ m ih =>
    intro hm;obtain⟨zs,z1,z2,z3⟩:=ih zX0;obtain⟨cs,hr,hv⟩:=hc m zX0;have hl:∀z∈zs,z.2.length=S.size:=λz hz=>S.len (z2 z hz);have hzl:zs.length=m:=by have:=congrArg List.length z1;simp at this;omega
    refine⟨zs++[(xs[m],cs)],?_,?_,?_⟩
    ·rw[z3x (zY03 zX0),zY24,z1];rfl
    ·intro z hz;rcases zY13.1 hz with h|h
     ·exact z2 z h
     ·simp at h;subst h;exact hr
    ·intro j v hj;rw[zfy]at hj;by_cases hjl:j<(flat zs).length
     ·rw[zY0l hjl]at hj;exact z3 j v hj
     ·rw[zY0q zX0]at hj;have e2:flat [(xs[m],cs)]=cs:=by simp[flat]
      rw[e2]at hj;have:=hv _ v hj;rw[z9k hl,hzl]at hjl this;rw[show off+m*S.size+(j-m*S.size)=off+j by omega]at this;exact this
  obtain⟨zs,z1,z2,z3⟩:=key xs.length (zY0k _);exact⟨zs,by rw[z1,zY1l],z2,λ_=>⟨b,off,e,hF,z3⟩⟩
theorem zjm{size:Nat}{v:Value}{xs:List Value}(h:w.ownsRow base e size v n xs)(hk:v.ownBlock=some k):base<=k:=by
 rcases h.2 with⟨rfl,_⟩|⟨g,cap,cur,rfl,hg,_⟩
 ·cases hk
 ·have:g=k:=by simpa[Value.ownBlock]using hk
  omega
theorem Rds.of_block{S:Sh α}{cap:Nat}{cur:Array Value}{z:Nat×Nat}{zs:List (α×List Value)}(hh:w.heap[g]?=some (.cells cur e z))(hc:cur.toList=flat zs)
  (hz:∀z∈zs,S.rep w F z.1 z.2) (hF:F g) (hcap:zs.length<=cap) (hm:cap<=9223372036854775807):Rds S w F (zs.map (·.1)) (some ⟨g,0,none⟩) zs.length cap:=by
 refine⟨by simp,hcap,hm,λ_=>⟨g,0,rfl,hF,λi hi=>?_⟩⟩;have hi':i<zs.length:=by simpa using hi
 refine⟨zs[i].2,by simpa using hz _ (zY1y hi'),λj u hj=>?_⟩;have hjl:j<S.size:=by have:=S.len (hz _ (zY1y hi'));have:=(zY02.1 hj).1;omega
 have e1:=z0cq (λz hz'=>S.len (hz z hz')) (zY03 hi') hjl;rw[hj,<- hc]at e1;rw[cell_of_row w g _ cur _ z hh,zY0z];simpa using e1
theorem zjn{x:Obj}(h:w.heap[g]?=some x):g<w.heap.size:=by
 rcases zY1w g w.heap.size with h'|h'
 ·exact h'
 ·rw[zY18 h']at h;cases h
theorem z71{x:Obj}(h:w.heap[g]?=some x)(hb:Below B w w')(hg:g<B):w'.heap[g]?=some x:=(hb.block g hg).trans h
theorem z6i{cs:Array Value}(h:w.heap[g]?=some (.cells cs t (0,0))):w.cell? ⟨g,i,none⟩=cs[i]?:=cell_of_row w g i cs t (0,0) h
theorem zna{cs:Array Value}(h:w.heap[g]?=some (.cells cs t (0,0))):w.frozen? ⟨g,i,none⟩=false:=frozen_of_row w g i cs t h
theorem z01x{cs:Array Value}{u:Value}(h:w.heap[g]?=some (.cells cs t (0,0))):(w.setCell ⟨g,i,none⟩ u).heap[g]?=some (.cells (cs.setIfInBounds i u) t (0,0)):=by simp[World.setCell,zY2l,h]
def znb(cs:List Value):Prop:=∀u∈cs,u.oneCell'=true
def Sh.ones(S:Sh α):Prop:=∀ {w F x cs},S.rep w F x cs->znb cs
theorem zt4{S:Sh α}(hS:S.ones){zs:List (α×List Value)}(hz:∀z∈zs,S.rep w F z.1 z.2):znb (flat zs):=by intro u hu;simp only[flat,List.mem_flatten,zY2k]at hu;obtain⟨l,⟨z,hz',rfl⟩,hu⟩:=hu;exact hS (hz z hz') u hu
theorem z4r:shInt.ones:=by rintro w F x cs ⟨rfl,_⟩ u hu;simp at hu;subst hu;rfl
theorem z067:shBool.ones:=by rintro w F x cs rfl u hu;simp at hu;subst hu;rfl
theorem zwd:shStr.ones:=by rintro w F x cs ⟨rfl,_⟩ u hu;simp at hu;subst hu;rfl
theorem zat(S:Sh α):(z0j S).ones:=by rintro w F x cs ⟨A,n,c,rfl,_⟩ u hu;simp at hu;subst hu;rfl
theorem z5c{S0:Sh α}{S1:Sh β}{f:α->β->τ}(h0:S0.ones)(h1:S1.ones):(z3q S0 S1 f).ones:=by
 rintro w F x cs ⟨a,b,ca,cb,rfl,rfl,ha,hb⟩ u hu;rcases zY13.1 hu with h|h
 ·exact h0 ha u h
 ·exact h1 hb u h
theorem z0cr:shOp.ones:=z5c z4r z4r
theorem zox:shPoint.ones:=z5c z4r z4r
theorem z0cs:shIn.ones:=z5c zox (zat _)
theorem zwe:shOut.ones:=z5c z4r (zat _)
theorem z0ct:shTx.ones:=z5c z4r (z5c (zat _) (zat _))
theorem zt5:shCoin.ones:=z5c zox (z5c zwe (z5c z4r z067))
theorem z03c:shBlock.ones:=z5c z4r (z5c z4r (z5c z4r (z5c z4r (zat _))))
theorem zau(b off k:Nat):(Addr.mk b off none).add k=⟨b,off+k,none⟩:=by unfold Addr.add;split<;>simp_all
theorem z3z(w:World)(e s:Nat):(w.alloc (.cells #[] e)).ownsRow w.heap.size e s (.slice (some ⟨w.heap.size,0,none⟩) 0 0) 0 [] :=
 ⟨by simp,.inr ⟨w.heap.size,0,#[],rfl,zY0k _,heap_alloc_new w _,zY0k _,by unfold maxLen;omega,by simp,by simp⟩⟩
def z4x(S:Sh α)(e:Nat)(w:World)(F:Nat->Prop)(xs:List α)(n:Nat)(r:Ending)(w':World):Prop :=
 ∃(v:Value) (zs:List (α×List Value)),r=.returned v/\zs.map (·.1)=xs/\(∀z∈zs,S.rep w F z.1 z.2)/\w'.ownsRow w.heap.size e S.size v n (flat zs)/\Below w.heap.size w w'
theorem zaa{S:Sh α}{xs:List α}(h:Rds S w F xs none n c):n=0/\z4x S e w F xs n (.returned (.slice none 0 0)) w:=by
 have h0:n=0:=by
  rcases zY1u n with h0|h0
  ·exact h0
  ·obtain⟨b,off,e,_⟩:=h.2.2.2 h0;cases e
 subst h0;have hx:xs=[]:=zY0c h.1;subst hx;exact⟨rfl,_,[],rfl,rfl,by simp,World.ownsRow_nil _ _ _ _,Below.refl _ _⟩
theorem zab{S:Sh α}{xs:List α}{ad:Addr}(e k:Nat)(hS:S.ones)(hk:S.size=k)(h:Rds S w F xs (some ad) n c)(hF:∀b,F b->b<w.heap.size):∃zs:List (α×List Value),Hid (zs.map (·.1)=xs)/\(∀z∈zs,S.rep w F z.1 z.2)/\Hid ((flat zs).length=n*k)/\Hid (∀j u,(flat zs)[j]?=some u->(w.alloc (.cells #[] e)).cell? (ad.add j)=some u)/\Hid (∀u∈flat zs,u.oneCell'=true):=by
 obtain⟨zs,z1,z2,z3⟩:=h.pairs;have hl:zs.length=n:=by have:=congrArg List.length z1;simp at this;have:=h.1;omega
 have hfl:(flat zs).length=n*S.size:=by rw[z9k (λz hz=>S.len (z2 z hz)),hl]
 refine⟨zs,Lib.hid z1,z2,Lib.hid (by rw[hfl,hk]),Lib.hid λj u hj=>?_,Lib.hid (zt4 hS z2)⟩;have hj':=(zY02.1 hj).1;have hn0:n≠0:=λh0=>by rw[hfl,h0,zY3s]at hj';omega
 obtain⟨b,off,e,hFb,hc⟩:=z3 zX0;injection e with e;subst e;rw[zau,World.cell?_alloc_lt w _ _ (hF b hFb)];exact hc j u hj
theorem zcp{S:Sh α}{w1:World}{xs:List α}{zs:List (α×List Value)}{v':Value}(z1:Hid (zs.map (·.1)=xs))(z2:∀z∈zs,S.rep w F z.1 z.2)(ho:w1.ownsRow w.heap.size e S.size v' (0+n) ([]++flat zs))(hg:(w.alloc (.cells #[] e)).grownBy w1 (Value.slice (some ⟨w.heap.size,0,none⟩) 0 0).ownBlock):z4x S e w F xs n (.returned v') w1:=by rw[zY0z,zY16]at ho;exact⟨v',zs,rfl,z1.out,z2,ho,((Below.refl _ _).alloc (zY0k _) _).grown hg zX4 (λk hk=>by injection hk with hk;exact Nat.le_of_eq hk)⟩
theorem z068(xs:List (Int))(A:Option Addr)(n c:Nat)(w:World)(F:Nat->Prop)(h:Rds shInt w F xs A n c)(hF:∀b,F b->b<w.heap.size)(hn:n*8<=140737488355328) :
  Calls Tryz.prog 13 #[.slice A n c] w (z4x shInt 3 w F xs n):=by
 have hq:=λ(W:World)=>Lib.run_eql_slice_nil (P:=Tryz.prog) W 25 3 A n c 0 0 Tryz.underlying25;cases A with
 |none =>obtain⟨rfl,hc⟩:=zaa (e:=3) h;clear h;go_enter Tryz.func13,Tryz.ntmps13;go_wp2;go_ret;exact hc
 |some ad =>obtain⟨zs,z1,z2,HL,HN,H1⟩:=zab 3 1 z4r rfl h hF;obtain⟨i0,zv,hi,hz0,hz1,hz2,hz3⟩:=z9t (P:=Tryz.prog) (e:=3) (k:=1) (y:=8) zX1;clear h;go_enter Tryz.func13,Tryz.ntmps13;go_wp2_with (at_builtin;refine wpList_append_own_at _ rfl _ _ 25 rfl w.heap.size 3 i0 zv 1 8 Tryz.underlying25 hi hz0 hz1 hz2 hz3 zX0 _ 0 [] rfl (z3z w _ _) ad n c (flat zs) rfl HL.out HN.out H1.out zXd zXr zX4 ?_;intro v' w1 hown hgr _ _);go_ret;exact zcp z1 z2 hown hgr
theorem z069(xs:List (List UInt8))(A:Option Addr)(n c:Nat)(w:World)(F:Nat->Prop)(h:Rds shStr w F xs A n c)(hF:∀b,F b->b<w.heap.size)(hn:n*16<=140737488355328) :
  Calls Tryz.prog 79 #[.slice A n c] w (z4x shStr 9 w F xs n):=by
 have hq:=λ(W:World)=>Lib.run_eql_slice_nil (P:=Tryz.prog) W 22 9 A n c 0 0 Tryz.underlying22;cases A with
 |none =>obtain⟨rfl,hc⟩:=zaa (e:=9) h;clear h;go_enter Tryz.func79,Tryz.ntmps79;go_wp2;go_ret;exact hc
 |some ad =>obtain⟨zs,z1,z2,HL,HN,H1⟩:=zab 9 1 zwd rfl h hF;obtain⟨i0,zv,hi,hz0,hz1,hz2,hz3⟩:=z9t (P:=Tryz.prog) (e:=9) (k:=1) (y:=16) zX1;clear h;go_enter Tryz.func79,Tryz.ntmps79;go_wp2_with (at_builtin;refine wpList_append_own_at _ rfl _ _ 22 rfl w.heap.size 9 i0 zv 1 16 Tryz.underlying22 hi hz0 hz1 hz2 hz3 zX0 _ 0 [] rfl (z3z w _ _) ad n c (flat zs) rfl HL.out HN.out H1.out zXd zXr zX4 ?_;intro v' w1 hown hgr _ _);go_ret;exact zcp z1 z2 hown hgr
theorem z09t(xs:List (Op))(A:Option Addr)(n c:Nat)(w:World)(F:Nat->Prop)(h:Rds shOp w F xs A n c)(hF:∀b,F b->b<w.heap.size)(hn:n*16<=140737488355328) :
  Calls Tryz.prog 38 #[.slice A n c] w (z4x shOp 90 w F xs n):=by
 have hq:=λ(W:World)=>Lib.run_eql_slice_nil (P:=Tryz.prog) W 80 90 A n c 0 0 Tryz.underlying80;cases A with
 |none =>obtain⟨rfl,hc⟩:=zaa (e:=90) h;clear h;go_enter Tryz.func38,Tryz.ntmps38;go_wp2;go_ret;exact hc
 |some ad =>obtain⟨zs,z1,z2,HL,HN,H1⟩:=zab 90 2 z0cr rfl h hF;obtain⟨i0,zv,hi,hz0,hz1,hz2,hz3⟩:=z9t (P:=Tryz.prog) (e:=90) (k:=2) (y:=16) zX1;clear h;go_enter Tryz.func38,Tryz.ntmps38;go_wp2_with (at_builtin;refine wpList_append_own_at _ rfl _ _ 80 rfl w.heap.size 90 i0 zv 2 16 Tryz.underlying80 hi hz0 hz1 hz2 hz3 zX0 _ 0 [] rfl (z3z w _ _) ad n c (flat zs) rfl HL.out HN.out H1.out zXd zXr zX4 ?_;intro v' w1 hown hgr _ _);go_ret;exact zcp z1 z2 hown hgr
theorem z09u(xs:List (In))(A:Option Addr)(n c:Nat)(w:World)(F:Nat->Prop)(h:Rds shIn w F xs A n c)(hF:∀b,F b->b<w.heap.size)(hn:n*40<=140737488355328) :
  Calls Tryz.prog 90 #[.slice A n c] w (z4x shIn 127 w F xs n):=by
 have hq:=λ(W:World)=>Lib.run_eql_slice_nil (P:=Tryz.prog) W 94 127 A n c 0 0 Tryz.underlying94;cases A with
 |none =>obtain⟨rfl,hc⟩:=zaa (e:=127) h;clear h;go_enter Tryz.func90,Tryz.ntmps90;go_wp2;go_ret;exact hc
 |some ad =>obtain⟨zs,z1,z2,HL,HN,H1⟩:=zab 127 3 z0cs rfl h hF;obtain⟨i0,zv,hi,hz0,hz1,hz2,hz3⟩:=z9t (P:=Tryz.prog) (e:=127) (k:=3) (y:=40) zX1;clear h;go_enter Tryz.func90,Tryz.ntmps90;go_wp2_with (at_builtin;refine wpList_append_own_at _ rfl _ _ 94 rfl w.heap.size 127 i0 zv 3 40 Tryz.underlying94 hi hz0 hz1 hz2 hz3 zX0 _ 0 [] rfl (z3z w _ _) ad n c (flat zs) rfl HL.out HN.out H1.out zXd zXr zX4 ?_;intro v' w1 hown hgr _ _);go_ret;exact zcp z1 z2 hown hgr
theorem z06a(xs:List (Out))(A:Option Addr)(n c:Nat)(w:World)(F:Nat->Prop)(h:Rds shOut w F xs A n c)(hF:∀b,F b->b<w.heap.size)(hn:n*32<=140737488355328) :
  Calls Tryz.prog 91 #[.slice A n c] w (z4x shOut 82 w F xs n):=by
 have hq:=λ(W:World)=>Lib.run_eql_slice_nil (P:=Tryz.prog) W 95 82 A n c 0 0 Tryz.underlying95;cases A with
 |none =>obtain⟨rfl,hc⟩:=zaa (e:=82) h;clear h;go_enter Tryz.func91,Tryz.ntmps91;go_wp2;go_ret;exact hc
 |some ad =>obtain⟨zs,z1,z2,HL,HN,H1⟩:=zab 82 2 zwe rfl h hF;obtain⟨i0,zv,hi,hz0,hz1,hz2,hz3⟩:=z9t (P:=Tryz.prog) (e:=82) (k:=2) (y:=32) zX1;clear h;go_enter Tryz.func91,Tryz.ntmps91;go_wp2_with (at_builtin;refine wpList_append_own_at _ rfl _ _ 95 rfl w.heap.size 82 i0 zv 2 32 Tryz.underlying95 hi hz0 hz1 hz2 hz3 zX0 _ 0 [] rfl (z3z w _ _) ad n c (flat zs) rfl HL.out HN.out H1.out zXd zXr zX4 ?_;intro v' w1 hown hgr _ _);go_ret;exact zcp z1 z2 hown hgr
theorem z09v(xs:List (Tx))(A:Option Addr)(n c:Nat)(w:World)(F:Nat->Prop)(h:Rds shTx w F xs A n c)(hF:∀b,F b->b<w.heap.size)(hn:n*56<=140737488355328) :
  Calls Tryz.prog 61 #[.slice A n c] w (z4x shTx 97 w F xs n):=by
 have hq:=λ(W:World)=>Lib.run_eql_slice_nil (P:=Tryz.prog) W 48 97 A n c 0 0 Tryz.underlying48;cases A with
 |none =>obtain⟨rfl,hc⟩:=zaa (e:=97) h;clear h;go_enter Tryz.func61,Tryz.ntmps61;go_wp2;go_ret;exact hc
 |some ad =>obtain⟨zs,z1,z2,HL,HN,H1⟩:=zab 97 3 z0ct rfl h hF;obtain⟨i0,zv,hi,hz0,hz1,hz2,hz3⟩:=z9t (P:=Tryz.prog) (e:=97) (k:=3) (y:=56) zX1;clear h;go_enter Tryz.func61,Tryz.ntmps61;go_wp2_with (at_builtin;refine wpList_append_own_at _ rfl _ _ 48 rfl w.heap.size 97 i0 zv 3 56 Tryz.underlying48 hi hz0 hz1 hz2 hz3 zX0 _ 0 [] rfl (z3z w _ _) ad n c (flat zs) rfl HL.out HN.out H1.out zXd zXr zX4 ?_;intro v' w1 hown hgr _ _);go_ret;exact zcp z1 z2 hown hgr
theorem zzh(xs:List (Block))(A:Option Addr)(n c:Nat)(w:World)(F:Nat->Prop)(h:Rds shBlock w F xs A n c)(hF:∀b,F b->b<w.heap.size)(hn:n*56<=140737488355328) :
  Calls Tryz.prog 81 #[.slice A n c] w (z4x shBlock 50 w F xs n):=by
 have hq:=λ(W:World)=>Lib.run_eql_slice_nil (P:=Tryz.prog) W 26 50 A n c 0 0 Tryz.underlying26;cases A with
 |none =>obtain⟨rfl,hc⟩:=zaa (e:=50) h;clear h;go_enter Tryz.func81,Tryz.ntmps81;go_wp2;go_ret;exact hc
 |some ad =>obtain⟨zs,z1,z2,HL,HN,H1⟩:=zab 50 5 z03c rfl h hF;obtain⟨i0,zv,hi,hz0,hz1,hz2,hz3⟩:=z9t (P:=Tryz.prog) (e:=50) (k:=5) (y:=56) zX1;clear h;go_enter Tryz.func81,Tryz.ntmps81;go_wp2_with (at_builtin;refine wpList_append_own_at _ rfl _ _ 26 rfl w.heap.size 50 i0 zv 5 56 Tryz.underlying26 hi hz0 hz1 hz2 hz3 zX0 _ 0 [] rfl (z3z w _ _) ad n c (flat zs) rfl HL.out HN.out H1.out zXd zXr zX4 ?_;intro v' w1 hown hgr _ _);go_ret;exact zcp z1 z2 hown hgr
theorem zhm(xs:List (Coin))(A:Option Addr)(n c:Nat)(w:World)(F:Nat->Prop)(h:Rds shCoin w F xs A n c)(hF:∀b,F b->b<w.heap.size)(hn:n*64<=140737488355328) :
  Calls Tryz.prog 37 #[.slice A n c] w (z4x shCoin 84 w F xs n):=by
 have hq:=λ(W:World)=>Lib.run_eql_slice_nil (P:=Tryz.prog) W 29 84 A n c 0 0 Tryz.underlying29;cases A with
 |none =>obtain⟨rfl,hc⟩:=zaa (e:=84) h;clear h;go_enter Tryz.func37,Tryz.ntmps37;go_wp2;go_ret;exact hc
 |some ad =>obtain⟨zs,z1,z2,HL,HN,H1⟩:=zab 84 6 zt5 rfl h hF;obtain⟨i0,zv,hi,hz0,hz1,hz2,hz3⟩:=z9t (P:=Tryz.prog) (e:=84) (k:=6) (y:=64) zX1;clear h;go_enter Tryz.func37,Tryz.ntmps37;go_wp2_with (at_builtin;refine wpList_append_own_at _ rfl _ _ 29 rfl w.heap.size 84 i0 zv 6 64 Tryz.underlying29 hi hz0 hz1 hz2 hz3 zX0 _ 0 [] rfl (z3z w _ _) ad n c (flat zs) rfl HL.out HN.out H1.out zXd zXr zX4 ?_;intro v' w1 hown hgr _ _);go_ret;exact zcp z1 z2 hown hgr

structure Stop(p:Prop):Prop where
 go:p
structure Res where
 block:Option Nat
 holds:Nat->(Nat->Prop)->World->Prop
 keep:∀ {h0:Nat} {F F':Nat->Prop} {W W':World},Agree F W W'->(∀b,F b->F' b)->(∀g,block=some g->W'.heap[g]?=W.heap[g]?)->holds h0 F W->holds h0 F' W'
 lt:∀ {h0:Nat} {F:Nat->Prop} {W:World} {g:Nat},holds h0 F W->block=some g->h0<=g/\g<W.heap.size
def znc(p:World->(Nat->Prop)->Prop)(k:∀ {W W':World} {F F':Nat->Prop},Agree F W W'->(∀b,F b->F' b)->p W F->p W' F'):Res:={
 block:=none
 holds _ F W:=p W F
 keep:=λha hF _ h=>k ha hF h
 lt:=λ_ h=>by cases h }
def rds(xs:List α)(A:Option Addr)(n c:Nat)(S:Sh α):Res:=znc (λW F=>Rds S W F xs A n c) λha hF h=>(h.keep ha).more hF
def rep(x:α)(cs:List Value)(S:Sh α):Res:=znc (λW F=>S.rep W F x cs) λha hF h=>S.more hF (S.keep ha h)
def cells(b o:Nat)(cs:List Value):Res:=znc (λW F=>F b/\W.rangeAt b o cs) λha hF h=>⟨hF _ h.1,λj v hj=>(ha.cell (p:=⟨b,o+j,none⟩) h.1).trans (h.2 j v hj)⟩
def box(g:Nat)(cs:List Value)(t:Nat):Res:={
 block:=some g
 holds h0 _ W:=h0<=g/\W.heap[g]?=some (.cells cs.toArray t (0,0))
 keep:=λ_ _ hb h=>⟨h.1,(hb g rfl).trans h.2⟩
 lt:=λh e=>by injection e with e;subst e;exact⟨h.1,zjn h.2⟩ }
theorem zjo{size:Nat}{v:Value}{xs:List Value}(h:w.ownsRow base e size v n xs)(hb:∀g,v.ownBlock=some g->w'.heap[g]?=w.heap[g]?):w'.ownsRow base e size v n xs:=by
 refine⟨h.1,?_⟩;rcases h.2 with h0|⟨g,cap,cur,hv,hg,hh,r⟩
 ·exact .inl h0
 ·exact .inr ⟨g,cap,cur,hv,hg,by rw[hb g (by rw[hv];rfl)];exact hh,r⟩
def row(e:Nat)(v:Value)(xs:List α)(S:Sh α):Res:={
 block:=v.ownBlock
 holds h0 F W:=∃zs:List (α×List Value),zs.map (·.1)=xs/\W.ownsRow h0 e S.size v xs.length (flat zs)/\∀z∈zs,S.rep W F z.1 z.2
 keep:=λha hF hb ⟨zs,h1,h2,h3⟩=>⟨zs,h1,zjo h2 hb,λz hz=>S.more hF (S.keep ha (h3 z hz))⟩
 lt:=λ⟨_,_,h2,_⟩ e=>h2.lt _ e }
def Free(h0:Nat)(F0:Nat->Prop)(Γ:List Res)(W:World)(b:Nat):Prop:=(F0 b\/(h0<=b/\b<W.heap.size))/\∀r∈Γ,r.block≠some b
def All(h0:Nat)(F0:Nat->Prop)(W:World)(b:Nat):Prop:=F0 b\/(h0<=b/\b<W.heap.size)
structure Sep(w0:World)(F0:Nat->Prop)(Γ:List Res)(W:World):Prop where
 below:Below w0.heap.size w0 W
 low:∀b,F0 b->b<w0.heap.size
 all:∀r∈Γ,r.holds w0.heap.size (Free w0.heap.size F0 Γ W) W
 dj:Γ.Pairwise λr r'=>∀g,r.block=some g->r'.block≠some g
def At(Γ:List Res)(r:Res):Prop:=r∈Γ
theorem At.z{Γ:List Res}{r:Res}:At (r::Γ) r:=zY0i ..
theorem At.s{Γ:List Res}{r q:Res}(h:At Γ r):At (q::Γ) r:=zY0h _ h
def Put(Γ:List Res)(r r':Res)(Γ':List Res):Prop:=∃l1 l2,Γ=l1++r::l2/\Γ'=l1++r'::l2
theorem Put.z{Γ:List Res}{r r':Res}:Put (r::Γ) r r' (r'::Γ):=⟨[],Γ,rfl,rfl⟩
theorem Put.s{Γ Γ':List Res}{r r' q:Res}(h:Put Γ r r' Γ'):Put (q::Γ) r r' (q::Γ'):=by obtain⟨l1,l2,rfl,rfl⟩:=h;exact⟨q::l1,l2,rfl,rfl⟩
def Del(Γ:List Res)(r:Res)(Γ':List Res):Prop:=∃l1 l2,Γ=l1++r::l2/\Γ'=l1++l2
theorem Del.z{Γ:List Res}{r:Res}:Del (r::Γ) r Γ:=⟨[],Γ,rfl,rfl⟩
theorem Del.s{Γ Γ':List Res}{r q:Res}(h:Del Γ r Γ'):Del (q::Γ) r (q::Γ'):=by obtain⟨l1,l2,rfl,rfl⟩:=h;exact⟨q::l1,l2,rfl,rfl⟩
theorem Put.at_{Γ Γ':List Res}{r r':Res}(h:Put Γ r r' Γ'):At Γ r:=by obtain⟨l1,l2,rfl,rfl⟩:=h;simp[At]
def Sub(Γ' Γ:List Res):Prop:=∃l,Γ.Perm (Γ'++l)
theorem Sub.nil{Γ:List Res}:Sub [] Γ:=⟨Γ,by simp⟩
theorem Sub.refl{Γ:List Res}:Sub Γ Γ:=⟨[],by simp⟩
theorem Sub.skip{Γ Γ':List Res}{r:Res}(h:Sub Γ' Γ):Sub Γ' (r::Γ):=by obtain⟨l,hl⟩:=h;exact⟨r::l,(hl.cons r).trans List.perm_middle.symm⟩
theorem Sub.take{Γ Γ1 Γ':List Res}{r:Res}(hd:Del Γ r Γ1)(h:Sub Γ' Γ1):Sub (r::Γ') Γ:=by obtain⟨l1,l2,rfl,rfl⟩:=hd;obtain⟨l,hl⟩:=h;exact⟨l,List.perm_middle.trans (hl.cons r)⟩
section
variable {w0 W W':World} {F0:Nat->Prop} {Γ Γ':List Res}
theorem Sep.size(h:Sep w0 F0 Γ W):w0.heap.size<=W.heap.size:=h.below.size
theorem Free.lt(h:Sep w0 F0 Γ W)(hb:Free w0.heap.size F0 Γ W b):b<W.heap.size:=by
 rcases hb.1 with h1|h1
 ·exact zY1v (h.low b h1) h.size
 ·exact h1.2
theorem Free.all{h0:Nat}(hb:Free h0 F0 Γ W b):All h0 F0 W b:=hb.1
theorem All.lt(h:Sep w0 F0 Γ W)(hb:All w0.heap.size F0 W b):b<W.heap.size:=by
 rcases hb with h1|h1
 ·exact zY1v (h.low b h1) h.size
 ·exact h1.2
theorem Sep.start(w:World)(F:Nat->Prop)(hF:∀b,F b->b<w.heap.size):Sep w F [] w:=⟨Below.refl _ _,hF,by simp,List.Pairwise.nil⟩
theorem Sep.get(h:Sep w0 F0 Γ W){r:Res}(hr:At Γ r):r.holds w0.heap.size (Free w0.heap.size F0 Γ W) W:=h.all r hr
theorem Sep.out(h:Sep w0 F0 Γ W){r:Res}(hr:At Γ r):r.holds w0.heap.size (All w0.heap.size F0 W) W:=r.keep (λ_ _=>rfl) (λb hb=>hb.1) (λ_ _=>rfl) (h.all r hr)
theorem Sep.lts(h:Sep w0 F0 Γ W){r:Res}(hr:At Γ r):r.holds w0.heap.size (Lt W.heap.size) W:=r.keep (λ_ _=>rfl) (λb hb=>Free.lt h hb) (λ_ _=>rfl) (h.all r hr)
theorem Sep.sub(h:Sep w0 F0 Γ W)(hs:Sub Γ' Γ):Sep w0 F0 Γ' W:=by obtain⟨l,hl⟩:=hs;have hm:∀r∈Γ',r∈Γ:=λr hr=>hl.mem_iff.2 (List.mem_append_left _ hr);refine⟨h.below,h.low,λr hr=>r.keep (λ_ _=>rfl) (λb hb=>⟨hb.1,λq hq=>hb.2 q (hm q hq)⟩) (λ_ _=>rfl) (h.all r (hm r hr)),?_⟩;have hp:=(hl.pairwise_iff (R:=λr r':Res=>∀g,r.block=some g->r'.block≠some g) (λhab g hb ha=>hab g ha hb)).1 h.dj;exact(zY2p.1 hp).1
theorem Sep.grow(h:Sep w0 F0 Γ W)(hg:W.grownBy W' none){r:Res}(hr:r.holds w0.heap.size (Free w0.heap.size F0 (r::Γ) W') W')(hb:∀g,r.block=some g->W.heap.size<=g):Sep w0 F0 (r::Γ) W':=by
 have hsz:=h.size;have hfree:∀b,Free w0.heap.size F0 Γ W b->Free w0.heap.size F0 (r::Γ) W' b:=by
  intro b hb';have hlt:=Free.lt h hb';refine⟨hb'.1.imp (λx=>x) (λx=>⟨x.1,zY1v x.2 hg.size⟩),λq hq=>?_⟩;rcases zY0g.1 hq with rfl|hq
  ·intro e;have:=hb b e;omega
  ·exact hb'.2 q hq
 refine⟨h.below.grown hg hsz (λk hk=>by cases hk),h.low,?_,?_⟩
 ·intro q hq;rcases zY0g.1 hq with rfl|hq
  ·exact hr
  ·exact q.keep (λb hb'=>hg.block b (Free.lt h hb') zX4) hfree (λg hg'=>hg.block g (q.lt (h.all q hq) hg').2 zX4) (h.all q hq)
 ·refine zY1h.2 ⟨λq hq g h1 h2=>?_,h.dj⟩;have h3:=hb g h1;have h4:=(q.lt (h.all q hq) h2).2;omega
theorem Sep.more(h:Sep w0 F0 Γ W)(hg:W.grownBy W' none):Sep w0 F0 Γ W':=by
 have hfree:∀b,Free w0.heap.size F0 Γ W b->Free w0.heap.size F0 Γ W' b:=λb hb' =>
  ⟨hb'.1.imp (λx=>x) (λx=>⟨x.1,zY1v x.2 hg.size⟩),hb'.2⟩
 exact⟨h.below.grown hg h.size (λk hk=>by cases hk),h.low,λq hq=>q.keep (λb hb'=>hg.block b (Free.lt h hb') zX4) hfree (λg hg'=>hg.block g (q.lt (h.all q hq) hg').2 zX4) (h.all q hq),h.dj⟩
theorem zr2{W W':World}{row:Option Nat}(h:Below W.heap.size W W'):W.grownBy W' row:=⟨h.os,h.tape,h.output,h.size,λk hk _=>h.block k hk⟩
theorem Sep.belows(h:Sep w0 F0 Γ W)(hb:Below W.heap.size W W'):Sep w0 F0 Γ W':=h.more (zr2 hb)
theorem Sep.drew(h:Sep w0 F0 Γ W):Sep w0 F0 Γ W.drew:=h.belows (Below.refl _ _).drew
theorem Sep.drewN(h:Sep w0 F0 Γ W)(n:Nat):Sep w0 F0 Γ (W.drewN n):=h.belows (zfv (Below.refl _ _) n)
theorem Sep.add(h:Sep w0 F0 Γ W){r:Res}(hn:r.block=none)(hr:r.holds w0.heap.size (Free w0.heap.size F0 Γ W) W):Sep w0 F0 (r::Γ) W:=by
 refine h.grow ⟨rfl,rfl,rfl,zY0k _,λ_ _ _=>rfl⟩ (r.keep (λ_ _=>rfl) (λb hb=>⟨hb.1,λq hq=>?_⟩) (λ_ _=>rfl) hr) (λg hg=>by rw[hn]at hg;cases hg);rcases zY0g.1 hq with rfl|hq
 ·rw[hn];simp
 ·exact hb.2 q hq
theorem Sep.lift(h:Sep w0 F0 Γ W){r q:Res}(hn:q.block=none)(hr:r.holds w0.heap.size (Free w0.heap.size F0 Γ W) W):r.holds w0.heap.size (Free w0.heap.size F0 (q::Γ) W) W :=
 r.keep (λ_ _=>rfl) (λb hb=>⟨hb.1,λp hp=>by
  rcases zY0g.1 hp with rfl|hp
  ·rw[hn];simp
  ·exact hb.2 p hp⟩) (λ_ _=>rfl) hr
theorem Sep.add2(h:Sep w0 F0 Γ W){r q:Res}(hn:r.block=none)(hm:q.block=none)(hr:r.holds w0.heap.size (Free w0.heap.size F0 Γ W) W)(hq:q.holds w0.heap.size (Free w0.heap.size F0 Γ W) W):Sep w0 F0 (r::q::Γ) W :=
 (h.add hm hq).add hn (h.lift hm hr)
theorem Sep.put(h:Sep w0 F0 Γ W){r r':Res}(hp:Put Γ r r' Γ')(hg:W.grownBy W' r.block)(hb:∀g,r'.block=some g->r.block=some g\/W.heap.size<=g)
  (hr:(∀b,Free w0.heap.size F0 Γ W b->Free w0.heap.size F0 Γ' W' b)->Agree (Free w0.heap.size F0 Γ W) W W'->r.holds w0.heap.size (Free w0.heap.size F0 Γ W) W->r'.holds w0.heap.size (Free w0.heap.size F0 Γ' W') W'):Sep w0 F0 Γ' W':=by
 obtain⟨l1,l2,rfl,rfl⟩:=hp;have hmr:r∈l1++r::l2:=zX4;have hother:∀q,q∈l1\/q∈l2->q∈l1++r::l2:=λq hq=>by rcases hq with hq|hq<;>simp[hq]
 have hp:=zY2p.1 h.dj;have hp2:=zY1h.1 hp.2.1;have hdj:∀q,q∈l1\/q∈l2->∀g,q.block=some g->r.block≠some g:=by
  intro q hq g h1 h2;rcases hq with hq|hq
  ·exact hp.2.2 q hq r zX4 g h1 h2
  ·exact hp2.1 q hq g h2 h1
 have hfree:∀b,Free w0.heap.size F0 (l1++r::l2) W b->Free w0.heap.size F0 (l1++r'::l2) W' b:=by
  intro b hb';have hlt:=Free.lt h hb';refine⟨hb'.1.imp (λx=>x) (λx=>⟨x.1,zY1v x.2 hg.size⟩),λq hq=>?_⟩;simp only[zY13,zY0g]at hq;rcases hq with hq|rfl|hq
  ·exact hb'.2 q (hother q (.inl hq))
  ·intro e;rcases hb b e with h1|h1
   ·exact hb'.2 r hmr h1
   ·omega
  ·exact hb'.2 q (hother q (.inr hq))
 have hag:Agree (Free w0.heap.size F0 (l1++r::l2) W) W W':=λb hb'=>hg.block b (Free.lt h hb') (λe=>hb'.2 r hmr e.symm);have hkeep:∀q,q∈l1\/q∈l2->q.holds w0.heap.size (Free w0.heap.size F0 (l1++r'::l2) W') W':=λq hq =>
  q.keep hag hfree (λg hg'=>hg.block g (q.lt (h.all q (hother q hq)) hg').2 (λe=>hdj q hq g hg' e.symm)) (h.all q (hother q hq))
 refine⟨h.below.grown hg h.size (λk hk=>(r.lt (h.all r hmr) hk).1),h.low,?_,?_⟩
 ·intro q hq;simp only[zY13,zY0g]at hq;rcases hq with hq|rfl|hq
  ·exact hkeep q (.inl hq)
  ·exact hr hfree hag (h.all r hmr)
  ·exact hkeep q (.inr hq)
 ·have hnew:∀q,q∈l1\/q∈l2->∀g,q.block=some g->r'.block≠some g:=by
   intro q hq g h1 h2;rcases hb g h2 with h3|h3
   ·exact hdj q hq g h1 h3
   ·have:=(q.lt (h.all q (hother q hq)) h1).2;omega
  refine zY2p.2 ⟨hp.1,zY1h.2 ⟨λq hq g h1 h2=>hnew q (.inr hq) g h2 h1,hp2.2⟩,?_⟩;intro q hq q' hq' g h1 h2;rcases zY0g.1 hq' with rfl|hq'
  ·exact hnew q (.inl hq) g h1 h2
  ·exact hp.2.2 q hq q' (by simp[hq']) g h1 h2
theorem Sep.alloc(h:Sep w0 F0 Γ W)(cs:List Value)(t:Nat):Sep w0 F0 (box W.heap.size cs t::Γ) (W.alloc (.cells cs.toArray t)) :=
 h.grow (World.grownBy_alloc W _ none) ⟨h.size,heap_alloc_new W _⟩ (λg hg=>by injection hg with hg;omega)
theorem Sep.store(h:Sep w0 F0 Γ W){t:Nat}{cs:List Value}(u:Value)(hp:Put Γ (box g cs t) (box g (cs.set j u) t) Γ'):Sep w0 F0 Γ' (W.setCell ⟨g,j,none⟩ u):=by refine h.put hp ⟨rfl,rfl,rfl,by simp[World.setCell],λk hk hne=>Below.heap_setCell _ _ _ _ (λe=>hne zX1n)⟩ (λg' hg'=>.inl hg') ?_;intro _ _ hr;refine⟨hr.1,?_⟩;have:=z01x (i:=j) (u:=u) hr.2;rw[this];simp
theorem Sep.freeze(h:Sep w0 F0 Γ W){r r':Res}(hp:Put Γ r r' Γ')(hn:r'.block=none)(hr:(∀b,Free w0.heap.size F0 Γ W b\/(r.block=some b/\w0.heap.size<=b/\b<W.heap.size)->Free w0.heap.size F0 Γ' W b)->r.holds w0.heap.size (Free w0.heap.size F0 Γ W) W->r'.holds w0.heap.size (Free w0.heap.size F0 Γ' W) W):Sep w0 F0 Γ' W:=by
 refine h.put hp ⟨rfl,rfl,rfl,zY0k _,λ_ _ _=>rfl⟩ (λg hg=>by rw[hn]at hg;cases hg) ?_;intro hf _ hh;refine hr (λb hb=>?_) hh;rcases hb with hb|⟨hb,h1,h2⟩
 ·exact hf b hb
 ·refine⟨.inr ⟨h1,h2⟩,λq hq e=>?_⟩;obtain⟨l1,l2,rfl,rfl⟩:=hp;have hp:=zY2p.1 h.dj;have hp2:=zY1h.1 hp.2.1;simp only[zY13,zY0g]at hq;rcases hq with hq|rfl|hq
  ·exact hp.2.2 q hq r zX4 b e hb
  ·rw[hn]at e;cases e
  ·exact hp2.1 q hq b hb e
end
def AggN(P:Program)(t:TypeId)(n:Nat):Prop:=∃d,P.underlying t=some d/\d.isRow=true/\(P.info? t).map (·.size)=some n
def OneT(P:Program)(t:TypeId):Prop:=∃d,P.underlying t=some d/\d.isRow=false/\(P.info? t).map (·.size)=some 1
def z65(P:Program)(t:TypeId)(cs:List Value):Prop:=∃z:Value,z.cells=cs.toArray/\∀W,(zeroValue t).run P W=.ok z W
def SliceT(P:Program)(t e size bytes:Nat):Prop:=P.underlying t=some (.slice e)/\∃i z,P.info? e=some i/\i.zero=some z/\i.size=size/\i.bytes=bytes/\z.cells.size=size
theorem SliceT.mk{P:Program}{t size bytes:Nat}(h:P.underlying t=some (.slice e))(h1:(P.info? e).map (λi=>(i.zero.map (·.cells.size),i.size,i.bytes))=some (some size,size,bytes)):SliceT P t e size bytes:=by
 refine⟨h,?_⟩
 match hh:P.info? e,h1 with
 |some i,h1 =>
  simp only[zY1i,zY00,zY19]at h1
  match hz:i.zero,h1 with
  |some z,h1=>exact⟨i,z,rfl,hz,h1.2.1,h1.2.2,by simpa using h1.1⟩
theorem AggN.mk{P:Program}{t:Nat}{d:TypeDesc}(h:P.underlying t=some d)(hd:d.isRow=true)(hi:(P.info? t).map (·.size)=some n):AggN P t n:=⟨d,h,hd,hi⟩
theorem OneT.mk{P:Program}{t:Nat}{d:TypeDesc}(h:P.underlying t=some d)(hd:d.isRow=false)(hi:(P.info? t).map (·.size)=some 1):OneT P t:=⟨d,h,hd,hi⟩
theorem OneT.load{P:Program}{t:Nat}(h:OneT P t){W:World}{p:Addr}{v:Value}(hv:W.cell? p=some v):(loadVar t p).run P W=.ok v W:=by
 obtain⟨d,hu,hd,_⟩:=h;have hagg:(isAgg t).run P W=.ok false W:=by unfold isAgg;rw[Sem.run_bind,run_underlying hu W];cases d<;>simp_all
 simp[loadVar,Sem.run_bind,hagg,hv]
theorem AggN.load{P:Program}{t o:Nat}{cs:List Value}(h:AggN P t cs.length){W:World}(hv:W.rangeAt b o cs):(loadVar t ⟨b,o,none⟩).run P W=.ok (.agg cs.toArray) W:=by obtain⟨d,hu,hd,hi⟩:=h;exact run_loadVar_mid W b o t cs d hv hu hd hi
theorem z06b{v:Value}(h:v.oneCell'=true):v.cells=#[v]:=by cases v<;>first|rfl|cases h
theorem OneT.store{P:Program}{t:Nat}(h:OneT P t){W:World}{p:Addr}{v u:Value}(hv:W.cell? p=some u)(hf:W.frozen? p=false)(h1:v.oneCell'=true):(storeVar t p v).run P W=.ok () (W.setCell p v):=by
 obtain⟨d,hu,hd,hi⟩:=h
 match hh:P.info? t,hi with
 |some i,hi =>
  simp at hi;have e:p.add 0=p:=by unfold Addr.add;simp
  simp[storeVar,sizeOf,typeInfo,hh,z06b h1,hi,storeCells,e,run_store P W p v _ h1,hv,hf]
theorem AggN.store{P:Program}{t:Nat}{old cs:List Value}(h:AggN P t cs.length){W:World}(hg:W.heap[g]?=some (.cells old.toArray ty (0,0)))(hl:old.length=cs.length)(h1:znb cs) :
  (storeVar t ⟨g,0,none⟩ (.agg cs.toArray)).run P W=.ok () (W.setRow g cs.toArray):=by
 obtain⟨d,hu,hd,hi⟩:=h;exact run_storeVar_row W g ty t old.toArray cs.toArray hg zXw zXf (all_oneCell_toArray h1)
def RV(w0:World)(F0:Nat->Prop)(Γ:List Res)(v:Value)(e:Ending)(W:World):Prop:=e=.returned v/\Sep w0 F0 Γ W
section
variable {P:Program} {w0 W:World} {F0:Nat->Prop} {Γ Γ' Γ1:List Res}
theorem Sep.old(h:Sep w0 F0 Γ W){f:FuncId}{args:Array Value}{v:Value}(hc:Calls P f args W λe w'=>e=.returned v/\Below W.heap.size W w'):Calls P f args W (RV w0 F0 Γ v) :=
 hc.mono λe w' ⟨h1,h2⟩=>⟨h1,h.belows h2⟩
theorem Sep.boxAt(h:Sep w0 F0 Γ W){t:Nat}{cs:List Value}(hm:At Γ (box g cs t)):W.rangeAt g 0 cs:=λj v hv=>by rw[zY0z,z6i (h.get hm).2];simpa using hv
theorem Sep.cellsAt(h:Sep w0 F0 Γ W){o:Nat}{cs:List Value}(hm:At Γ (cells b o cs)):W.rangeAt b o cs:=(h.get hm).2
section
variable {ops:Array Oper} {Q:Exit->Act->World->Prop} {a:Act} {rest:List Oper} {o:Oper} {t:TypeId} {x y:Operand}
theorem Sep.wbox(h:Sep w0 F0 Γ W){cs:List Value}(hgd:Region.wanted o (yielded ops a.tmps)=true)(ho:o.op=.box t x)(hx:(a.eval x).cells=cs.toArray)
  (k:∀g W',Sep w0 F0 (box g cs t::Γ) W'->wpList P ops Q rest (a.put o.dst (.pointer (some ⟨g,0,none⟩))) W'):wpList P ops Q (o::rest) a W :=
 BigFrame.wpList_want hgd λK hK=>by unfold Oper.wp execOp;simp only[ho,Instr.box,newVar,newRow,Sem.run_bind,run_newObj_alloc,Result.andThen_ok,Sem.run_pure,hx];exact hK _ _ (k _ _ (h.alloc cs t))
theorem Sep.walloc(h:Sep w0 F0 Γ W){cs:List Value}(hgd:Region.wanted o (yielded ops a.tmps)=true)(ho:o.op=.alloc t)(hz:z65 P t cs)
  (k:∀g W',Sep w0 F0 (box g cs t::Γ) W'->wpList P ops Q rest (a.put o.dst (.pointer (some ⟨g,0,none⟩))) W'):wpList P ops Q (o::rest) a W :=
 BigFrame.wpList_want hgd λK hK=>by obtain⟨z,hz1,hz2⟩:=hz;unfold Oper.wp execOp;simp only[ho,Instr.alloc,newVar,newRow,Sem.run_bind,run_newObj_alloc,Result.andThen_ok,Sem.run_pure,hz2,hz1];exact hK _ _ (k _ _ (h.alloc cs t))
theorem zoy(hgd:Region.wanted o (yielded ops a.tmps)=true)(ho:o.op=.load t x){p:Addr}{v:Value}(hx:a.eval x=.pointer (some p))(hr:(loadVar t p).run P W=.ok v W)
  (k:wpList P ops Q rest (a.put o.dst v) W):wpList P ops Q (o::rest) a W :=
 BigFrame.wpList_want hgd λK hK=>by unfold Oper.wp execOp;simp only[ho,Instr.loadAt,Instr.sureAddr,Sem.run_bind,Result.andThen_ok,Sem.run_pure,hx,hr];exact hK _ _ k
theorem Sep.wload1b(h:Sep w0 F0 Γ W)(hgd:Region.wanted o (yielded ops a.tmps)=true)(ho:o.op=.load t x){cs:List Value}{v:Value}(hx:a.eval x=.pointer (some ⟨g,j,none⟩))(h1:OneT P t)(hm:At Γ (box g cs ty))(hv:cs[j]?=some v)
  (k:wpList P ops Q rest (a.put o.dst v) W):wpList P ops Q (o::rest) a W:=by
 refine zoy hgd ho hx (h1.load ?_) k;have:=h.boxAt hm j v hv
 rwa [zY0z]at this
theorem Sep.wloadNb(h:Sep w0 F0 Γ W)(hgd:Region.wanted o (yielded ops a.tmps)=true)(ho:o.op=.load t x){cs:List Value}(hx:a.eval x=.pointer (some ⟨g,0,none⟩))(hm:At Γ (box g cs ty))(h1:AggN P t cs.length)
  (k:wpList P ops Q rest (a.put o.dst (.agg cs.toArray)) W):wpList P ops Q (o::rest) a W :=
 zoy hgd ho hx (h1.load (h.boxAt hm)) k
theorem Sep.wload1c(h:Sep w0 F0 Γ W)(hgd:Region.wanted o (yielded ops a.tmps)=true)(ho:o.op=.load t x){cs:List Value}{v:Value}(hx:a.eval x=.pointer (some ⟨b,q+j,none⟩))(h1:OneT P t)(hm:At Γ (cells b q cs))(hv:cs[j]?=some v)
  (k:wpList P ops Q rest (a.put o.dst v) W):wpList P ops Q (o::rest) a W :=
 zoy hgd ho hx (h1.load (h.cellsAt hm j v hv)) k
theorem Sep.wload1z(h:Sep w0 F0 Γ W)(hgd:Region.wanted o (yielded ops a.tmps)=true)(ho:o.op=.load t x){cs:List Value}{v:Value}(hx:a.eval x=.pointer (some ⟨b,q,none⟩))(h1:OneT P t)(hm:At Γ (cells b q cs))(hv:cs[0]?=some v)
  (k:wpList P ops Q rest (a.put o.dst v) W):wpList P ops Q (o::rest) a W :=
 zoy hgd ho hx (h1.load (h.cellsAt hm 0 v hv)) k
theorem Sep.wloadNz(h:Sep w0 F0 Γ W)(hgd:Region.wanted o (yielded ops a.tmps)=true)(ho:o.op=.load t x){cs:List Value}(hx:a.eval x=.pointer (some ⟨b,q,none⟩))(hm:At Γ (cells b q cs))(h1:AggN P t cs.length)
  (k:wpList P ops Q rest (a.put o.dst (.agg cs.toArray)) W):wpList P ops Q (o::rest) a W :=
 zoy hgd ho hx (h1.load (h.cellsAt hm)) k
theorem z0f9(hgd:Region.wanted o (yielded ops a.tmps)=true)(ho:o.op=.store t x y){p:Addr}{v:Value}{W':World}(hx:a.eval x=.pointer (some p))(hy:a.eval y=v)(hr:(storeVar t p v).run P W=.ok () W')
  (k:wpList P ops Q rest (a.put o.dst undef) W'):wpList P ops Q (o::rest) a W :=
 BigFrame.wpList_want hgd λK hK=>by unfold Oper.wp execOp;simp only[ho,Instr.storeAt,Instr.sureAddr,Sem.run_bind,Result.andThen_ok,Sem.run_pure,hx,hy,hr];exact hK _ _ k
theorem z03d{W:World}{cs:Array Value}(h:k≠g):(W.setRow g cs).heap[k]?=W.heap[k]?:=setRow_other W g k cs h
theorem Sep.setRow(h:Sep w0 F0 Γ W){cs cs':List Value}(hp:Put Γ (box g cs ty) (box g cs' ty) Γ'):Sep w0 F0 Γ' (W.setRow g cs'.toArray):=by refine h.put hp ⟨rfl,rfl,rfl,by simp,λk hk hne=>z03d (λe=>hne zX1n)⟩ (λg' hg'=>.inl hg') ?_;intro _ _ hr;exact⟨hr.1,setRow_heap W g cs.toArray cs'.toArray ty _ hr.2⟩
theorem Sep.wstoreNb(h:Sep w0 F0 Γ W)(hgd:Region.wanted o (yielded ops a.tmps)=true)(ho:o.op=.store t x y){cs cs':List Value}(hx:a.eval x=.pointer (some ⟨g,0,none⟩))(hy:a.eval y=.agg cs'.toArray)(h1:AggN P t cs'.length)(hone:znb cs')
  (hm:At Γ (box g cs ty)) (hl:cs.length=cs'.length) (hp:Put Γ (box g cs ty) (box g cs' ty) Γ')
  (k:∀W',Sep w0 F0 Γ' W'->wpList P ops Q rest (a.put o.dst undef) W'):wpList P ops Q (o::rest) a W:=by
 have hb:=(h.get hm).2;exact z0f9 hgd ho hx hy (h1.store hb hl hone) (k _ (h.setRow hp))
end
end
section
variable {P:Program} {w0 W:World} {F0:Nat->Prop} {Γ Γ' Γ1 Γ2:List Res}
theorem Del.sub{r:Res}(h:Del Γ r Γ1):Sub Γ1 Γ:=by obtain⟨l1,l2,rfl,rfl⟩:=h;exact⟨[r],by simpa using List.perm_middle.trans (List.perm_append_singleton r (l1++l2)).symm⟩
theorem Del.front{r:Res}(h:Del Γ r Γ1):Sub (r::Γ1) Γ:=Sub.take h Sub.refl
theorem Sep.front(h:Sep w0 F0 Γ W){r:Res}(hd:Del Γ r Γ1):Sep w0 F0 (r::Γ1) W:=h.sub hd.front
theorem Sep.elem(h:Sep w0 F0 Γ W){S:Sh α}{xs:List α}{A:Option Addr}(hm:At Γ (rds xs A n c S))(hi:i<n) :
  ∃b off z cs,A=some ⟨b,off,none⟩/\xs[i]?=some z/\Sep w0 F0 (cells b (off+i*S.size) cs::rep z cs S::Γ) W:=by
 have hr:Rds S W (Free w0.heap.size F0 Γ W) xs A n c:=h.get hm;obtain⟨b,off,z,cs,e,hF,hx,hz,hc⟩:=hr.at_ hi;refine⟨b,off,z,cs,e,hx,?_⟩;have h1:Sep w0 F0 (rep z cs S::Γ) W:=h.add rfl hz;exact h1.add rfl ⟨⟨hF.1,λq hq=>by
  rcases zY0g.1 hq with rfl|hq
  ·intro e;cases e
  ·exact hF.2 q hq⟩,hc⟩
section
variable {ops:Array Oper} {Q:Exit->Act->World->Prop} {a:Act} {rest:List Oper} {o:Oper} {t:TypeId} {x y:Operand}
end
theorem Sep.pure(h:Sep w0 F0 Γ W){S:Sh α}{z:α}{cs:List Value}(hz:∀W F,S.rep W F z cs):Sep w0 F0 (rep z cs S::Γ) W:=h.add rfl (hz _ _)
theorem Sep.open_int(h:Sep w0 F0 Γ W){x:Int}{cs:List Value}(hm:At Γ (rep x cs shInt)):cs=[.int .i64 x]/\I64 x:=h.get hm
theorem Sep.open_in(h:Sep w0 F0 Γ W){x:In}{cs:List Value}(hm:At Γ (rep x cs shIn)):∃A n c,cs=[.int .i64 x.p.tx,.int .i64 x.p.at_,.slice A n c]/\I64 x.p.tx/\I64 x.p.at_/\Sep w0 F0 (rds x.key A n c shOp::Γ) W:=by obtain⟨A,n,c,e,h1,h2,h3⟩:=z064 (h.get hm);exact⟨A,n,c,e,h1,h2,h.add rfl h3⟩
theorem Sep.open_out(h:Sep w0 F0 Γ W){x:Out}{cs:List Value}(hm:At Γ (rep x cs shOut)):∃A n c,cs=[.int .i64 x.coin,.slice A n c]/\I64 x.coin/\Sep w0 F0 (rds x.lock A n c shOp::Γ) W:=by obtain⟨A,n,c,e,h1,h3⟩:=zqz (h.get hm);exact⟨A,n,c,e,h1,h.add rfl h3⟩
theorem Sep.open_tx(h:Sep w0 F0 Γ W){x:Tx}{cs:List Value}(hm:At Γ (rep x cs shTx)):∃A n c A' n' c',cs=[.int .i64 x.height,.slice A n c,.slice A' n' c']/\I64 x.height/\Sep w0 F0 (rds x.ins A n c shIn::rds x.outs A' n' c' shOut::Γ) W:=by obtain⟨A,n,c,A',n',c',e,h1,h3,h4⟩:=zw9 (h.get hm);exact⟨A,n,c,A',n',c',e,h1,h.add2 rfl rfl h3 h4⟩
theorem Sep.open_block(h:Sep w0 F0 Γ W){x:Block}{cs:List Value}(hm:At Γ (rep x cs shBlock)):∃A n c,cs=[.int .i64 x.parent,.int .i64 x.height,.int .i64 x.work,.int .i64 x.nonce,.slice A n c]/\I64 x.parent/\I64 x.height/\I64 x.work/\I64 x.nonce/\Sep w0 F0 (rds x.txs A n c shTx::Γ) W:=by obtain⟨A,n,c,e,h1,h2,h3,h4,h5⟩:=zjl (h.get hm);exact⟨A,n,c,e,h1,h2,h3,h4,h.add rfl h5⟩
theorem Sep.lit(h:Sep w0 F0 Γ W){S:Sh α}{cs:List Value}(zs:List (α×List Value))(hd:Del Γ (Proofs.YtmjelcjgllkapaaGreatDoor.box g cs e) Γ1)(hc:cs=flat zs)(hz:∀z∈zs,At Γ1 (rep z.1 z.2 S))(hn:zs.length<=1000000):Sep w0 F0 (rds (zs.map (·.1)) (some ⟨g,0,none⟩) zs.length zs.length S::Γ1) W:=by have h1:=h.front hd;refine h1.freeze (r':=rds (zs.map (·.1)) (some ⟨g,0,none⟩) zs.length zs.length S) Put.z rfl ?_;intro hF hb;have hb':w0.heap.size<=g/\W.heap[g]?=some (.cells cs.toArray e (0,0)):=hb;refine Rds.of_block (zs:=zs) (F:=Free w0.heap.size F0 (rds (zs.map (·.1)) (some ⟨g,0,none⟩) zs.length zs.length S::Γ1) W) hb'.2 (by simp[hc]) (λz hz'=>?_) (hF g (.inr ⟨rfl,hb'.1,zjn hb'.2⟩)) (zY0k _) zX0;have h2:S.rep W (Free w0.heap.size F0 (Proofs.YtmjelcjgllkapaaGreatDoor.box g cs e::Γ1) W) z.1 z.2:=h1.get (At.s (hz z hz'));exact S.more (λb hb=>hF b (.inl hb)) h2
theorem Sep.getRds(h:Sep w0 F0 Γ W){S:Sh α}{xs:List α}{A:Option Addr}(hm:At Γ (rds xs A n c S)):Rds S W (Free w0.heap.size F0 Γ W) xs A n c:=h.get hm
theorem Sep.ltsRds(h:Sep w0 F0 Γ W){S:Sh α}{xs:List α}{A:Option Addr}(hm:At Γ (rds xs A n c S)):Rds S W (Lt W.heap.size) xs A n c:=h.lts hm
theorem Sep.ltsRep(h:Sep w0 F0 Γ W){S:Sh α}{x:α}{cs:List Value}(hm:At Γ (rep x cs S)):S.rep W (Lt W.heap.size) x cs:=h.lts hm
theorem Sep.putRow{W':World}{S:Sh α}{v:Value}{xs xs':List α}(h:Sep w0 F0 (Proofs.YtmjelcjgllkapaaGreatDoor.row e v xs S::Γ) W)(hg:W.grownBy W' v.ownBlock)
  (hr:(∀b,Free w0.heap.size F0 (Proofs.YtmjelcjgllkapaaGreatDoor.row e v xs S::Γ) W b->Free w0.heap.size F0 (Proofs.YtmjelcjgllkapaaGreatDoor.row e v xs' S::Γ) W' b)->Agree (Free w0.heap.size F0 (Proofs.YtmjelcjgllkapaaGreatDoor.row e v xs S::Γ) W) W W'->∀zs:List (α×List Value),zs.map (·.1)=xs->W.ownsRow w0.heap.size e S.size v xs.length (flat zs)->(∀z∈zs,S.rep W (Free w0.heap.size F0 (Proofs.YtmjelcjgllkapaaGreatDoor.row e v xs S::Γ) W) z.1 z.2) ->
   ∃zs:List (α×List Value),zs.map (·.1)=xs'/\W'.ownsRow w0.heap.size e S.size v xs'.length (flat zs)/\∀z∈zs,S.rep W' (Free w0.heap.size F0 (Proofs.YtmjelcjgllkapaaGreatDoor.row e v xs' S::Γ) W') z.1 z.2):Sep w0 F0 (Proofs.YtmjelcjgllkapaaGreatDoor.row e v xs' S::Γ) W' :=
 h.put (r:=Proofs.YtmjelcjgllkapaaGreatDoor.row e v xs S) (r':=Proofs.YtmjelcjgllkapaaGreatDoor.row e v xs' S) Put.z hg (λg hg=>.inl hg) (λhf ha ⟨zs,h1,h2,h3⟩=>hr hf ha zs h1 h2 h3)
theorem Sep.getBox(h:Sep w0 F0 Γ W){t:Nat}{cs:List Value}(hm:At Γ (box g cs t)):w0.heap.size<=g/\W.heap[g]?=some (.cells cs.toArray t (0,0)):=h.get hm
theorem Sep.len(h:Sep w0 F0 Γ W){S:Sh α}{xs:List α}{A:Option Addr}(hm:At Γ (rds xs A n c S)):xs.length=n/\n<=c/\c<=9223372036854775807:=⟨(h.getRds hm).1,(h.getRds hm).2.1,(h.getRds hm).2.2.1⟩
theorem Sep.addRep(h:Sep w0 F0 Γ W){S:Sh α}{x:α}{cs:List Value}(hr:S.rep W (Free w0.heap.size F0 Γ W) x cs):Sep w0 F0 (rep x cs S::Γ) W:=h.add rfl hr
end
attribute [irreducible] znc rds rep cells box row At Put Del Sub
def eqB[DecidableEq α](xs ys:List α):Bool:=decide (xs=ys)
theorem Rds.op{xs:List Op}{A:Option Addr}(h:Rds shOp w F xs A n c)(hk:k<n) :
  ∃b off x,A=some ⟨b,off,none⟩/\F b/\xs[k]?=some x/\(w.cell? ⟨b,off+k*2,none⟩=some (.int .i64 x.kind)/\w.cell? ⟨b,off+k*2+1,none⟩=some (.int .i64 x.n))/\I64 x.kind/\I64 x.n:=by
 obtain⟨b,off,x,cs,e,hF,hx,hr,hc⟩:=h.at_ hk;obtain⟨rfl,h1,h2⟩:=z0f7 hr;exact⟨b,off,x,e,hF,hx,⟨by simpa[shOp,z3q,shInt]using hc 0 _ rfl,by simpa[shOp,z3q,shInt]using hc 1 _ rfl⟩,h1,h2⟩
theorem z0a4(xs ys:List (Op))(A A':Option Addr)(n c n' c':Nat)(w:World)(F F':Nat->Prop)(h:Rds shOp w F xs A n c)(h':Rds shOp w F' ys A' n' c') :
  Calls Tryz.prog 59 #[.slice A n c,.slice A' n' c'] w λe w'=>e=.returned (.bool (eqB xs ys))/\∃m,w'=w.drewN m:=by
 have hn:=h.2.1;have hc:=h.2.2.1;have hn':=h'.2.1;have hc':=h'.2.2.1;by_cases hl:n=n'
 ·obtain rfl:=hl;go_enter Tryz.func59,Tryz.ntmps59;go_wp2;go_loopw [5,13] (λ_ i wr=>∃(k m:Nat),k<=n/\i=.int .i64 k/\wr=w.drewN m/\xs.take k=ys.take k) (λ_ i _=>n-(intOf i).toNat);case atStart=>exact⟨0,0,by omega,rfl,rfl,rfl⟩
  case round =>
   obtain⟨k,m,hk,rfl,rfl,hs⟩:=hrel;by_cases hlt:k<n
   ·obtain⟨b,off,x,rfl,-,hx,hcell,x0⟩:=h.op hlt;obtain⟨b',off',y,rfl,-,hy,hcell',y0⟩:=h'.op hlt;have Hs:=Lib.hid hs;have Hx:=Lib.hid hx;have Hy:=Lib.hid hy;have i1:(0:Int)<=(k:Int):=zX0;have i2:(k:Int)<(n:Int):=zX0;clear hs hx hy h h' x0 y0;by_cases hxy:x=y
    ·subst hxy;go_wp2;go_quiet (fail);go_wp2;go_roundw;case measure=>simp[intOf];omega
     case rel=>exact⟨k+1,_,by omega,by go_num,rfl,by rw[z3x Hx.out,z3x Hy.out,Hs.out]⟩
    ·have hne:eqB xs ys=false:=by have:xs≠ys:=λe=>hxy (by have:=Hx.out;rw[e,Hy.out]at this;injection this with this;exact this.symm);simp[eqB,this]
     obtain⟨xk,xn⟩:=x;obtain⟨yk,yn⟩:=y;by_cases h1:xk=yk
     ·subst h1;have h2:(xn==yn)=false:=by simpa using hxy
      clear hxy;go_wp2;go_quiet (fail);go_wp2;all_goals(go_ret;refine⟨z8a ?_,_,World.drewN_drewN _ _ _⟩;exact hne.symm)
     ·have h2:(xk==yk)=false:=by simpa using h1
      clear hxy h1;go_wp2;go_quiet (fail);go_wp2;all_goals(go_ret;refine⟨z8a ?_,_,World.drewN_drewN _ _ _⟩;exact hne.symm)
   ·obtain rfl:k=n:=zX0;have Hs:=Lib.hid hs;clear hs;go_wp2;go_ret;refine⟨z8a ?_,_,rfl⟩;have:=Hs.out;rw[zY0v (by have:=h.1;omega),zY0v (by have:=h'.1;omega)]at this;simp[eqB,this]
 ·have hd:((n:Int)==(n':Int))=false:=by simp;omega
  have e:eqB xs ys=false:=by have:xs≠ys:=λe=>hl (by rw[<- h.1,<- h'.1,e]);simp[eqB,this]
  rw[e];clear hl e;go_enter Tryz.func59,Tryz.ntmps59;go_wp2;go_ret;exact⟨rfl,0,rfl⟩
def z1a{α:Type}[DecidableEq α](x:α):List α->Nat->Int
 | [],_ => -1
 |y::l,k=>if x=y then k else z1a x l (k+1)
def idx[DecidableEq α](xs:List α)(x:α):Int:=z1a x xs 0
def z15[DecidableEq α](xs:List α)(x:α):Bool:=decide (x∈xs)
theorem ztb[DecidableEq α](x:α)(l:List α)(k:Nat):(0<=z1a x l k↔x∈l):=by
 induction l generalizing k with
 |nil=>simp[z1a]
 |cons y l ih =>
  by_cases h:x=y
  ·subst h;simp[z1a]
  ·rw[z1a,zN h,ih (k+1)];simp[h]
theorem zbx[DecidableEq α](xs:List α)(x:α):(0<=idx xs x↔x∈xs):=ztb x xs 0
theorem z0a5[DecidableEq α](x:α)(l:List α)(k:Nat): -1<=z1a x l k/\z1a x l k<k+l.length\/z1a x l k= -1:=by
 induction l generalizing k with
 |nil=>simp[z1a]
 |cons y l ih =>
  by_cases h:x=y
  ·subst h;simp[z1a];omega
  ·simp only[z1a,zN h,zY08];rcases ih (k+1)with h|h
   ·left;omega
   ·right;exact h
theorem zju[DecidableEq α](xs:List α)(x:α): -1<=idx xs x/\idx xs x<=xs.length:=by rcases z0a5 x xs 0 with h|h<;>unfold idx<;>omega
theorem z06m(xs:List (Int))(y:Int)(A:Option Addr)(n c:Nat)(w:World)(F:Nat->Prop)(h:Rds shInt w F xs A n c) :
  Calls Tryz.prog 21 #[.slice A n c,.int .i64 y] w λe w'=>e=.returned (.int .i64 (idx xs y))/\w=w':=by
 have hn:=h.2.1;have hc:=h.2.2.1;go_enter Tryz.func21,Tryz.ntmps21;go_wp2;go_loop [5,8] (λ_ i=>∃(k:Nat),k<=n/\i=.int .i64 k/\z1a y (xs.drop k) k=idx xs y) (λ_ i=>n-(intOf i).toNat);case atStart=>exact⟨0,by omega,rfl,rfl⟩
 case round =>
  obtain⟨k,hk,rfl,hs⟩:=hrel;by_cases hlt:k<n
  ·obtain⟨b,off,x,rfl,-,hx,hcell,x0⟩:=h.int hlt;rw[z59 hx,z1a]at hs;clear hx h x0;by_cases hxy:y=x
   ·subst hxy;rw[zP rfl]at hs;have Hs:=Lib.hid hs;clear hs;go_wp2;go_ret;exact⟨z0u Hs.out,rfl⟩
   ·rw[zN hxy]at hs;have Hs:=Lib.hid hs;clear hs;have hd:(y==x)=false:=by simpa using hxy
    clear hxy;go_wp2;go_round;case measure=>simp[intOf];omega
    case rel=>exact⟨k+1,by omega,by go_num,Hs.out⟩
  ·obtain rfl:k=n:=zX0;have Hs:=Lib.hid hs;clear hs;go_wp2;go_ret;have:=Hs.out;rw[zY1m (by have:=h.1;omega),z1a]at this;exact⟨z0u this,rfl⟩
theorem z06n(xs:List (List UInt8))(y:List UInt8)(A:Option Addr)(n c:Nat)(w:World)(F:Nat->Prop)(h:Rds shStr w F xs A n c) :
  Calls Tryz.prog 19 #[.slice A n c,.string ⟨y.toArray⟩] w λe w'=>e=.returned (.int .i64 (idx xs y))/\w=w':=by
 have hn:=h.2.1;have hc:=h.2.2.1;go_enter Tryz.func19,Tryz.ntmps19;go_wp2;go_loop [5,8] (λ_ i=>∃(k:Nat),k<=n/\i=.int .i64 k/\z1a y (xs.drop k) k=idx xs y) (λ_ i=>n-(intOf i).toNat);case atStart=>exact⟨0,by omega,rfl,rfl⟩
 case round =>
  obtain⟨k,hk,rfl,hs⟩:=hrel;by_cases hlt:k<n
  ·obtain⟨b,off,x,rfl,-,hx,hcell,x0⟩:=h.str hlt;rw[z59 hx,z1a]at hs;clear hx h x0;by_cases hxy:y=x
   ·subst hxy;rw[zP rfl]at hs;have Hs:=Lib.hid hs;clear hs;go_wp2;go_ret;exact⟨z0u Hs.out,rfl⟩
   ·rw[zN hxy]at hs;have Hs:=Lib.hid hs;clear hs;have hd:(y==x)=false:=by simpa using hxy
    clear hxy;go_wp2;go_round;case measure=>simp[intOf];omega
    case rel=>exact⟨k+1,by omega,by go_num,Hs.out⟩
  ·obtain rfl:k=n:=zX0;have Hs:=Lib.hid hs;clear hs;go_wp2;go_ret;have:=Hs.out;rw[zY1m (by have:=h.1;omega),z1a]at this;exact⟨z0u this,rfl⟩
theorem z0c2(s:List UInt8):(⟨s.toArray⟩:ByteArray).size=s.length:=by simp[ByteArray.size]
def zjv:List (List UInt8)->DataW Unit
 | []=>.map []
 |s::l=>(zjv l).put (.string s) (.lit (.bool true))
theorem z0a6(l:List (List UInt8)):Maps.IsMap (zjv l):=by
 induction l with
 |nil=>exact⟨[],rfl⟩
 |cons s l ih =>obtain⟨es,h⟩:=ih;rw[zjv,h];exact⟨_,rfl⟩
theorem z0d6(l:List (List UInt8))(s:List UInt8):(zjv l).atKey (.string s) (.lit (.bool false))=.lit (.bool (decide (s∈l))):=by
 induction l with
 |nil=>rfl
 |cons t l ih =>
  rw[zjv];by_cases h:s=t
  ·subst h;rw[Maps.atKey_put_same (z0a6 l) (by trivial)];simp
  ·rw[Maps.atKey_put_other (by intro e;injection e with e;exact h e),ih];simp[h]
def z4e:List (List UInt8)->List (List UInt8)->Int
 | [],_=>0
 |s::l,seen=>if 4000<s.length then 2 else if s∈seen then 6 else z4e l (s::seen)
def zk(b:Book):Int:=if 120<b.texts.length then 2 else z4e b.texts []
theorem zzl{k e t:TypeId}{l:List (List UInt8)}(h:w.ownsMap P k (plainElem P e) b n (zjv l))(hk:P.underlying k=some .string)(ht:P.underlying t=some (.map k e))(he:P.underlying e=some .bool)
  (hz:(zeroValue e).run P w=.ok (.bool false) w) (s:List UInt8) (hs:s.length<=9223372036854775807) :
  (Instr.lookup t (.map (some b)) (.string ⟨s.toArray⟩) false).run P w=.ok (.bool (decide (s∈l))) w:=by
 have hkey:=WideMaps.keyOf_string_mk (P:=P) hk (s:=⟨s.toArray⟩) (by rw[z0c2];unfold maxLen;exact hs);obtain⟨v,ps,hrun,hv⟩:=h.lookup (Maps.string_keyed hk) ht hz (plainElem_bool he false) hkey;have e1:((⟨s.toArray⟩:ByteArray).data.toList)=s:=rfl;rw[e1,z0d6]at hv;unfold plainElem at hv;rw[he]at hv;cases v<;>simp at hv;obtain⟨hv,_⟩:=hv;rw[hrun,hv]
theorem zuh(bk:Book)(cs:List Value)(w:World)(F:Nat->Prop)(h:shBook.rep w F bk cs)(hF:∀b,F b->b<w.heap.size) :
  Calls Tryz.prog 35 #[.agg cs.toArray] w λe w'=>e=.returned (.int .i64 (zk bk))/\Below w.heap.size w w':=by
 obtain⟨A,n,c,rfl,hr⟩:=z09q h;obtain⟨texts⟩:=bk;simp only at hr;have hn:=hr.2.1;have hc:=hr.2.2.1;have hl:=hr.1;have hmm:=@run_makeMap Tryz.prog;have hzf:∀W:World,(zeroValue 4).run Tryz.prog W=.ok (.bool false) W:=λW=>by kernel_rfl
 by_cases h120:120<n
 ·have e:zk ⟨texts⟩=2:=by simp only[zk];rw[zP zX0]
  rw[e];clear e hl;go_enter Tryz.func35,Tryz.ntmps35;go_wp2;go_ret;exact⟨rfl,(Below.refl _ _).alloc (zY0k _) _⟩
 ·have e:zk ⟨texts⟩=z4e texts []:=by simp only[zk];rw[zN zX0]
  rw[e];have HR:=Lib.hid hr;have HZ:=Lib.hid hzf;clear e hl hr h hzf;go_enter Tryz.func35,Tryz.ntmps35;go_wp2;go_loopw [5,14] (λ_ i wr=>∃k:Nat,k<=n/\i=.int .i64 k/\wr.ownsMap Tryz.prog 9 (plainElem Tryz.prog 4) (w.heap.size+1) k (zjv (texts.take k).reverse)/\z4e (texts.drop k) (texts.take k).reverse=z4e texts []/\Below w.heap.size w wr) (λ_ i _=>n-(intOf i).toNat);case atStart =>refine⟨0,by omega,rfl,?_,rfl,((Below.refl _ _).alloc (zY0k _) _).alloc zX4 _⟩;have:=World.ownsMap_made (H:=Unit) (w.alloc (.cells #[.slice A n c] 24)) Tryz.prog 9 (plainElem Tryz.prog 4);simpa[zjv]using this
  case round =>
   obtain⟨k,hk,rfl,hown,hs,hb⟩:=hrel;by_cases hlt:k<n
   ·obtain⟨b,off,x,rfl,hFb,hx,hcell,x0⟩:=HR.out.str hlt;rw[<- hb.cell (p:=⟨b,off+k,none⟩) (hF b hFb)]at hcell;rw[z59 hx,z4e]at hs;have ht:=z3x hx;have hlk:=zzl hown Tryz.underlying9 Tryz.underlying118 Tryz.underlying4 (HZ.out wr) x x0;simp only[List.mem_reverse]at hlk hs;have HO:=Lib.hid hown;have HB:=Lib.hid hb;have HT:=Lib.hid ht;have HX:=Lib.hid hx;have kx:=Lib.hid (WideMaps.keyOf_string_mk (P:=Tryz.prog) Tryz.underlying9 (s:=⟨x.toArray⟩) (by rw[z0c2];unfold maxLen;exact x0));clear hown hb ht hx;by_cases h4:4000<x.length
    ·rw[zP h4]at hs;have HS:=Lib.hid hs;clear hs hlk;go_wp2;go_ret;exact⟨z0u HS.out,HB.out⟩
    ·rw[zN h4]at hs;by_cases hm:x∈texts.take k
     ·rw[zP hm]at hs;rw[decide_eq_true hm]at hlk;have HS:=Lib.hid hs;clear hs hm;go_wp2;go_ret;exact⟨z0u HS.out,HB.out⟩
     ·rw[zN hm]at hs;rw[decide_eq_false hm]at hlk;have HS:=Lib.hid hs;clear hs hm;go_wp2_with (at_mapUpdate;refine wpList_mapUpdate_own _ rfl _ _ _ 118 rfl 9 4 (Maps.string_keyed Tryz.underlying9) Tryz.underlying118 (plainElem Tryz.prog 4) (w.heap.size+1) k _ rfl HO.out zXd _ _ (.string x) rfl rfl kx.out (.lit (.bool true)) [] (plainElem_bool Tryz.underlying4 true) ?_;intro w1 hown1 hgr1);go_roundw;case measure=>simp[intOf];omega
      case rel =>
       refine⟨k+1,by omega,by go_num,?_,?_,HB.out.grown hgr1 HB.out.size (λj hj=>by injection hj with hj;omega)⟩
       ·rw[HT.out,List.reverse_append];exact hown1
       ·rw[HT.out,List.reverse_append];exact HS.out
   ·obtain rfl:k=n:=zX0;have HS:=Lib.hid hs;clear hs;go_wp2;go_ret;have:=HS.out;rw[zY1m (by have:=HR.out.1;omega),z4e]at this;exact⟨z0u this,hb⟩
def z6r(l:List (List UInt8))(s:List UInt8):List (List UInt8):=if 0<=idx l s then l else if l.length=120 then[]else l++[s]
def z85(l:List (List UInt8))(s:List UInt8):Int:=if 0<=idx l s then idx l s+1 else if l.length=120 then 0 else l.length+1
def z66(l:List (List UInt8))(s:List UInt8):Int:=if 0<=idx l s then 0 else if l.length=120 then 12 else 0
theorem zd3{bk:Book}(h:zk bk=0):bk.texts.length<=120:=by
 unfold zk at h;split at h
 ·cases h
 ·omega
def z06o(bk:Book)(s:List UInt8):List (List UInt8):=if zk bk≠0 then[]else if 4000<s.length then[]else z6r bk.texts s
def zjw(bk:Book)(s:List UInt8):Int:=if zk bk≠0 then 0 else if 4000<s.length then 0 else z85 bk.texts s
def zwm(bk:Book)(s:List UInt8):Int:=if zk bk≠0 then zk bk else if 4000<s.length then 2 else z66 bk.texts s
theorem ztc{size:Nat}{v:Value}{xs:List Value}(h:w.ownsRow base e size v n xs)(hb:Below w.heap.size w w'):w'.ownsRow base e size v n xs:=by
 refine⟨h.1,?_⟩;rcases h.2 with h0|⟨g,cap,cur,hv,hg,hh,r⟩
 ·exact .inl h0
 ·refine .inr ⟨g,cap,cur,hv,hg,?_,r⟩;rw[hb.block g ?_]
  ·exact hh
  ·rcases zY1w g w.heap.size with h|h
   ·exact h
   ·rw[zY18 h]at hh;cases hh
theorem zzm{size:Nat}{v:Value}{xs:List Value}(h:w.ownsRow base e size v n xs){p:Addr}(hp:p.block<base)(u:Value):(w.setCell p u).ownsRow base e size v n xs:=ownsRow_setCell_below h hp u
theorem ztd{t:List (List UInt8)}{s:List UInt8}(ht:t.length<=120)(he:z66 t s=0):(z6r t s).length<=120:=by
 unfold z66 at he;unfold z6r;split at he
 ·rename_i h;rw[zP h];exact ht
 ·rename_i h;rw[zN h];split at he
  ·cases he
  ·rename_i h';rw[zN h'];simp;omega
def z2i:List (List UInt8)->List (List UInt8)->List Int->List (List UInt8)×List Int×Int
 | [],t,o=>(t,o,0)
 |s::l,t,o=>if 4000<s.length then([],[],2)else if z66 t s≠0 then([],[],z66 t s)else z2i l (z6r t s) (o++[z85 t s])
def z2v(bk:Book)(l:List (List UInt8)):List (List UInt8)×List Int×Int:=if zk bk≠0 then([],[],zk bk)else z2i l bk.texts []
theorem z06p:∃i z,Tryz.prog.info? 3=some i/\i.zero=some z/\i.size=1/\i.bytes=8/\z.cells.size=1:=by
 have h1:(Tryz.prog.info? 3).map (λi=>(i.zero.map (·.cells.size),i.size,i.bytes))=some (some 1,1,8):=zX1
 match hh:Tryz.prog.info? 3,h1 with
 |some i,h1 =>
  simp only[zY1i,zY00,zY19]at h1
  match hz:i.zero,h1 with
  |some z,h1=>exact⟨i,z,rfl,hz,h1.2.1,h1.2.2,by simpa using h1.1⟩
def z4o(o:Op):Int:=if o.kind<1\/13<o.kind then 4 else if(o.kind≠1/\o.n≠0)\/o.n < -1000000\/1000000<o.n then 3 else 0
def z67:List Op->Int
 | []=>0
 |o::l=>if z4o o≠0 then z4o o else z67 l
def zb(l:List Op):Int:=if 16<l.length then 2 else z67 l
theorem zd4(xs:List Op)(A:Option Addr)(n c:Nat)(w:World)(F:Nat->Prop)(h:Rds shOp w F xs A n c)(hF:∀b,F b->b<w.heap.size) :
  Calls Tryz.prog 66 #[.slice A n c] w λe w'=>e=.returned (.int .i64 (zb xs))/\Below w.heap.size w w':=by
 have hn:=h.2.1;have hc:=h.2.2.1;have hl:=h.1;by_cases h16:16<n
 ·have e:zb xs=2:=by simp only[zb];rw[zP zX0]
  rw[e];clear e hl;go_enter Tryz.func66,Tryz.ntmps66;go_wp2;go_ret;exact⟨rfl,Below.refl _ _⟩
 ·have e:zb xs=z67 xs:=by simp only[zb];rw[zN zX0]
  rw[e];have HR:=Lib.hid h;have HLN:=Lib.hid hl;clear e hl h;go_enter Tryz.func66,Tryz.ntmps66;go_wp2;go_loopw [4,10] (λ_ i wr=>∃k:Nat,k<=n/\i=.int .i64 k/\Below w.heap.size w wr/\z67 (xs.drop k)=z67 xs) (λ_ i _=>n-(intOf i).toNat);case atStart=>exact⟨0,by omega,rfl,Below.refl _ _,rfl⟩
  case round =>
   obtain⟨k,hk,rfl,hb,hs⟩:=hrel;by_cases hlt:k<n
   ·obtain⟨b,off,x,rfl,hFb,hx,⟨hc1,hc2⟩,-,-⟩:=HR.out.op hlt;rw[z59 hx,z67]at hs;rw[<- hb.cell (p:=⟨b,off+k*2,none⟩) (hF b hFb)]at hc1;rw[<- hb.cell (p:=⟨b,off+k*2+1,none⟩) (hF b hFb)]at hc2;have HB:=Lib.hid (hb.alloc hb.size (.cells #[.int .i64 x.kind,.int .i64 x.n] 90));clear hx hb;have i1:(0:Int)<=(k:Int):=zX0;have i2:(k:Int)<(n:Int):=zX0;obtain⟨xk,xn⟩:=x;simp only at hc1 hc2 HB;rcases Classical.em (xk<1\/13<xk)with hk1|hk1
    ·have e:z4o ⟨xk,xn⟩=4:=by simp only[z4o];rw[zP hk1]
     rw[e,zP zX9]at hs;have HS:=Lib.hid hs;clear hs e;rcases Classical.em (xk<1)with hk2|hk2
     ·clear hk1;go_wp2;go_ret;exact⟨z0u HS.out,HB.out⟩
     ·have hk3:13<xk:=zX0;clear hk1;go_wp2;go_ret;exact⟨z0u HS.out,HB.out⟩
    ·have g1:¬xk<1:=zX0;have g2:¬13<xk:=zX0;have e0:z4o ⟨xk,xn⟩=if(xk≠1/\xn≠0)\/xn < -1000000\/1000000<xn then 3 else 0:=by simp only[z4o];rw[zN hk1]
     rw[e0]at hs;clear hk1 e0;rcases Classical.em ((xk≠1/\xn≠0)\/xn < -1000000\/1000000<xn)with h3|h3
     ·rw[zP h3,zP zX9]at hs;have HS:=Lib.hid hs;clear hs;by_cases h4:xk≠1/\xn≠0
      ·have k1:(xk != 1)=true:=by simpa using h4.1
       have k2:(xn != 0)=true:=by simpa using h4.2
       clear h3 h4;go_wp2;go_ret;exact⟨z0u HS.out,HB.out⟩
      ·by_cases h5:xk=1
       ·subst h5;clear h4;rcases Classical.em (xn < -1000000)with h6|h6
        ·clear h3;go_wp2;go_ret;exact⟨z0u HS.out,HB.out⟩
        ·have h7:1000000<xn:=zX0;clear h3;go_wp2;go_ret;exact⟨z0u HS.out,HB.out⟩
       ·exfalso;omega
     ·rw[zN h3,zN zX9]at hs;have HS:=Lib.hid hs;clear hs;have h6:¬xn < -1000000:=zX0;have h7:¬1000000<xn:=zX0;by_cases h5:xk=1
      ·subst h5;clear h3;go_wp2;go_roundw;case measure=>simp[intOf];omega
       case rel=>exact⟨k+1,by omega,by go_num,HB.out,HS.out⟩
      ·obtain rfl:xn=0:=zX0;have k1:(xk != 1)=true:=by simpa using h5
       clear h3 h5;go_wp2;go_roundw;case measure=>simp[intOf];omega
       case rel=>exact⟨k+1,by omega,by go_num,HB.out,HS.out⟩
   ·obtain rfl:k=n:=zX0;rw[zY1m zX1k,z67]at hs;have HS:=Lib.hid hs;clear hs;go_wp2;go_ret;exact⟨z0u HS.out,hb⟩
def zae(n:Int):Int:=if 0<=n/\n<=1000000000 then 0 else 3
def z0z(h:Int):Int:=if h<1\/1000<h then 0 else 64/2 ^ (min ((h-1)/8) 30).toNat
def z5z(h:Int):Int:=if h<1\/1000<h then 3 else 0
def zhv:Nat->Int->Int->Int->Int
 |0,_,n,_=>n
 |f+1,h,n,H=>if h<H then zhv f (h+8) (n/2) H else n
def zfc(H:Int):Int:=zhv 130 8 64 H
theorem zd5(n:Int)(w:World):Calls Tryz.prog 119 #[.int .i64 n] w λe w'=>e=.returned (.int .i64 (zae n))/\w=w':=by go_enter Tryz.func119,Tryz.ntmps119;go_wp2;all_goals(go_ret;refine⟨z0u ?_,rfl⟩;unfold zae;first|(rw[zP zX0])|(rw[zN zX0]))
theorem zwt(n:Int)(w:World)(h0:0<=n)(h1:n<=1000):Calls Tryz.prog 53 #[.int .i64 n] w λe w'=>e=.returned (.int .i64 (zfc n))/\w=w':=by
 go_enter Tryz.func53,Tryz.ntmps53;go_wp2;go_loop [3,4] (λa h=>∃(j:Nat) (hh aa:Int),j<=129/\h=.int .i64 hh/\a=.int .i64 aa/\hh=8+8*(j:Int)/\0<=aa/\aa<=64/\(j=129->n<=hh)/\zhv (130-j) hh aa n=zfc n) (λ_ h=>(1100-intOf h).toNat);case atStart=>exact⟨0,8,64,by omega,rfl,rfl,by omega,by omega,by omega,by omega,rfl⟩
 case round =>
  obtain⟨j,hh,aa,hj,rfl,rfl,hjh,a1,a2,a3,hs⟩:=hrel;have hj9:hh<n->j<=128:=zX0;have b1:8<=hh:=zX0;have b2:hh<=1040:=zX0;have Hj:=Lib.hid hjh;clear hjh;rw[show 130-j=(129-j)+1 by omega,zhv]at hs;by_cases hc:hh<n
  ·rw[zP hc]at hs;have H:=Lib.hid hs;clear hs a3;have hj8:=hj9 hc;clear hj9;go_wp2;go_round;case measure=>simp[intOf];omega
   case rel=>exact⟨j+1,_,_,by omega,rfl,rfl,by have:=Hj.out;omega,by omega,by omega,by have:=Hj.out;omega,by have:=H.out;rw[show 130-(j+1)=129-j by omega];exact this⟩
  ·rw[zN hc]at hs;have H:=Lib.hid hs;clear hs a3 hj9;go_wp2;go_ret;exact⟨z0u H.out,rfl⟩
def z9u:List Int->Int->Int×Int
 | [],a=>(a,0)
 |x::l,a=>if 0<=x/\x<=1000000000 then(if 1000000000<a+x then(0,12)else z9u l (a+x))else(0,3)
def z46(l:List Int):Int×Int:=z9u l 0
theorem z0d9(xs:List Int)(A:Option Addr)(n c:Nat)(w:World)(F:Nat->Prop)(h:Rds shInt w F xs A n c) :
  Calls Tryz.prog 98 #[.slice A n c] w λe w'=>e=.returned (.tuple #[.int .i64 (z46 xs).1,.int .i64 (z46 xs).2])/\w=w':=by
 have hn:=h.2.1;have hc:=h.2.2.1;go_enter Tryz.func98,Tryz.ntmps98;go_wp2;go_loop [4,10] (λa i=>∃(k:Nat) (aa:Int),k<=n/\i=.int .i64 k/\a=.int .i64 aa/\0<=aa/\aa<=1000000000/\z9u (xs.drop k) aa=z46 xs) (λ_ i=>n-(intOf i).toNat);case atStart=>exact⟨0,0,by omega,rfl,rfl,by omega,by omega,rfl⟩
 case round =>
  obtain⟨k,aa,hk,rfl,rfl,a0,a1,hs⟩:=hrel;by_cases hlt:k<n
  ·obtain⟨b,off,x,rfl,-,hx,hcell,x0,x1⟩:=h.int hlt;rw[z59 hx,z9u]at hs;have Hs:=Lib.hid hs;clear hs hx h;by_cases hv:0<=x/\x<=1000000000
   ·obtain⟨v0,v1⟩:=hv;have e:zae x=0:=by unfold zae;rw[zP ⟨v0,v1⟩]
    have E:=Lib.hid e;clear e;by_cases hf:1000000000<aa+x
    ·go_wp2_with (go_at_call 119;refine(zd5 _ _).mono ?_;rintro e w' ⟨rfl,rfl⟩;rw[E.out]);go_ret2;have:=Hs.out;rw[zP zX0,zP zX0]at this;exact⟨ze3 (by rw[<- this]) (by rw[<- this]),rfl⟩
    ·go_wp2_with (go_at_call 119;refine(zd5 _ _).mono ?_;rintro e w' ⟨rfl,rfl⟩;rw[E.out]);go_round;case measure=>simp[intOf];omega
     case rel =>have:=Hs.out;rw[zP zX0,zN zX0]at this;exact⟨k+1,_,by omega,by go_num,rfl,by omega,by omega,this⟩
   ·have e:zae x=3:=by unfold zae;rw[zN hv]
    have E:=Lib.hid e;clear e;have hv':x<0\/1000000000<x:=zX0;have Hv:=Lib.hid hv;clear hv;go_wp2_with (go_at_call 119;refine(zd5 _ _).mono ?_;rintro e w' ⟨rfl,rfl⟩;rw[E.out]);go_ret2;have:=Hs.out;rw[zN Hv.out]at this;exact⟨ze3 (by rw[<- this]) (by rw[<- this]),rfl⟩
  ·obtain rfl:k=n:=zX0;have Hs:=Lib.hid hs;clear hs;go_wp2;go_ret2;have:=Hs.out;rw[zY1m (by have:=h.1;omega)]at this;exact⟨ze3 (by rw[<- this];rfl) (by rw[<- this];rfl),rfl⟩
theorem Rds.inn{xs:List In}{A:Option Addr}(h:Rds shIn w F xs A n c)(hk:k<n) :
  ∃b off x A' n' c',A=some ⟨b,off,none⟩/\F b/\xs[k]?=some x/\(w.cell? ⟨b,off+k*3,none⟩=some (.int .i64 x.p.tx)/\w.cell? ⟨b,off+k*3+1,none⟩=some (.int .i64 x.p.at_)/\w.cell? ⟨b,off+k*3+2,none⟩=some (.slice A' n' c'))/\I64 x.p.tx/\I64 x.p.at_/\Rds shOp w F x.key A' n' c':=by
 obtain⟨b,off,x,cs,e,hF,hx,hr,hc⟩:=h.at_ hk;obtain⟨A',n',c',rfl,h1,h2,h3⟩:=z064 hr;exact⟨b,off,x,A',n',c',e,hF,hx,⟨by simpa[shIn,shPoint,z3q,shInt,z0j]using hc 0 _ rfl,by simpa[shIn,shPoint,z3q,shInt,z0j]using hc 1 _ rfl,by simpa[shIn,shPoint,z3q,shInt,z0j]using hc 2 _ rfl⟩,h1,h2,h3⟩
theorem Rds.out_{xs:List Out}{A:Option Addr}(h:Rds shOut w F xs A n c)(hk:k<n) :
  ∃b off x A' n' c',A=some ⟨b,off,none⟩/\F b/\xs[k]?=some x/\(w.cell? ⟨b,off+k*2,none⟩=some (.int .i64 x.coin)/\w.cell? ⟨b,off+k*2+1,none⟩=some (.slice A' n' c'))/\I64 x.coin/\Rds shOp w F x.lock A' n' c':=by
 obtain⟨b,off,x,cs,e,hF,hx,hr,hc⟩:=h.at_ hk;obtain⟨A',n',c',rfl,h1,h2⟩:=zqz hr;exact⟨b,off,x,A',n',c',e,hF,hx,⟨by simpa[shOut,z3q,shInt,z0j]using hc 0 _ rfl,by simpa[shOut,z3q,shInt,z0j]using hc 1 _ rfl⟩,h1,h2⟩
theorem z03n(y:In)(A:Option Addr)(n c g:Nat)(x:In)(w:World)(h0:w.cell? ⟨g,0,none⟩=some (.int .i64 x.p.tx))(h1:w.cell? ⟨g,1,none⟩=some (.int .i64 x.p.at_))(hg:g<w.heap.size) :
  Calls Tryz.prog 97 #[.agg #[.int .i64 y.p.tx,.int .i64 y.p.at_,.slice A n c],.pointer (some ⟨g,0,none⟩)] w λe w'=>e=.returned (.bool (decide (y.p=x.p)))/\Below w.heap.size w w':=by
 have hb:Below w.heap.size w (w.alloc (.cells #[.int .i64 y.p.tx,.int .i64 y.p.at_,.slice A n c] 127)):=(Below.refl _ _).alloc (zY0k _) _;have HB:=Lib.hid hb;have g0:(w.alloc (.cells #[.int .i64 y.p.tx,.int .i64 y.p.at_,.slice A n c] 127)).cell? ⟨g,0,none⟩=some (.int .i64 x.p.tx):=by rw[World.cell?_alloc_lt w _ _ hg];exact h0
 have g1:(w.alloc (.cells #[.int .i64 y.p.tx,.int .i64 y.p.at_,.slice A n c] 127)).cell? ⟨g,1,none⟩=some (.int .i64 x.p.at_):=by rw[World.cell?_alloc_lt w _ _ hg];exact h1
 clear hb h0 h1;obtain⟨⟨yt,ya⟩,yk⟩:=y;obtain⟨⟨xt,xa⟩,xk⟩:=x;simp only at g0 g1 HB⊢;by_cases e1:yt=xt
 ·subst e1;by_cases e2:ya=xa
  ·subst e2;go_enter Tryz.func97,Tryz.ntmps97;go_wp2;all_goals skip
   go_ret;exact⟨z8a zX4,HB.out⟩
  ·go_enter Tryz.func97,Tryz.ntmps97;go_wp2;go_ret;exact⟨z8a (by simp[e2]),HB.out⟩
 ·go_enter Tryz.func97,Tryz.ntmps97;go_wp2;go_ret;exact⟨z8a (by simp[e1]),HB.out⟩
def z52(xs:List In)(p:Point)(k:Nat):Int:=match xs with
 | [] => -1
 |y::l=>if y.p=p then k else z52 l p (k+1)
theorem zzn(xs:List In)(A:Option Addr)(n c g:Nat)(x:In)(w:World)(F:Nat->Prop)(h:Rds shIn w F xs A n c)(hF:∀b,F b->b<w.heap.size)(h0:w.cell? ⟨g,0,none⟩=some (.int .i64 x.p.tx))(h1:w.cell? ⟨g,1,none⟩=some (.int .i64 x.p.at_))(hg:g<w.heap.size) :
  Calls Tryz.prog 118 #[.slice A n c,.func (.func 97) #[] #[.pointer (some ⟨g,0,none⟩)]] w λe w'=>e=.returned (.int .i64 (z52 xs x.p 0))/\Below w.heap.size w w':=by
 have hn:=h.2.1;have hc:=h.2.2.1;have hl:=h.1;have HR:=Lib.hid h;have HLN:=Lib.hid hl;have H0:=Lib.hid h0;have H1:=Lib.hid h1;clear h hl h0 h1;go_enter Tryz.func118,Tryz.ntmps118;go_wp2;go_loopw [5,8] (λ_ i wr=>∃k:Nat,k<=n/\i=.int .i64 k/\Below w.heap.size w wr/\z52 (xs.drop k) x.p k=z52 xs x.p 0) (λ_ i _=>n-(intOf i).toNat);case atStart=>exact⟨0,by omega,rfl,Below.refl _ _,rfl⟩
 case round =>
  obtain⟨k,hk,rfl,hb,hs⟩:=hrel;by_cases hlt:k<n
  ·obtain⟨b,off,y,A',n',c',rfl,hFb,hx,⟨hc1,hc2,hc3⟩,-,-,-⟩:=HR.out.inn hlt;rw[z59 hx,z52]at hs;rw[<- hb.cell (p:=⟨b,off+k*3,none⟩) (hF b hFb)]at hc1;rw[<- hb.cell (p:=⟨b,off+k*3+1,none⟩) (hF b hFb)]at hc2;rw[<- hb.cell (p:=⟨b,off+k*3+2,none⟩) (hF b hFb)]at hc3;have HB:=Lib.hid hb;have i1:(0:Int)<=(k:Int):=zX0;have i2:(k:Int)<(n:Int):=zX0;have hcall:=λ(W:World) (hW:Below w.heap.size w W)=>z03n y A' n' c' g x W (by rw[hW.cell (p:=⟨g,0,none⟩) hg];exact H0.out) (by rw[hW.cell (p:=⟨g,1,none⟩) hg];exact H1.out) (zY1v hg hW.size);have HC:=Lib.hid hcall;clear hx hb hcall;by_cases hy:y.p=x.p
   ·rw[zP hy]at hs;have HS:=Lib.hid hs;have hd:decide (y.p=x.p)=true:=by simpa using hy
    have HD:=Lib.hid hd;clear hs hy hd;go_wp2_with (go_at_call 97;refine(HC.out _ HB.out).mono ?_;rintro e w2 ⟨rfl,hb2⟩;rw[HD.out]);go_ret;exact⟨z0u HS.out,HB.out.trans (hb2.mono HB.out.size)⟩
   ·rw[zN hy]at hs;have HS:=Lib.hid hs;have hd:decide (y.p=x.p)=false:=by simpa using hy
    have HD:=Lib.hid hd;clear hs hy hd;go_wp2_with (go_at_call 97;refine(HC.out _ HB.out).mono ?_;rintro e w2 ⟨rfl,hb2⟩;rw[HD.out]);go_roundw;case measure=>simp[intOf];omega
    case rel=>exact⟨k+1,by omega,by go_num,HB.out.trans (hb2.mono HB.out.size),HS.out⟩
  ·obtain rfl:k=n:=zX0;rw[zY1m zX1k,z52]at hs;have HS:=Lib.hid hs;clear hs;go_wp2;go_ret;exact⟨z0u HS.out,hb⟩
theorem zrf(xs:List In)(A:Option Addr)(n c g:Nat)(x:In)(w:World)(F:Nat->Prop)(h:Rds shIn w F xs A n c)(hF:∀b,F b->b<w.heap.size)(h0:w.cell? ⟨g,0,none⟩=some (.int .i64 x.p.tx))(h1:w.cell? ⟨g,1,none⟩=some (.int .i64 x.p.at_))(hg:g<w.heap.size) :
  Calls Tryz.prog 96 #[.slice A n c,.func (.func 97) #[] #[.pointer (some ⟨g,0,none⟩)]] w λe w'=>e=.returned (.bool (decide (0<=z52 xs x.p 0)))/\Below w.heap.size w w':=by
 have HC:=Lib.hid (zzn xs A n c g x w F h hF h0 h1 hg);clear h hF h0 h1 hg;generalize z52 xs x.p 0=j at HC⊢;go_enter Tryz.func96,Tryz.ntmps96;go_wp2_with fail;refine HC.out.mono ?_;rintro e w1 ⟨rfl,hb⟩;rcases Classical.em (0<=j)with hj|hj
 ·go_wp2_with fail;go_ret;exact⟨z8a (by simp[hj]),hb⟩
 ·go_wp2_with fail;go_ret;exact⟨z8a (by(simp;done)),hb⟩
def z53(x:In):Int:=if x.p.tx<1\/120<x.p.tx\/x.p.at_<0\/6<=x.p.at_ then 3 else zb x.key
def z2w:List In->List In->Int
 | [],_=>0
 |x::l,seen=>if z53 x≠0 then z53 x else if 0<=z52 seen x.p 0 then 6 else z2w l (seen++[x])
def z6w(x:Out):Int:=if x.coin<1 then 3 else zb x.lock
def z2l:List Out->Int
 | []=>0
 |x::l=>if z6w x≠0 then z6w x else z2l l
def z2m(t:Tx):Int:=if 6<t.ins.length\/6<t.outs.length then 2 else if t.outs.length=0 then 4 else if(t.ins.length=0/\(t.height<1\/1000<t.height))\/(0<t.ins.length/\t.height≠0)then 3 else 0
def zo(t:Tx):Int:=if z2m t≠0 then z2m t else if z2w t.ins []≠0 then z2w t.ins []else if z2l t.outs≠0 then z2l t.outs else(z46 (t.outs.map Out.coin)).2
set_option maxHeartbeats 1000000 in
theorem zfz (t:Tx) (cs:List Value) (w:World) (F:Nat->Prop) (h:shTx.rep w F t cs) (hF:∀b,F b->b<w.heap.size) :
  Calls Tryz.prog 68 #[.agg cs.toArray] w λe w'=>e=.returned (.int .i64 (zo t))/\Below w.heap.size w w':=by
 obtain⟨A1,n1,c1,A2,n2,c2,rfl,hh,hi,ho⟩:=zw9 h;obtain⟨th,ins,outs⟩:=t;simp only at hi ho hh⊢;have hl1:=hi.1;have hn1:=hi.2.1;have hc1:=hi.2.2.1;have hl2:=ho.1;have hn2:=ho.2.1;have hc2:=ho.2.2.1;have HI:=Lib.hid hi;have HO:=Lib.hid ho;have hB:=(Below.refl w.heap.size w).alloc (zY0k _) (.cells #[.int .i64 th,.slice A1 n1 c1,.slice A2 n2 c2] 97);have hblk:=heap_alloc_new w (.cells #[.int .i64 th,.slice A1 n1 c1,.slice A2 n2 c2] 97);have HB:=Lib.hid hB;have HK:=Lib.hid hblk;clear hi ho h hh hB hblk;by_cases h0:z2m ⟨th,ins,outs⟩=0
 ·simp only[z2m]at h0;rw[hl1,hl2]at h0;have a1:¬(6<n1\/6<n2):=λe=>by rw[zP e]at h0;cases h0
  rw[zN a1]at h0;have a2:¬n2=0:=λe=>by rw[zP e]at h0;cases h0
  rw[zN a2]at h0;have a3:¬((n1=0/\(th<1\/1000<th))\/(0<n1/\th≠0)):=λe=>by rw[zP e]at h0;cases h0
  have e:zo ⟨th,ins,outs⟩=if z2w ins []≠0 then z2w ins []else if z2l outs≠0 then z2l outs else(z46 (outs.map Out.coin)).2:=by
   have:¬z2m ⟨th,ins,outs⟩≠0:=by simp only[z2m];rw[hl1,hl2,zN a1,zN a2,zN a3];decide
   simp only[zo];rw[zN this]
  obtain⟨R,hR⟩:∃R,R=if z2w ins []≠0 then z2w ins []else if z2l outs≠0 then z2l outs else(z46 (outs.map Out.coin)).2:=⟨_,rfl⟩
  rw[e,<- hR];have R1:=Lib.hid (show ∀v,v=z2w ins []->v≠0->v=R from λv hv h=>by rw[hR,<- hv,zP h]);have R2:=Lib.hid (show z2w ins []=0->∀v,v=z2l outs->v≠0->v=R from λh0 v hv h=>by rw[hR,h0,<- hv,zN zX9,zP h]);have R3:=Lib.hid (show z2w ins []=0->z2l outs=0->(z46 (outs.map Out.coin)).2=R from λh0 h1=>by rw[hR,h0,h1,zN zX9,zN zX9]);clear hR;have m1:n1<=6:=zX0;have m2:n2<=6:=zX0;have m3:0<n2:=zX0;have L1:=Lib.hid hl1;have L2:=Lib.hid hl2;clear e h0 a1 a2 hl1 hl2 hn1 hn2 hc1 hc2;obtain⟨i0,zv,hi,hz0,hz1,hz2,hz3⟩:=z06p;have hi1:=HI.out.2.1;have hi2:=HI.out.2.2.1;have ho1:=HO.out.2.1;have ho2:=HO.out.2.2.1;go_enter Tryz.func68,Tryz.ntmps68;rcases(show(n1=0/\¬th<1/\¬1000<th)\/(0<n1/\th=0)by omega)with⟨g1,g2,g3⟩|⟨g1,g2⟩
  case' inl =>
   have q1:((n1:Int)==0)=true:=by simp[g1]
   have q4:¬(0:Int)<(n1:Int):=zX0;clear a3 g1;go_wp2;rename_i z0 z1 z2 z3;clear z1 z0
  case' inr =>
   have q1:((n1:Int)==0)=false:=by simp;omega
   have q4:(0:Int)<(n1:Int):=zX0;have q5:(th != 0)=false:=by simp[g2]
   clear a3 g1 g2;go_wp2
  all_goals(
   go_loopw [3,4,5,54] (λ_ _ _ i wr=>∃k:Nat,k<=n1/\i=.int .i64 k/\Below w.heap.size w wr/\wr.heap[w.heap.size]?=some (.cells #[.int .i64 th,.slice A1 n1 c1,.slice A2 n2 c2] 97 (0,0))/\z2w (ins.drop k) (ins.take k)=z2w ins []) (λ_ _ _ i _=>n1-(intOf i).toNat);case atStart=>exact⟨0,by omega,rfl,HB.out,HK.out,rfl⟩
   case round =>
    obtain⟨k,hk,rfl,hb,hbox,hs⟩:=hrel;have Hb:=Lib.hid hb;have Hbox:=Lib.hid hbox;have hwz:=zjn hbox;clear hb hbox q1 q4;rcases Classical.em (k<n1)with hlt|hlt
    ·obtain⟨b,off,x,A',n',c',rfl,hFb,hx,⟨hc1,hc2,hc3⟩,-,-,hrk⟩:=HI.out.inn hlt;have hbx:=z6i (i:=1) Hbox.out;have hFw:=hF b hFb;rw[<- Hb.out.cell (p:=⟨b,off+k*3,none⟩) hFw]at hc1;rw[<- Hb.out.cell (p:=⟨b,off+k*3+1,none⟩) hFw]at hc2;rw[<- Hb.out.cell (p:=⟨b,off+k*3+2,none⟩) hFw]at hc3;rw[z59 hx,z2w]at hs;have HT:=Lib.hid (z3x hx);have HW:=Lib.hid (Hb.out.alloc Hb.out.size (.cells #[.int .i64 x.p.tx,.int .i64 x.p.at_,.slice A' n' c'] 127));have HRK:=Lib.hid ((hrk.keep ((Agree.below HW.out).mono hF)).more (F':=Lt (wr.alloc (.cells #[.int .i64 x.p.tx,.int .i64 x.p.at_,.slice A' n' c'] 127)).heap.size) λb hb=>by have:=hF b hb;show b<_;simp;omega);have HBX:=Lib.hid (z71 (g:=w.heap.size) Hbox.out ((Below.refl wr.heap.size wr).alloc (zY0k _) (.cells #[.int .i64 x.p.tx,.int .i64 x.p.at_,.slice A' n' c'] 127)) hwz);have HNW:=Lib.hid (heap_alloc_new wr (.cells #[.int .i64 x.p.tx,.int .i64 x.p.at_,.slice A' n' c'] 127));have i1:(0:Int)<=(k:Int):=zX0;have i2:(k:Int)<(n1:Int):=zX0;clear hx hrk hFb;by_cases hp:x.p.tx<1\/120<x.p.tx\/x.p.at_<0\/6<=x.p.at_
     ·have e:z53 x=3:=by simp only[z53];rw[zP hp]
      rw[e,zP zX9]at hs;have HS:=Lib.hid (R1.out 3 hs zX9);clear e hs;obtain⟨⟨xt,xa⟩,xk⟩:=x;simp only at hc1 hc2 hp HW;rcases Classical.em (xt<1)with p1|p1
      ·clear hp;go_wp2_with fail;go_ret;exact⟨z0u HS.out,HW.out⟩
      ·rcases Classical.em (120<xt)with p2|p2
       ·clear hp;go_wp2_with fail;go_ret;exact⟨z0u HS.out,HW.out⟩
       ·rcases Classical.em (xa<0)with p3|p3
        ·clear hp;go_wp2_with fail;go_ret;exact⟨z0u HS.out,HW.out⟩
        ·have p4:6<=xa:=zX0;clear hp;go_wp2_with fail;go_ret;exact⟨z0u HS.out,HW.out⟩
     ·have e:z53 x=zb x.key:=by simp only[z53];rw[zN hp]
      rw[e]at hs;have p1:¬x.p.tx<1:=zX0;have p2:¬120<x.p.tx:=zX0;have p3:¬x.p.at_<0:=zX0;have p4:¬6<=x.p.at_:=zX0;have HS:=Lib.hid hs;clear e hp hs;go_wp2_with fail;generalize hW1:wr.alloc (.cells #[.int .i64 x.p.tx,.int .i64 x.p.at_,.slice A' n' c'] 127)=W1 at HW HRK HBX HNW⊢;have hsW:wr.heap.size<W1.heap.size:=by rw[<- hW1];simp
      clear hW1;refine(zd4 _ _ _ _ _ _ HRK.out (λb hb=>hb)).mono ?_;rintro e w2 ⟨rfl,hb2⟩;have HW2:=Lib.hid (HW.out.trans (hb2.mono HW.out.size));have HBX2:=Lib.hid (z71 HBX.out hb2 zX0);have HNW2:=Lib.hid (z71 HNW.out hb2 hsW);have hz2':=hb2.size;clear hb2 HW HRK HBX HNW;by_cases he:zb x.key=0
      ·rw[he];have hs:=HS.out;rw[he,zN zX9]at hs;clear HS he;have hbx2:=z6i (i:=1) HBX2.out;go_wp2_with fail;refine(zrf (ins.take k) _ k _ wr.heap.size x w2 (Lt w2.heap.size) (((HI.out.take zX0).keep ((Agree.below HW2.out).mono hF)).more λb hb=>by have:=hF b hb;have:=HW2.out.size;show b<_;omega) (λb hb=>hb) (by rw[z6i HNW2.out];rfl) (by rw[z6i HNW2.out];rfl) zX0).mono ?_;rintro e w3 ⟨rfl,hb3⟩;have HW3:=Lib.hid (HW2.out.trans (hb3.mono HW2.out.size));have HBX3:=Lib.hid (z71 HBX2.out hb3 zX0);clear hb3 HW2 HBX2 HNW2 hbx2;by_cases hx:0<=z52 (ins.take k) x.p 0
       ·rw[zP hx]at hs;have hd:decide (0<=z52 (ins.take k) x.p 0)=true:=by simpa using hx
        rw[hd];have HS:=Lib.hid (R1.out 6 hs zX9);clear hd hx hs;go_wp2_with fail;go_ret;exact⟨z0u HS.out,HW3.out⟩
       ·rw[zN hx]at hs;have hd:decide (0<=z52 (ins.take k) x.p 0)=false:=by simpa using hx
        rw[hd];have HS:=Lib.hid hs;clear hd hx hs;go_wp2_with fail;go_roundw;case measure=>simp[intOf];omega
        case rel=>exact⟨k+1,by omega,by go_num,HW3.out,HBX3.out,by rw[HT.out];exact HS.out⟩
      ·have hs:=HS.out;rw[zP he]at hs;have hd:(zb x.key != 0)=true:=by simpa using he
       have HS':=Lib.hid (R1.out _ hs he);clear HS he hs;go_wp2_with fail;go_ret;exact⟨z0u HS'.out,HW2.out⟩
    ·obtain rfl:n1=k:=zX0;rw[zY1m (by rw[L1.out];omega),z2w]at hs;have HS:=Lib.hid hs.symm;have hbx:=z6i (i:=2) Hbox.out;clear hs;go_wp2_with fail;go_loopw [6,8,9,97] (λo _ _ i wr=>∃k:Nat,k<=n2/\i=.int .i64 k/\Below w.heap.size w wr/\w.heap.size<wr.heap.size/\wr.ownsRow (w.heap.size+1) 3 1 o k (((outs.take k).map Out.coin).map (Value.int .i64))/\(∀y∈outs.take k,I64 y.coin)/\z2l (outs.drop k)=z2l outs) (λ_ _ _ i _=>n2-(intOf i).toNat);case atStart=>exact⟨0,by omega,rfl,Hb.out,hwz,World.ownsRow_nil _ _ _ _,by simp,rfl⟩
     case round =>
      obtain⟨k,hk,rfl,hb,hwq,hown,hob,hs'⟩:=hrel;rcases Classical.em (k<n2)with hlt2|hlt2
      ·obtain⟨b,off,x,A',n',c',rfl,hFb,hx,⟨hc1,hc2⟩,xi,hrk⟩:=HO.out.out_ hlt2;have hFw:=hF b hFb;rw[<- hb.cell (p:=⟨b,off+k*2,none⟩) hFw]at hc1;rw[<- hb.cell (p:=⟨b,off+k*2+1,none⟩) hFw]at hc2;rw[z59 hx,z2l]at hs';have HT:=Lib.hid (z3x hx);have hW:=hb.alloc hb.size (.cells #[.int .i64 x.coin,.slice A' n' c'] 82);have HW:=Lib.hid hW;have HRK:=Lib.hid ((hrk.keep ((Agree.below hW).mono hF)).more (F':=Lt (wr.alloc (.cells #[.int .i64 x.coin,.slice A' n' c'] 82)).heap.size) λb hb=>by have:=hF b hb;show b<_;simp;omega);have HNW:=Lib.hid (heap_alloc_new wr (.cells #[.int .i64 x.coin,.slice A' n' c'] 82));have HOW:=Lib.hid (ztc hown ((Below.refl wr.heap.size wr).alloc (zY0k _) (.cells #[.int .i64 x.coin,.slice A' n' c'] 82)));have HOB:=Lib.hid hob;have i1:(0:Int)<=(k:Int):=zX0;have i2:(k:Int)<(n2:Int):=zX0;clear hx hrk hFb hW hown hob hb;by_cases hp:x.coin<1
       ·have e:z6w x=3:=by simp only[z6w];rw[zP hp]
        rw[e,zP zX9]at hs';have HS2:=Lib.hid (R2.out HS.out 3 hs' zX9);clear e hs';go_wp2_with fail;go_ret;exact⟨z0u HS2.out,HW.out⟩
       ·have e:z6w x=zb x.lock:=by simp only[z6w];rw[zN hp]
        rw[e]at hs';have HS2:=Lib.hid hs';clear e hs';go_wp2_with fail;generalize hW1:wr.alloc (.cells #[.int .i64 x.coin,.slice A' n' c'] 82)=W1 at HW HRK HNW HOW⊢;have hsW:wr.heap.size<W1.heap.size:=by rw[<- hW1];simp
        clear hW1;refine(zd4 _ _ _ _ _ _ HRK.out (λb hb=>hb)).mono ?_;rintro e w2 ⟨rfl,hb2⟩;have HW2:=Lib.hid (HW.out.trans (hb2.mono HW.out.size));have HNW2:=Lib.hid (z71 HNW.out hb2 hsW);have HOW2:=Lib.hid (ztc HOW.out hb2);have hz2':=hb2.size;clear hb2 HW HRK HNW HOW;by_cases he:zb x.lock=0
        ·rw[he];have hs:=HS2.out;rw[he,zN zX9]at hs;have HS3:=Lib.hid hs;clear HS2 he hs;have hcx:=z6i (i:=0) HNW2.out;go_wp2_with (at_builtin;refine wpList_append_own_at _ rfl _ _ 25 rfl (w.heap.size+1) 3 i0 zv 1 8 Tryz.underlying25 hi hz0 hz1 hz2 hz3 zX0 _ k (((outs.take k).map Out.coin).map (Value.int .i64)) rfl (HOW2.out.alloc _) ⟨w2.heap.size,0,none⟩ 1 1 [.int .i64 x.coin] rfl rfl (cell_one_new _ _ _) (by intro u hu;simp at hu;subst hu;rfl) zXd zX0 zXa ?_;intro v5 w5 hown5 hgr5 _ hob5);have hgr:(w2.alloc (.cells #[.int .i64 x.coin] 3)).grownBy w5 u6.ownBlock:=hgr5;have hge:=λk hk=>zjm HOW2.out (k:=k) hk;go_roundw;case measure=>simp[intOf];omega
         case rel =>
          have hs5:=hgr.size;simp only[World.size_alloc]at hs5;refine⟨k+1,by omega,by go_num,(HW2.out.alloc HW2.out.size _).grown hgr (by have:=HW2.out.size;simp;omega) (λk hk=>by have:=hge _ hk;omega),by omega,by rw[HT.out,zY24,zY24];exact hown5,?_,HS3.out⟩;intro y hy;rw[HT.out]at hy;rcases zY13.1 hy with h|h
          ·exact HOB.out y h
          ·simp at h;subst h;exact xi
        ·have hs:=HS2.out;rw[zP he]at hs;have hd:(zb x.lock != 0)=true:=by simpa using he
         have HS3:=Lib.hid (R2.out HS.out _ hs he);clear HS2 he hs;go_wp2_with fail;go_ret;exact⟨z0u HS3.out,HW2.out⟩
      ·obtain rfl:n2=k:=zX0;rw[zY1m (by rw[L2.out];omega),z2l]at hs';have HS2:=Lib.hid (R3.out HS.out hs'.symm);rw[zY0v (by rw[L2.out];omega)]at hown hob;have HBq:=Lib.hid hb;obtain⟨A',c',ev,hri⟩:=Rds.of_own_int hown (λx hx=>by obtain⟨y,hy,rfl⟩:=zY2k.1 hx;exact hob y hy);subst ev;have HRI:=Lib.hid hri;clear hs' hown hob hb hri;go_wp2_with fail;refine(z0d9 _ _ _ _ _ _ HRI.out).mono ?_;rintro e w2 ⟨rfl,rfl⟩;go_wp2_with fail;go_ret;exact⟨z0u HS2.out,HBq.out⟩)
 ·have e:zo ⟨th,ins,outs⟩=z2m ⟨th,ins,outs⟩:=by simp only[zo];rw[zP h0]
  rw[e];clear e;by_cases a1:6<n1\/6<n2
  ·have e:z2m ⟨th,ins,outs⟩=2:=by simp only[z2m];rw[zP (by rw[hl1,hl2];exact a1)]
   rw[e];clear e h0 hl1 hl2;by_cases a:6<n1
   ·clear a1;go_enter Tryz.func68,Tryz.ntmps68;go_wp2;go_ret;exact⟨rfl,HB.out⟩
   ·have a2:6<n2:=zX0;clear a1;go_enter Tryz.func68,Tryz.ntmps68;go_wp2;go_ret;exact⟨rfl,HB.out⟩
  ·by_cases a2:n2=0
   ·have e:z2m ⟨th,ins,outs⟩=4:=by simp only[z2m];rw[zN (by rw[hl1,hl2];exact a1),zP (by rw[hl2];exact a2)]
    rw[e];subst a2;clear e h0 hl1 hl2;go_enter Tryz.func68,Tryz.ntmps68;go_wp2;go_ret;exact⟨rfl,HB.out⟩
   ·have a3:(n1=0/\(th<1\/1000<th))\/(0<n1/\th≠0):=by apply Classical.byContradiction;intro a3;exact h0 (by simp only[z2m];rw[zN (by rw[hl1,hl2];exact a1),zN (by rw[hl2];exact a2),zN (by rw[hl1];exact a3)])
    have e:z2m ⟨th,ins,outs⟩=3:=by simp only[z2m];rw[zN (by rw[hl1,hl2];exact a1),zN (by rw[hl2];exact a2),zP (by rw[hl1];exact a3)]
    rw[e];have a4:0<n2:=zX0;clear e h0 hl1 hl2 a2;rcases a3 with⟨rfl,a3⟩|⟨a3,a5⟩
    ·rcases Classical.em (th<1)with a5|a5
     ·clear a3;go_enter Tryz.func68,Tryz.ntmps68;go_wp2;go_ret;exact⟨rfl,HB.out⟩
     ·have a6:1000<th:=zX0;clear a3;go_enter Tryz.func68,Tryz.ntmps68;go_wp2;go_ret;exact⟨rfl,HB.out⟩
    ·have a6:(th != 0)=true:=by simpa using a5
     clear a5;go_enter Tryz.func68,Tryz.ntmps68;go_wp2;go_ret;exact⟨rfl,HB.out⟩
theorem Rds.tx{xs:List Tx}{A:Option Addr}(h:Rds shTx w F xs A n c)(hk:k<n) :
  ∃b off x A1 n1 c1 A2 n2 c2,A=some ⟨b,off,none⟩/\F b/\xs[k]?=some x/\(w.cell? ⟨b,off+k*3,none⟩=some (.int .i64 x.height)/\w.cell? ⟨b,off+k*3+1,none⟩=some (.slice A1 n1 c1)/\w.cell? ⟨b,off+k*3+2,none⟩=some (.slice A2 n2 c2))/\shTx.rep w F x [.int .i64 x.height,.slice A1 n1 c1,.slice A2 n2 c2]/\I64 x.height/\x.ins.length=n1:=by
 obtain⟨b,off,x,cs,e,hF,hx,hr,hc⟩:=h.at_ hk;have hr':=hr;obtain⟨A1,n1,c1,A2,n2,c2,rfl,h1,h2,h3⟩:=zw9 hr;exact⟨b,off,x,A1,n1,c1,A2,n2,c2,e,hF,hx,⟨by simpa[shTx,zef,z3q,shInt,z0j]using hc 0 _ rfl,by simpa[shTx,zef,z3q,shInt,z0j]using hc 1 _ rfl,by simpa[shTx,zef,z3q,shInt,z0j]using hc 2 _ rfl⟩,hr',h1,h2.1⟩
def z31(b:Block):Prop:=b.parent<0\/120<b.parent\/b.height<1\/1000<b.height\/b.work<1\/1000<b.work\/b.nonce<0\/1000000000<b.nonce
instance(b:Block):Decidable (z31 b):=by unfold z31;infer_instance
def z60(b:Block):Int:=if z31 b then 3 else if 4<b.txs.length then 2 else if b.txs.length=0 then 4 else 0
def zay(h:Int)(t:Tx)(i:Nat):Prop:=¬(t.ins.length=0↔i=0)\/(i=0/\t.height≠h)
instance(h:Int)(t:Tx)(i:Nat):Decidable (zay h t i):=by unfold zay;infer_instance
def z79(h:Int):List Tx->Nat->Int
 | [],_=>0
 |t::l,i=>if zo t≠0 then zo t else if zay h t i then 4 else z79 h l (i+1)
def zf(b:Block):Int:=if z60 b≠0 then z60 b else z79 b.height b.txs 0
set_option maxHeartbeats 1000000 in
theorem zgn (x:Block) (cs:List Value) (w:World) (F:Nat->Prop) (h:shBlock.rep w F x cs) (hF:∀b,F b->b<w.heap.size) :
  Calls Tryz.prog 49 #[.agg cs.toArray] w λe w'=>e=.returned (.int .i64 (zf x))/\Below w.heap.size w w':=by
 obtain⟨A,n,c,rfl,i1,i2,i3,i4,hr⟩:=zjl h;obtain⟨bp,bh,bw,bn,txs⟩:=x;simp only at hr i1 i2 i3 i4⊢;have hl:=hr.1;have hn:=hr.2.1;have hc:=hr.2.2.1;have HR:=Lib.hid hr;have HB:=Lib.hid ((Below.refl w.heap.size w).alloc (zY0k _) (.cells #[.int .i64 bp,.int .i64 bh,.int .i64 bw,.int .i64 bn,.slice A n c] 50));have HK:=Lib.hid (heap_alloc_new w (.cells #[.int .i64 bp,.int .i64 bh,.int .i64 bw,.int .i64 bn,.slice A n c] 50));clear hr h;by_cases h0:z31 ⟨bp,bh,bw,bn,txs⟩
 ·have e:zf ⟨bp,bh,bw,bn,txs⟩=3:=by simp only[zf,z60];rw[zP h0];rfl
  rw[e];unfold z31 at h0;simp only at h0;clear e hl;rcases Classical.em (bp<0)with p1|p1
  ·clear h0;go_enter Tryz.func49,Tryz.ntmps49;go_wp2;go_ret;exact⟨rfl,HB.out⟩
  rcases Classical.em (120<bp)with p2|p2
  ·clear h0;go_enter Tryz.func49,Tryz.ntmps49;go_wp2;go_ret;exact⟨rfl,HB.out⟩
  rcases Classical.em (bh<1)with p3|p3
  ·clear h0;go_enter Tryz.func49,Tryz.ntmps49;go_wp2;go_ret;exact⟨rfl,HB.out⟩
  rcases Classical.em (1000<bh)with p4|p4
  ·clear h0;go_enter Tryz.func49,Tryz.ntmps49;go_wp2;go_ret;exact⟨rfl,HB.out⟩
  rcases Classical.em (bw<1)with p5|p5
  ·clear h0;go_enter Tryz.func49,Tryz.ntmps49;go_wp2;go_ret;exact⟨rfl,HB.out⟩
  rcases Classical.em (1000<bw)with p6|p6
  ·clear h0;go_enter Tryz.func49,Tryz.ntmps49;go_wp2;go_ret;exact⟨rfl,HB.out⟩
  rcases Classical.em (bn<0)with p7|p7
  ·clear h0;go_enter Tryz.func49,Tryz.ntmps49;go_wp2;go_ret;exact⟨rfl,HB.out⟩
  ·have p8:1000000000<bn:=zX0;clear h0;go_enter Tryz.func49,Tryz.ntmps49;go_wp2;go_ret;exact⟨rfl,HB.out⟩
 ·have p:=h0;unfold z31 at p;simp only at p;have p1:¬bp<0:=zX0;have p2:¬120<bp:=zX0;have p3:¬bh<1:=zX0;have p4:¬1000<bh:=zX0;have p5:¬bw<1:=zX0;have p6:¬1000<bw:=zX0;have p7:¬bn<0:=zX0;have p8:¬1000000000<bn:=zX0;clear p;by_cases a1:4<n
  ·have e:zf ⟨bp,bh,bw,bn,txs⟩=2:=by simp only[zf,z60];rw[zN h0,hl,zP a1];rfl
   rw[e];clear e h0 hl;go_enter Tryz.func49,Tryz.ntmps49;go_wp2;go_ret;exact⟨rfl,HB.out⟩
  ·by_cases a2:n=0
   ·have e:zf ⟨bp,bh,bw,bn,txs⟩=4:=by simp only[zf,z60];rw[zN h0,hl,zN a1,zP a2];rfl
    rw[e];subst a2;clear e h0 hl a1;go_enter Tryz.func49,Tryz.ntmps49;go_wp2;go_ret;exact⟨rfl,HB.out⟩
   ·have e:zf ⟨bp,bh,bw,bn,txs⟩=z79 bh txs 0:=by simp only[zf,z60];rw[zN h0,hl,zN a1,zN a2];rfl
    rw[e];have m1:n<=4:=zX0;have m2:0<n:=zX0;have HLN:=Lib.hid hl;clear e h0 hl a1 a2;go_enter Tryz.func49,Tryz.ntmps49;go_wp2;go_loopw [3,4,5,55] (λ_ _ _ i wr=>∃k:Nat,k<=n/\i=.int .i64 k/\Below w.heap.size w wr/\wr.heap[w.heap.size]?=some (.cells #[.int .i64 bp,.int .i64 bh,.int .i64 bw,.int .i64 bn,.slice A n c] 50 (0,0))/\z79 bh (txs.drop k) k=z79 bh txs 0) (λ_ _ _ i _=>n-(intOf i).toNat);case atStart=>exact⟨0,by omega,rfl,HB.out,HK.out,rfl⟩
    case round =>
     obtain⟨k,hk,rfl,hb,hbox,hs⟩:=hrel;have hwz:=zjn hbox;rcases Classical.em (k<n)with hlt|hlt
     ·obtain⟨b,off,x,A1,n1,c1,A2,n2,c2,rfl,hFb,hx,⟨hc1,hc2,hc3⟩,hrk,xi,xl⟩:=HR.out.tx hlt;have hFw:=hF b hFb;rw[<- hb.cell (p:=⟨b,off+k*3,none⟩) hFw]at hc1;rw[<- hb.cell (p:=⟨b,off+k*3+1,none⟩) hFw]at hc2;rw[<- hb.cell (p:=⟨b,off+k*3+2,none⟩) hFw]at hc3;rw[z59 hx,z79]at hs;have hW:=hb.alloc hb.size (.cells #[.int .i64 x.height,.slice A1 n1 c1,.slice A2 n2 c2] 97);have HW:=Lib.hid hW;have HRK:=Lib.hid (shTx.more (F':=Lt (wr.alloc (.cells #[.int .i64 x.height,.slice A1 n1 c1,.slice A2 n2 c2] 97)).heap.size) (λb hb=>by have:=hF b hb;show b<_;simp;omega) (shTx.keep ((Agree.below hW).mono hF) hrk));have HBX:=Lib.hid (z71 (g:=w.heap.size) hbox ((Below.refl wr.heap.size wr).alloc (zY0k _) (.cells #[.int .i64 x.height,.slice A1 n1 c1,.slice A2 n2 c2] 97)) hwz);have HNW:=Lib.hid (heap_alloc_new wr (.cells #[.int .i64 x.height,.slice A1 n1 c1,.slice A2 n2 c2] 97));have i1':(0:Int)<=(k:Int):=zX0;have i2':(k:Int)<(n:Int):=zX0;have HS:=Lib.hid hs;clear hx hrk hFb hb hbox hs hW;go_wp2_with fail;generalize hW1:wr.alloc (.cells #[.int .i64 x.height,.slice A1 n1 c1,.slice A2 n2 c2] 97)=W1 at HW HRK HBX HNW⊢;have hsW:wr.heap.size<W1.heap.size:=by rw[<- hW1];simp
      clear hW1;refine(zfz _ [_,_,_] _ _ HRK.out (λb hb=>hb)).mono ?_;rintro e w2 ⟨rfl,hb2⟩;have HW2:=Lib.hid (HW.out.trans (hb2.mono HW.out.size));have HBX2:=Lib.hid (z71 HBX.out hb2 zX0);have HNW2:=Lib.hid (z71 HNW.out hb2 hsW);clear hb2 HW HRK HBX HNW;by_cases he:zo x=0
      ·rw[he];have hs:=HS.out;rw[he,zN zX9]at hs;clear HS he;have b0:=z6i (i:=0) HNW2.out;have b1:=z6i (i:=1) HNW2.out;have b2:=z6i (i:=1) HBX2.out;rcases Classical.em (k=0)with hk0|hk0
       ·have q1:((k:Int)==0)=true:=by simp[hk0]
        rcases Classical.em (n1=0)with hn0|hn0
        ·have q2:((n1:Int)==0)=true:=by simp[hn0]
         rcases Classical.em (x.height=bh)with hh|hh
         ·have q3:(x.height != bh)=false:=by simp[hh]
          rw[zN (by unfold zay;rw[xl];simp[hk0,hn0,hh])]at hs;have HS:=Lib.hid hs;clear hs hk0 hn0 hh;go_wp2_with fail;go_roundw;case measure=>simp[intOf];omega
          case rel=>exact⟨k+1,by omega,by go_num,HW2.out,HBX2.out,HS.out⟩
         ·have q3:(x.height != bh)=true:=by simp[hh]
          rw[zP (by unfold zay;exact .inr ⟨hk0,hh⟩)]at hs;have HS:=Lib.hid hs;clear hs hk0 hn0 hh;go_wp2_with fail;go_ret;exact⟨z0u HS.out,HW2.out⟩
        ·have q2:((n1:Int)==0)=false:=by simp;omega
         rw[zP zX1b]at hs;have HS:=Lib.hid hs;clear hs hk0 hn0;go_wp2_with fail;go_ret;exact⟨z0u HS.out,HW2.out⟩
       ·have q1:((k:Int)==0)=false:=by simp;omega
        rcases Classical.em (n1=0)with hn0|hn0
        ·have q2:((n1:Int)==0)=true:=by simp[hn0]
         rw[zP zX1b]at hs;have HS:=Lib.hid hs;clear hs hk0 hn0;go_wp2_with fail;go_ret;exact⟨z0u HS.out,HW2.out⟩
        ·have q2:((n1:Int)==0)=false:=by simp;omega
         rw[zN zX1b]at hs;have HS:=Lib.hid hs;clear hs hk0 hn0;go_wp2_with fail;go_roundw;case measure=>simp[intOf];omega
         case rel=>exact⟨k+1,by omega,by go_num,HW2.out,HBX2.out,HS.out⟩
      ·have hs:=HS.out;rw[zP he]at hs;have hd:(zo x != 0)=true:=by simpa using he
       have HS':=Lib.hid hs;clear HS he hs;go_wp2_with fail;go_ret;exact⟨z0u HS'.out,HW2.out⟩
     ·obtain rfl:n=k:=zX0;rw[zY1m zX1k,z79]at hs;have HS:=Lib.hid hs;clear hs;go_wp2;go_ret;exact⟨z0u HS.out,hb⟩
def Yl(P:Program)(w0:World)(F0:Nat->Prop)(Γ:List Res)(o:Oper)(a:Act)(v:Value):Prop:=∀W,Sep w0 F0 Γ W->(execOp a.eval o).run P W=.ok (.value v) W
section
variable {P:Program} {w0 W:World} {F0:Nat->Prop} {Γ:List Res} {ops:Array Oper} {a:Act} {rest:List Oper} {o:Oper} {t:TypeId} {x y:Operand}
theorem Yl.pure{v:Value}(h:∀W,(execOp a.eval o).run P W=.ok (.value v) W):Yl P w0 F0 Γ o a v:=λW _=>h W
theorem Yl.move(ho:o.op=.move x):Yl P w0 F0 Γ o a (a.eval x):=λW _=>by unfold execOp;simp only[ho];rfl
theorem Yl.assign(ho:o.op=.assign x):Yl P w0 F0 Γ o a (a.eval x):=λW _=>by unfold execOp;simp only[ho];rfl
theorem Yl.load(ho:o.op=.load t x){p:Addr}{v:Value}(hx:a.eval x=.pointer (some p))(hr:∀W,Sep w0 F0 Γ W->(loadVar t p).run P W=.ok v W):Yl P w0 F0 Γ o a v:=λW hS=>by unfold execOp;simp only[ho,Instr.loadAt,Instr.sureAddr,Sem.run_bind,Result.andThen_ok,Sem.run_pure,hx,hr W hS]
theorem Yl.load1b(ho:o.op=.load t x){cs:List Value}{v:Value}(hx:a.eval x=.pointer (some ⟨g,j,none⟩))(h1:OneT P t)(hm:At Γ (box g cs ty))(hv:cs[j]?=some v):Yl P w0 F0 Γ o a v :=
 Yl.load ho hx λW hS=>h1.load (by have:=hS.boxAt hm j v hv;rwa [zY0z]at this)
theorem Yl.loadNb(ho:o.op=.load t x){cs:List Value}(hx:a.eval x=.pointer (some ⟨g,0,none⟩))(hm:At Γ (box g cs ty))(h1:AggN P t cs.length):Yl P w0 F0 Γ o a (.agg cs.toArray) :=
 Yl.load ho hx λW hS=>h1.load (hS.boxAt hm)
theorem Yl.load1c(ho:o.op=.load t x){q:Nat}{cs:List Value}{v:Value}(hx:a.eval x=.pointer (some ⟨b,q+j,none⟩))(h1:OneT P t)(hm:At Γ (cells b q cs))(hv:cs[j]?=some v):Yl P w0 F0 Γ o a v :=
 Yl.load ho hx λW hS=>h1.load (hS.cellsAt hm j v hv)
theorem Yl.load1z(ho:o.op=.load t x){q:Nat}{cs:List Value}{v:Value}(hx:a.eval x=.pointer (some ⟨b,q,none⟩))(h1:OneT P t)(hm:At Γ (cells b q cs))(hv:cs[0]?=some v):Yl P w0 F0 Γ o a v :=
 Yl.load ho hx λW hS=>h1.load (hS.cellsAt hm 0 v hv)
theorem Yl.loadNz(ho:o.op=.load t x){q:Nat}{cs:List Value}(hx:a.eval x=.pointer (some ⟨b,q,none⟩))(hm:At Γ (cells b q cs))(h1:AggN P t cs.length):Yl P w0 F0 Γ o a (.agg cs.toArray) :=
 Yl.load ho hx λW hS=>h1.load (hS.cellsAt hm)
theorem Sep.region(h:Sep w0 F0 Γ W){id:Nat}{Q:Exit->Act->World->Prop}(hm:P.follows .mixedOrders=true)(hB:Region.lexB .any l.toArray=true)
  (k:wpQuiet P l.toArray (Sep w0 F0 Γ) (λa'=>∀W',Sep w0 F0 Γ W'->Q .normal a' W') l a):(Code.region id l.toArray true).wp P Q a W :=
 wp_region_quiet (C:=Sep w0 F0 Γ) hm hB h.drew (by simpa using k)
def z8k(late:List Nat)(listed:Array Bool):Bool:=late.any λs=>listed.getD s false
def zlp(md:Region.Mode)(ops:Array Oper):Nat->Nat->Nat->Bool
 |0,_,_=>false
 |n+1,s,i=>match ops[s]? with
  |some o=>o.after.any λe=>Region.binds md e&&(e.on==i||zlp md ops n e.on i)
  |none=>false
def zk6(md:Region.Mode)(ops:Array Oper)(late:List Nat)(i:Nat):Bool:=late.all λs=>s != i&&zlp md ops ops.size s i
def zrk(md:Region.Mode)(ops:Array Oper)(listed:Array Bool):Bool:=(List.range ops.size).all λj => !listed.getD j false||match ops[j]? with
 |some o=>o.after.all λe => !Region.binds md e||listed.getD e.on false
 |none=>true
def zgv(md:Region.Mode)(ops:Array Oper)(listed:Array Bool):Prop:=∀j o,ops[j]?=some o->listed.getD j false=true->∀e∈o.after,Region.binds md e=true->listed.getD e.on false=true
theorem z072{md:Region.Mode}{ops:Array Oper}(h:zrk md ops listed=true):zgv md ops listed:=by intro j o hj hl e he hb;have hlt:=(zY15.1 hj).1;have:=(zY1j.1 h) j (zY2i.2 hlt);simp only[hl,hj,zY3e,zY38]at this;have h2:=zY3g.1 this e he;simpa[hb]using h2
theorem z03u{md:Region.Mode}{ops:Array Oper}(h:zgv md ops listed)(hj:j∈Region.ready md ops listed):zgv md ops (listed.setIfInBounds j true):=by
 obtain⟨_,oj,hoj,hall⟩:=mem_ready.1 hj;intro k o hk hl e he hb;by_cases hjk:j=k
 ·subst hjk;rw[hoj]at hk;injection hk with hk;subst hk;exact getD_set_true (hall e he hb)
 ·rw[getD_set_ne false hjk]at hl;exact getD_set_true (h k o hk hl e he hb)
theorem zk7{md:Region.Mode}{ops:Array Oper}{listed:Array Bool}(h:zgv md ops listed){i:Nat}:∀(n s:Nat),zlp md ops n s i=true->listed.getD s false=true->listed.getD i false=true
 |0,s,hr,_=>by cases hr
 |n+1,s,hr,hl=>by
  unfold zlp at hr;split at hr
  ·rename_i o ho;obtain⟨e,he,hb⟩:=Array.any_eq_true'.1 hr;simp only[zY0e,zY3d,beq_iff_eq]at hb;have h1:=h s o ho hl e he hb.1;rcases hb.2 with h2|h2
   ·rw[<- h2];exact h1
   ·exact zk7 h n e.on h2 h1
  ·cases hr
theorem z00a{md:Region.Mode}{ops:Array Oper}(h:zgv md ops listed){s:Nat}(hr:zlp md ops n s i=true)(hs:s∈Region.ready md ops listed):listed.getD i false=true:=by
 obtain⟨_,o,ho,hall⟩:=mem_ready.1 hs;cases n with
 |zero=>cases hr
 |succ n =>
  unfold zlp at hr;simp only[ho]at hr;obtain⟨e,he,hb⟩:=Array.any_eq_true'.1 hr;simp only[zY0e,zY3d,beq_iff_eq]at hb;have h1:=hall e he hb.1;rcases hb.2 with h2|h2
  ·rw[<- h2];exact h1
  ·exact zk7 h n e.on h2 h1
theorem z0de(h:listed.getD i true=false):listed.getD i false=false:=by
 rcases zY1w i listed.size with h'|h'
 ·simp[h']at h⊢;exact h
 ·simp[zY18 h']at h
variable {md:Region.Mode} {Q:Exit->Act->World->Prop} {S:World->Prop} {late:List Nat}
def z5k(P:Program)(md:Region.Mode)(ops:Array Oper)(Q:Exit->Act->World->Prop)(S:World->Prop)(late:List Nat):Nat->Array Bool->Act->World->Prop
 |0,listed,a,w=>Region.ready md ops listed=[]/\Q .normal a w
 |fuel+1,listed,a,w =>
  (Region.ready md ops listed=[]->Q .normal a w) /\
  ∀i∈Region.ready md ops listed,wpOp P ops Q i (λa' w'=>(z8k late (listed.setIfInBounds i true)=false->S w')/\z5k P md ops Q S late fuel (listed.setIfInBounds i true) a' w') a w
theorem zpr:∀(fuel:Nat) (listed:Array Bool) (a:Act) (w:World),z5k P md ops Q S late fuel listed a w->wpAny P md ops Q fuel listed a w
 |0,_,_,_,h=>h
 |fuel+1,_,_,_,h=>⟨h.1,λi hi=>wpOp_mono (λa' w' h'=>zpr fuel _ a' w' h'.2) (h.2 i hi)⟩
theorem zps(h:z8k late listed=false)(hj:j∉late):z8k late (listed.setIfInBounds j true)=false:=by rw[z8k,zY3m]at h⊢;intro s hs;have hne:j≠s:=λe=>hj (e▸hs);rw[getD_set_ne false hne];exact h s hs
theorem zx8{v:Value}(hi:ops[i]?=some oi)(hsel:∀(j:Nat) (o:Oper) cs b,ops[j]?=some o->o.op ≠ .select cs b)
  (hQ:∀c a w,Q (.panic c) (a.put oi.dst v) w->Q (.panic c) a w) (hlw:zk6 md ops late i=true) :
  ∀(fuel:Nat) (listed:Array Bool) (a:Act) (w:World),
   (∀j oj,ops[j]?=some oj->j≠i->listed.getD j true=false->(∀e∈oj.after,Region.binds md e=true->e.on≠i)->oi.apart ops oj=true) ->
   i∈Region.ready md ops listed->YieldsIf P ops S oi v a->S w->z8k late listed=false->zgv md ops listed ->
   z5k P md ops Q S late fuel (listed.setIfInBounds i true) (a.put oi.dst v) w->z5k P md ops Q S late (fuel+1) listed a w:=by
 have hil:i∉late:=λh=>by have:=(zY1j.1 hlw) i h;simp at this
 intro fuel;induction fuel with
 |zero =>
  intro listed a w _ hr hy hS hl hcl H;refine⟨λh=>(by rw[h]at hr;cases hr),λj hj=>?_⟩;by_cases hji:j=i
  ·subst hji;exact hy.wpOp hi hS ⟨λ_=>hS,H⟩
  ·have:=ready_mono hj hji;rw[H.1]at this;cases this
 |succ fuel ih =>
  intro listed a w hfree hr hy hS hl hcl H;refine⟨λh=>(by rw[h]at hr;cases hr),λj hj=>?_⟩;by_cases hji:j=i
  ·subst hji;exact hy.wpOp hi hS ⟨λ_=>hS,H⟩
  ·have h1:=H.2 j (ready_mono hj hji);obtain⟨hjun,oj,hoj,hall⟩:=mem_ready.1 hj;have hnot:∀e∈oj.after,Region.binds md e=true->e.on≠i:=λe he hb heq=>by
    have h1:=hall e he hb;have h0:=(mem_ready.1 hr).1;rw[heq]at h1;rcases zY1w i listed.size with h'|h'
    ·simp[h']at h0 h1;rw[h0]at h1;cases h1
    ·simp[zY18 h']at h1
   have hjl:j∉late:=λhmem=>by have:=(zY1j.1 hlw) j hmem;simp only[zY0e]at this;have h5:=z00a hcl this.2 hj;rw[z0de (mem_ready.1 hr).1]at h5;cases h5
   have hl':=zps hl hjl;have h2:=wpOp_putIf hoj (hfree j oj hoj hji hjun hnot) (λcs b=>hsel i oi cs b hi) (λcs b=>hsel j oj cs b hoj) hQ hy h1;have hfree':∀k ok,ops[k]?=some ok->k≠i->(listed.setIfInBounds j true).getD k true=false ->
     (∀e∈ok.after,Region.binds md e=true->e.on≠i)->oi.apart ops ok=true:=λk ok hk hki hun hno=>by
    refine hfree k ok hk hki ?_ hno;by_cases hjk:j=k
    ·subst hjk;exact hjun
    ·rw[getD_set_ne true hjk]at hun;exact hun
   have hl2:z8k late ((listed.setIfInBounds i true).setIfInBounds j true)=false:=by rw[Array.setIfInBounds_comm _ _ (Ne.symm hji)];exact zps hl' hil
   refine wpOp_mono (λa' w' h3=>⟨λ_=>h3.2.1 hl2,ih (listed.setIfInBounds j true) a' w' hfree' (ready_mono hr (Ne.symm hji)) h3.1 (h3.2.1 hl2) hl' (z03u hcl hj) ?_⟩) h2;rw[Array.setIfInBounds_comm _ _ hji];exact h3.2.2
theorem z00b(i:Nat){v:Value}(hi:ops[i]?=some oi)(hw:Region.wanted oi (yielded ops a.tmps)=true)(hy:Yl P w0 F0 Γ oi a v)(h:Sep w0 F0 Γ W)
  (hs:(Region.noSelect ops&&Region.free md ops listed i&&(Region.ready md ops listed).contains i&&zk6 md ops late i && !z8k late listed&&zrk md ops listed)=true)
  (hQ:∀c a w,Q (.panic c) (a.put oi.dst v) w->Q (.panic c) a w)
  (k:z5k P md ops Q (Sep w0 F0 Γ) late fuel (listed.setIfInBounds i true) (a.put oi.dst v) W):z5k P md ops Q (Sep w0 F0 Γ) late (fuel+1) listed a W:=by
 simp only[zY0e,zY2u]at hs;obtain⟨⟨⟨⟨⟨h1,h2⟩,h3⟩,h4⟩,h5⟩,h6⟩:=hs;exact zx8 hi (Region.noSelect_spec h1) hQ h4 fuel listed a W (Region.free_spec hi h2) (by simpa using h3) (.inl ⟨hw,λW hS=>hy W hS⟩) h h5 (z072 h6) k
structure NextT(P:Program)(md:Region.Mode)(ops:Array Oper)(Q:Exit->Act->World->Prop)(S:World->Prop)(late:List Nat)(fuel:Nat)(listed:Array Bool)(a:Act)(w:World):Prop where
 s:z8k late listed=false->S w
 t:z5k P md ops Q S late fuel listed a w
theorem z0g3{Q Q':Exit->Act->World->Prop}{K K':Act->World->Prop}(hK:∀a w,K' a w->K a w)(hp:∀c w,Q' (.panic c) a w->Q (.panic c) a w)(hl:LetsOut Q'->LetsOut Q)(h:o.wp P a w K' Q'):o.wp P a w K Q:=by
 unfold Oper.wp at *;generalize(execOp a.eval o).run P w=r at *;cases r with
 |ok n w' =>
  cases n<;>simp only[Oper.upon]at h⊢ <;>
   first
    |exact hK _ _ h
    |exact Calls.mono h (λe w'' he=>by cases e<;>first|exact hK _ _ he|exact hp _ _ he|exact hl he)
    |exact Rows.mono h (λ_ _ he=>hK _ _ he)
 |halt x w'=>cases x<;>simp only[Oper.upon]at h⊢ <;> exact hp _ _ h
theorem z03v(i:Nat)(hr:(Region.ready md ops listed==[i])=true)(ho:ops[i]?=some o)
  (h:wpList P ops (Exit.then (NextT P md ops Q S late fuel (listed.setIfInBounds i true)) Q) [o] a w):z5k P md ops Q S late (fuel+1) listed a w:=by
 have hr':Region.ready md ops listed=[i]:=by simpa using hr
 refine⟨λh0=>(by rw[h0]at hr';cases hr'),λj hj=>?_⟩;rw[hr']at hj;have hji:j=i:=by simpa using hj
 subst hji;unfold wpOp;simp only[ho];unfold wpList at h;split
 ·rename_i hw;rw[zP hw]at h;rcases h with h|⟨h1,h2⟩
  ·exact .inl (z0g3 (λa w hk=>⟨hk.s,hk.t⟩) (λc w hp=>hp) (λhl=>hl) h)
  ·exact .inr ⟨h1,h2⟩
 ·rename_i hw;rw[zN hw]at h;exact⟨h.s,h.t⟩
theorem zm6(hr:((Region.ready md ops listed)==[])=true)(h:Q .normal a w):z5k P md ops Q S late fuel listed a w:=by
 have hr':Region.ready md ops listed=[]:=by simpa using hr
 cases fuel with
 |zero=>exact⟨hr',h⟩
 |succ n=>exact⟨λ_=>h,by rw[hr'];simp⟩
theorem z2p(i:Nat){v:Value}(hi:l[i]?=some oi)(hw:Region.wanted oi (yielded l.toArray a.tmps)=true)(hy:Yl P w0 F0 Γ oi a v)(h:Sep w0 F0 Γ W)
  (hs:(Region.noSelect l.toArray&&Region.free md l.toArray listed i&&(Region.ready md l.toArray listed).contains i&&zk6 md l.toArray late i && !z8k late listed&&zrk md l.toArray listed)=true)
  (hQ:∀c a w,Q (.panic c) (a.put oi.dst v) w->Q (.panic c) a w)
  (k:z5k P md l.toArray Q (Sep w0 F0 Γ) late fuel (listed.setIfInBounds i true) (a.put oi.dst v) W):z5k P md l.toArray Q (Sep w0 F0 Γ) late (fuel+1) listed a W :=
 z00b i zXw hw hy h hs hQ k
theorem zk8(i:Nat)(hr:(Region.ready md l.toArray listed==[i])=true)(ho:l[i]?=some o)
  (h:wpList P l.toArray (Exit.then (NextT P md l.toArray Q S late fuel (listed.setIfInBounds i true)) Q) [o] a w):z5k P md l.toArray Q S late (fuel+1) listed a w :=
 z03v i hr zX1g h
theorem z025{late:List Nat}{p:Prop}(h:z8k late listed=true)(h':z8k late listed=false):p:=by rw[h]at h';cases h'
theorem Sep.regionT(h:Sep w0 F0 Γ W)(late:List Nat){id:Nat}(hm:P.follows .mixedOrders=true)(k:∀W',Sep w0 F0 Γ W'->z5k P .any l.toArray Q (Sep w0 F0 Γ) late l.length (Array.replicate l.length false) a W'):(Code.region id l.toArray true).wp P Q a W:=by refine wp_region_any hm (zpr (S:=Sep w0 F0 Γ) (late:=late) _ _ _ _ ?_);have:=k W.drew h.drew;simpa using this
end
def Got(P:Program)(W:World)(tmps:Array Value):ResultVar->Value->Prop
 |.tmp t,v=>tmps.getD t undef=v
 |.cell a t,v=>∃p,tmps.getD a undef=.pointer (some p)/\(loadVar t p).run P W=.ok v W
def getR(tmps:Array Value):ResultVar->Sem Value
 |.tmp t=>Pure.pure (tmps.getD t undef)
 |.cell a t=>do loadVar t (<- asAddr (tmps.getD a undef))
theorem Got.run{P:Program}{W:World}{tmps:Array Value}{r:ResultVar}{v:Value}(h:Got P W tmps r v):(getR tmps r).run P W=.ok v W:=by
 cases r with
 |tmp t=>simp only[Got]at h;simp only[getR,h,Sem.run_pure]
 |cell a t=>obtain⟨p,h1,h2⟩:=h;simp only[getR,h1,asAddr,Sem.run_bind,Sem.run_pure,Result.andThen_ok,h2]
theorem z03x(fn:Func)(tmps:Array Value):results fn tmps=(do let vs <- fn.results.mapM (getR tmps);Pure.pure (if h:vs.size=1 then vs[0]else .tuple vs)):=rfl
section
variable {P:Program} {w0 W:World} {F0:Nat->Prop} {Γ:List Res} {fn:Func} {tmps:Array Value} {r s q p:ResultVar} {v u x y:Value}
theorem Got.tmp{t:Tmp}(h:tmps.getD t undef=v):Got P W tmps (.tmp t) v:=h
theorem Got.boxN(hS:Sep w0 F0 Γ W){a t:Nat}{cs:List Value}(hx:tmps.getD a undef=.pointer (some ⟨g,0,none⟩))(hm:At Γ (box g cs ty))(h1:AggN P t cs.length):Got P W tmps (.cell a t) (.agg cs.toArray):=⟨_,hx,h1.load (hS.boxAt hm)⟩
theorem Got.box1(hS:Sep w0 F0 Γ W){a t:Nat}{v:Value}(hx:tmps.getD a undef=.pointer (some ⟨g,0,none⟩))(hm:At Γ (box g [v] ty))(h1:OneT P t):Got P W tmps (.cell a t) v:=⟨_,hx,h1.load (by have:=hS.boxAt hm 0 v rfl;simpa using this)⟩
theorem zhy(h:fn.results=#[r,s])(g:Got P W tmps r v)(g':Got P W tmps s u):(results fn tmps).run P W=.ok (.tuple #[v,u]) W:=by rw[z03x,h];simp[g.run,g'.run]
end
attribute [irreducible] Yl z5k
section
attribute [local semireducible] z5k Yl
section
variable {P:Program} {ops:Array Oper} {a:Act} {w:World} {md:Region.Mode} {Q:Exit->Act->World->Prop} {S:World->Prop} {late:List Nat}
def Yp(P:Program)(o:Oper)(a:Act)(v:Value):Prop:=∀W,(execOp a.eval o).run P W=.ok (.value v) W
theorem Yp.mk{v:Value}(h:∀W,(execOp a.eval o).run P W=.ok (.value v) W):Yp P o a v:=h
theorem Yp.move{x:Operand}(ho:o.op=.move x):Yp P o a (a.eval x):=λW=>by unfold execOp;simp only[ho];rfl
theorem Yp.assign{x:Operand}(ho:o.op=.assign x):Yp P o a (a.eval x):=λW=>by unfold execOp;simp only[ho];rfl
end
attribute [irreducible] Yp
end
theorem z0gz:AggN Tryz.prog 90 2:=.mk Tryz.underlying90 rfl zX1
theorem z_op:z65 Tryz.prog 90 [.int .i64 0,.int .i64 0]:=⟨.agg #[.int .i64 0,.int .i64 0],rfl,λ_=>by kernel_rfl⟩
theorem z0ae:AggN Tryz.prog 79 2:=.mk Tryz.underlying79 rfl zX1
theorem z0i6:z65 Tryz.prog 79 [.int .i64 0,.int .i64 0]:=⟨.agg #[.int .i64 0,.int .i64 0],rfl,λ_=>by kernel_rfl⟩
theorem z0h0:AggN Tryz.prog 127 3:=.mk Tryz.underlying127 rfl zX1
theorem z_in:z65 Tryz.prog 127 [.int .i64 0,.int .i64 0,.slice none 0 0]:=⟨.agg #[.int .i64 0,.int .i64 0,.slice none 0 0],rfl,λ_=>by kernel_rfl⟩
theorem z0g4:AggN Tryz.prog 82 2:=.mk Tryz.underlying82 rfl zX1
theorem z0h1:z65 Tryz.prog 82 [.int .i64 0,.slice none 0 0]:=⟨.agg #[.int .i64 0,.slice none 0 0],rfl,λ_=>by kernel_rfl⟩
theorem z0h2:AggN Tryz.prog 97 3:=.mk Tryz.underlying97 rfl zX1
theorem z_tx:z65 Tryz.prog 97 [.int .i64 0,.slice none 0 0,.slice none 0 0]:=⟨.agg #[.int .i64 0,.slice none 0 0,.slice none 0 0],rfl,λ_=>by kernel_rfl⟩
theorem z0df:AggN Tryz.prog 24 1:=.mk Tryz.underlying24 rfl zX1
theorem z0i9:z65 Tryz.prog 24 [.slice none 0 0]:=⟨.agg #[.slice none 0 0],rfl,λ_=>by kernel_rfl⟩
theorem z0dg:AggN Tryz.prog 84 6:=.mk Tryz.underlying84 rfl zX1
theorem z0ia:z65 Tryz.prog 84 [.int .i64 0,.int .i64 0,.int .i64 0,.slice none 0 0,.int .i64 0,.bool false]:=⟨.agg #[.int .i64 0,.int .i64 0,.int .i64 0,.slice none 0 0,.int .i64 0,.bool false],rfl,λ_=>by kernel_rfl⟩
theorem z0dh:AggN Tryz.prog 99 1:=.mk Tryz.underlying99 rfl zX1
theorem z0ib:z65 Tryz.prog 99 [.slice none 0 0]:=⟨.agg #[.slice none 0 0],rfl,λ_=>by kernel_rfl⟩
theorem z0af:AggN Tryz.prog 50 5:=.mk Tryz.underlying50 rfl zX1
theorem z0i7:z65 Tryz.prog 50 [.int .i64 0,.int .i64 0,.int .i64 0,.int .i64 0,.slice none 0 0]:=⟨.agg #[.int .i64 0,.int .i64 0,.int .i64 0,.int .i64 0,.slice none 0 0],rfl,λ_=>by kernel_rfl⟩
theorem z0di:AggN Tryz.prog 28 2:=.mk Tryz.underlying28 rfl zX1
theorem z0ic:z65 Tryz.prog 28 [.slice none 0 0,.slice none 0 0]:=⟨.agg #[.slice none 0 0,.slice none 0 0],rfl,λ_=>by kernel_rfl⟩
theorem z0dj:OneT Tryz.prog 3:=.mk Tryz.underlying3 rfl zX1
theorem z0ie:z65 Tryz.prog 3 [.int .i64 0]:=⟨.int .i64 0,rfl,λ_=>by kernel_rfl⟩
theorem z0dk:OneT Tryz.prog 9:=.mk Tryz.underlying9 rfl zX1
theorem z0if:z65 Tryz.prog 9 [.string ⟨#[]⟩]:=⟨.string ⟨#[]⟩,rfl,λ_=>by kernel_rfl⟩
theorem z0ag:OneT Tryz.prog 4:=.mk Tryz.underlying4 rfl zX1
theorem z0id:z65 Tryz.prog 4 [.bool false]:=⟨.bool false,rfl,λ_=>by kernel_rfl⟩
theorem z073:OneT Tryz.prog 30:=.mk Tryz.underlying30 rfl zX1
theorem z0i8:z65 Tryz.prog 30 [.int .i64 0]:=⟨.int .i64 0,rfl,λ_=>by kernel_rfl⟩
theorem z0dl:OneT Tryz.prog 80:=.mk Tryz.underlying80 rfl zX1
theorem z03z:OneT Tryz.prog 129:=.mk Tryz.underlying129 rfl zX1
theorem z0dm:OneT Tryz.prog 94:=.mk Tryz.underlying94 rfl zX1
theorem z0ah:OneT Tryz.prog 95:=.mk Tryz.underlying95 rfl zX1
theorem z0dn:OneT Tryz.prog 48:=.mk Tryz.underlying48 rfl zX1
theorem z074:OneT Tryz.prog 29:=.mk Tryz.underlying29 rfl zX1
theorem zrl:SliceT Tryz.prog 29 84 6 64:=.mk Tryz.underlying29 zX1
theorem z075:OneT Tryz.prog 53:=.mk Tryz.underlying53 rfl zX1
theorem z040:OneT Tryz.prog 26:=.mk Tryz.underlying26 rfl zX1
theorem z0ai:OneT Tryz.prog 25:=.mk Tryz.underlying25 rfl zX1
theorem z0aj:OneT Tryz.prog 22:=.mk Tryz.underlying22 rfl zX1
theorem zgw(h:[3,30,4,9,80,129,94,95,48,29,53,26,25,22].contains t=true):OneT Tryz.prog t:=by
 have h':=zY2c.1 h;simp only[zY0g,zY1k,or_false]at h';rcases h' with rfl|rfl|rfl|rfl|rfl|rfl|rfl|rfl|rfl|rfl|rfl|rfl|rfl|rfl
 ·exact z0dj
 ·exact z073
 ·exact z0ag
 ·exact z0dk
 ·exact z0dl
 ·exact z03z
 ·exact z0dm
 ·exact z0ah
 ·exact z0dn
 ·exact z074
 ·exact z075
 ·exact z040
 ·exact z0ai
 ·exact z0aj
theorem zb5(h:[(90,2),(79,2),(127,3),(82,2),(97,3),(24,1),(84,6),(99,1),(50,5),(28,2)].contains (t,n)=true):AggN Tryz.prog t n:=by
 have h':=zY2c.1 h;simp only[zY0g,zY1k,or_false,zY19]at h';rcases h' with⟨rfl,rfl⟩|⟨rfl,rfl⟩|⟨rfl,rfl⟩|⟨rfl,rfl⟩|⟨rfl,rfl⟩|⟨rfl,rfl⟩|⟨rfl,rfl⟩|⟨rfl,rfl⟩|⟨rfl,rfl⟩|⟨rfl,rfl⟩
 ·exact z0gz
 ·exact z0ae
 ·exact z0h0
 ·exact z0g4
 ·exact z0h2
 ·exact z0df
 ·exact z0dg
 ·exact z0dh
 ·exact z0af
 ·exact z0di
theorem z0do{size:Nat}{A:Option Addr}{xs:List Value}(h:w.ownsRow base e size (.slice A n c) n xs)(hA:A=some ⟨g,0,none⟩)(u:Value) :
  (w.setCell ⟨g,i,none⟩ u).ownsRow base e size (.slice A n c) n (xs.set i u):=by
 obtain⟨hl,h2⟩:=h;refine⟨by rw[zY2q];exact hl,?_⟩;rcases h2 with⟨hv,hn⟩|⟨g',cap,cur,hv,hg,hh,hnc,hcm,hcs,ht⟩
 ·simp only[Value.slice.injEq]at hv;rw[hv.1]at hA;cases hA
 ·simp only[Value.slice.injEq]at hv;obtain⟨e1,e2,e3⟩:=hv;rw[e1]at hA;simp only[zY00,Addr.mk.injEq]at hA;obtain⟨rfl,_⟩:=hA;refine .inr ⟨_,cap,cur.setIfInBounds i u,by rw[e1,e3],hg,z01x hh,hnc,hcm,by simpa using hcs,?_⟩;rw[<- ht];simp[List.take_set]
def zrm{α:Type}:List α->Nat->List α->List α
 |l,_,[]=>l
 |l,o,v::vs=>zrm (l.set o v) (o+1) vs
theorem zk9{base e size n c g:Nat}{A:Option Addr}(hA:A=some ⟨g,0,none⟩):∀(vs:List Value) (i:Nat) (w:World) (xs:List Value),w.ownsRow base e size (.slice A n c) n xs ->
  (w.setCells g i vs).ownsRow base e size (.slice A n c) n (zrm xs i vs)
 | [],_,_,_,h=>h
 |v::vs,i,w,xs,h=>zk9 hA vs (i+1) _ _ (z0do h hA v)
theorem zx9{α:Type}:∀(vs:List α) (i:Nat) (l:List α),i+vs.length<=l.length->∀j,(zrm l i vs)[j]?=if i<=j/\j<i+vs.length then vs[j-i]? else l[j]?
 | [],i,l,h,j=>by rw[zrm,zN (by simp only[zY0p];omega)]
 |v::vs,i,l,h,j=>by
  simp only[zY08]at h;rw[zrm,zx9 vs (i+1) (l.set i v) zXa];by_cases h1:j=i
  ·subst h1;rw[zN zX0,zP zX4,zY0f zX0];simp
  ·by_cases h2:i+1<=j/\j<i+1+vs.length
   ·rw[zP h2,zP zXa,show j-i=(j-(i+1))+1 by omega,zY2d]
   ·rw[zN h2,zN zXa,zY0j zX0]
theorem z0ak(l vs:List α)(h:l.length=vs.length):zrm l 0 vs=vs:=by
 apply zY2w;intro j;rw[zx9 vs 0 l zX0];by_cases hj:j<vs.length
 ·rw[zP ⟨by omega,by omega⟩,Nat.sub_zero]
 ·rw[zN zX0,zY2m zX0,zY2m zX0]
section
variable {P:Program} {w0 W:World} {F0:Nat->Prop} {Γ Γ' Γ1:List Res}
variable {ops:Array Oper} {Q:Exit->Act->World->Prop} {a:Act} {rest:List Oper} {o:Oper} {t:TypeId} {x y:Operand}
end
section
variable {P:Program} (w:World)
theorem zls(base:Nat)(t ty e:TypeId)(i:TypeInfo)(size:Nat)(ht:P.underlying t=some (.slice e))(hi:P.info? e=some i)
  (v:Value) (n:Nat) (xs:List Value) (hown:w.ownsRow base e size v n xs) (c:Nat):(Builtin.append_ #[t,t] ty #[v,.slice none 0 c]).run P w=.ok v w:=by
 rcases hown.2 with⟨rfl,rfl⟩|⟨g,cap,cur,rfl,_,_,hnc,_⟩
 ·simp[Builtin.append_,run_underlying ht,sizeOf,typeInfo,hi,Builtin.lenOf,Builtin.firstCells]
 ·simp[Builtin.append_,run_underlying ht,sizeOf,typeInfo,hi,Builtin.lenOf,Builtin.firstCells,hnc,storeCells]
theorem zrn{S:Sh α}(hS:S.ones)(base:Nat)(t ty e:TypeId)(i:TypeInfo)(z:Value)(bytes:Nat)(ht:P.underlying t=some (.slice e))(hi:P.info? e=some i)(hz:i.zero=some z)
  (hsize:i.size=S.size) (hby:i.bytes=bytes) (hzs:z.cells.size=S.size) (hsz:0<S.size)
  (v:Value) (n:Nat) (cells:List Value) (hown:w.ownsRow base e S.size v n cells) {F:Nat->Prop} {xs:List α} {A:Option Addr} {m c:Nat} (hr:Rds S w F xs A m c)
  (h63:n+m<=maxLen) (hbytes:(n+m)*bytes<=140737488355328) (hbase:base<=w.heap.size) :
  ∃v' w' ys,ys.map (·.1)=xs/\(∀y∈ys,S.rep w F y.1 y.2)/\(Builtin.append_ #[t,t] ty #[v,.slice A m c]).run P w=.ok v' w'/\w'.ownsRow base e S.size v' (n+m) (cells++flat ys)/\w.grownBy w' v.ownBlock /\
   (v'.ownBlock=v.ownBlock\/v'.ownBlock=some w.heap.size):=by
 obtain⟨ys,y1,y2,y3⟩:=hr.pairs;have hl:ys.length=m:=by have:=congrArg List.length y1;simp at this;have:=hr.1;omega
 cases A with
 |none =>
  have h0:m=0:=by
   rcases zY1u m with h0|h0
   ·exact h0
   ·obtain⟨b,off,e,_⟩:=y3 h0;cases e
  subst h0;have:ys=[]:=zY0c hl;subst this;exact⟨v,w,[],y1,y2,zls w base t ty e i S.size ht hi v n cells hown c,by simpa[flat]using hown,World.grownBy.refl w _,.inl rfl⟩
 |some ad =>
  have hfl:(flat ys).length=m*S.size:=by rw[z9k (λz hz=>S.len (y2 z hz)),hl]
  have hnews:∀j u,(flat ys)[j]?=some u->w.cell? (ad.add j)=some u:=by
   intro j u hj;have hj':=(zY02.1 hj).1;have hm:0<m:=by
    rcases zY1u m with h0|h0
    ·rw[h0,zY3s]at hfl;omega
    ·exact h0
   obtain⟨b,off,e,hFb,hc⟩:=y3 hm;injection e with e;subst e;rw[zau];exact hc j u hj
  obtain⟨v',w',hrun,h2,h3,_,h5⟩:=run_append_own_at (P:=P) w base t ty e i z S.size bytes ht hi hz hsize hby hzs hsz v n cells hown ad m c (flat ys) hfl hnews (zt4 hS y2) h63 hbytes hbase;exact⟨v',w',ys,y1,y2,hrun,h2,h3,h5⟩
theorem zul{a:Act}{K:Act->World->Prop}{Q:Exit->Act->World->Prop}(s x:Operand)(t:TypeId)
  (ho:o.op=.call { callee:=.builtin .append,args:=#[s,x],argTypes:=#[t,t] })
  {α:Type} {S:Sh α} (hS:S.ones) (base:Nat) (e:TypeId) (i:TypeInfo) (z:Value) (bytes:Nat) (ht:P.underlying t=some (.slice e)) (hi:P.info? e=some i) (hz:i.zero=some z)
  (hsize:i.size=S.size) (hby:i.bytes=bytes) (hzs:z.cells.size=S.size) (hsz:0<S.size)
  (v:Value) (n:Nat) (cells:List Value) (hs:a.eval s=v) (hown:w.ownsRow base e S.size v n cells) {F:Nat->Prop} {xs:List α} {A:Option Addr} {m c:Nat} (hx:a.eval x=.slice A m c) (hr:Rds S w F xs A m c)
  (h63:n+m<=maxLen) (hbytes:(n+m)*bytes<=140737488355328) (hbase:base<=w.heap.size)
  (h:∀v' w' ys,ys.map (·.1)=xs->(∀y∈ys,S.rep w F y.1 y.2)->w'.ownsRow base e S.size v' (n+m) (cells++flat ys)->w.grownBy w' v.ownBlock->(v'.ownBlock=v.ownBlock\/v'.ownBlock=some w.heap.size)->K (a.put o.dst v') w'):o.wp P a w K Q:=by
 obtain⟨v',w',ys,y1,y2,hrun,h2,h3,h4⟩:=zrn (P:=P) w hS base t o.type e i z bytes ht hi hz hsize hby hzs hsz v n cells hown hr h63 hbytes hbase;unfold Oper.wp execOp;simp only[ho,resolve,invoke,builtin,Sem.run_bind,Sem.run_pure,Result.andThen_ok,zY3f,zY1n,zY2o,hs,hx,hrun];exact h v' w' ys y1 y2 h2 h3 h4
theorem zde{ops:Array Oper}{rest:List Oper}{a:Act}{Q:Exit->Act->World->Prop}(hgd:o.guard=none)(s x:Operand)(t:TypeId)
  (ho:o.op=.call { callee:=.builtin .append,args:=#[s,x],argTypes:=#[t,t] })
  {α:Type} {S:Sh α} (hS:S.ones) (base:Nat) (e:TypeId) (i:TypeInfo) (z:Value) (bytes:Nat) (ht:P.underlying t=some (.slice e)) (hi:P.info? e=some i) (hz:i.zero=some z)
  (hsize:i.size=S.size) (hby:i.bytes=bytes) (hzs:z.cells.size=S.size) (hsz:0<S.size)
  (v:Value) (n:Nat) (cells:List Value) (hs:a.eval s=v) (hown:w.ownsRow base e S.size v n cells) {F:Nat->Prop} {xs:List α} {A:Option Addr} {m c:Nat} (hx:a.eval x=.slice A m c) (hr:Rds S w F xs A m c)
  (h63:n+m<=maxLen) (hbytes:(n+m)*bytes<=140737488355328) (hbase:base<=w.heap.size)
  (h:∀v' w' ys,ys.map (·.1)=xs->(∀y∈ys,S.rep w F y.1 y.2)->w'.ownsRow base e S.size v' (n+m) (cells++flat ys)->w.grownBy w' v.ownBlock->(v'.ownBlock=v.ownBlock\/v'.ownBlock=some w.heap.size)->wpList P ops Q rest (a.put o.dst v') w'):wpList P ops Q (o::rest) a w :=
 wpList_plain hgd λ_ hK=>zul w s x t ho hS base e i z bytes ht hi hz hsize hby hzs hsz v n cells hs hown hx hr h63 hbytes hbase λv' w' ys h1 h2 h3 h4 h5=>hK _ _ (h v' w' ys h1 h2 h3 h4 h5)
end
theorem wpList_append_run{P:Program}{w w':World}{v':Value}{ops:Array Oper}{rest:List Oper}{a:Act}{Q:Exit->Act->World->Prop}(hgd:o.guard=none)(s x:Operand)(t tn:TypeId)
  (ho:o.op=.call { callee:=.builtin .append,args:=#[s,x],argTypes:=#[t,tn] }) (vs vx:Value) (hs:a.eval s=vs) (hx:a.eval x=vx)
  (hrun:(Builtin.append_ #[t,tn] o.type #[vs,vx]).run P w=.ok v' w') (h:wpList P ops Q rest (a.put o.dst v') w'):wpList P ops Q (o::rest) a w :=
 wpList_plain hgd λ_ hK=>by unfold Oper.wp execOp;simp only[ho,resolve,invoke,builtin,Sem.run_bind,Sem.run_pure,Result.andThen_ok,zY3f,zY1n,zY2o,hs,hx,hrun];exact hK _ _ h
theorem zpt{S:Sh α}{w:World}{xss:List (List α)}{A:Option Addr}(h:Rds (z0j S) w F xss A n c)(hk:k<n) :
  ∃b off xs A' n' c',A=some ⟨b,off,none⟩/\F b/\xss[k]?=some xs/\w.cell? ⟨b,off+k,none⟩=some (.slice A' n' c')/\Rds S w F xs A' n' c':=by
 obtain⟨b,off,xs,cs,e,hF,hx,⟨A',n',c',rfl,hr⟩,hc⟩:=h.at_ hk;exact⟨b,off,xs,A',n',c',e,hF,hx,by simpa[z0j]using hc 0 _ rfl,hr⟩
def total{α:Type}:List (List α)->Nat
 | []=>0
 |xs::l=>xs.length+total l
theorem zdp{l:List (List α)}{x:List α}(h:l[k]?=some x):total (l.take (k+1))=total (l.take k)+x.length:=by
 induction l generalizing k with
 |nil=>simp at h
 |cons y l ih =>
  cases k with
  |zero=>simp at h;subst h;simp[total]
  |succ k=>simp at h;simp[total,ih h];omega
theorem z63(l:List (List α))(k:Nat):total (l.take k)<=total l:=by
 induction l generalizing k with
 |nil=>simp[total]
 |cons y l ih =>
  cases k with
  |zero=>simp[total]
  |succ k=>simp[total];exact ih k
section
attribute [local semireducible] znc rds rep cells box row At Put Del Sub
section
variable {P:Program} {w0 W:World} {F0:Nat->Prop} {Γ Γ' Γ1:List Res}
variable {ops:Array Oper} {Q:Exit->Act->World->Prop} {a:Act} {rest:List Oper} {o:Oper} {t:TypeId} {x y:Operand}
end
end
theorem z0al(k:Nat)(w:World)(hk:k<=1000000) :
  Calls Tryz.prog 142 #[.slice none 0 0,.int .i64 k] w λe w'=>∃v,e=.returned v/\w'.ownsRow w.heap.size 9 1 v 0 []/\Below w.heap.size w w':=by
 obtain⟨i0,zv,hi,hz0,hz1,hz2,hz3⟩:=z9t (P:=Tryz.prog) (e:=9) (k:=1) (y:=16) zX1;rcases zY1u k with h0|h0
 ·have h0':(k:Int)<=0:=zX0;clear h0;go_enter Tryz.func142,Tryz.ntmps142;go_wp2;go_ret;exact⟨_,rfl,World.ownsRow_nil _ _ _ _,Below.refl _ _⟩
 ·have h0':(0:Int)<(k:Int):=zX0;have hrun:=Lib.run_append_grow_zeros (P:=Tryz.prog) w 22 3 22 9 i0 zv .i64 .i64 Tryz.underlying22 Tryz.underlying3 hi hz0 none 0 0 [] (by simp[Builtin.firstCells]) k h0 zX0 zX0 zX0 (by rw[hz2];omega) (by
   have:Builtin.nextslicecap (0+k) 0=k:=by unfold Builtin.nextslicecap;rw[zP zX0];omega
   rw[this,hz2];omega)
  have hg:=grownCap_ge w (0+k) 0 9;have hg2:=grownCap_le_maxLen w (0+k) 0 9 zXd;simp only[zY0z]at hrun hg hg2;generalize hG:grownCap w k 0 9=G at hrun hg hg2;clear hG;generalize hC:(List.toArray (α:=Value) []++Builtin.zeroCells zv.cells k++Builtin.zeroCells zv.cells (G-k))=C at hrun;have hCs:C.size=G*1:=by rw[<- hC];simp only[zY2x,zY2n,zY0p,size_zeroCells,hz3];rw[zY0z,<- Nat.add_mul];congr 1;omega
  clear hC hi hz0 hz1 hz2 hz3;have hgI:(0:Int)<=(G:Int):=zX0;have HRUN:=Lib.hid hrun;clear hrun;go_enter Tryz.func142,Tryz.ntmps142;go_wp2_with (at_builtin;refine wpList_append_run rfl _ _ _ _ rfl _ _ rfl rfl HRUN.out ?_);go_ret;refine⟨_,rfl,⟨by simp,.inr ⟨w.heap.size,G,C,rfl,zY0k _,heap_alloc_new w.drew _,by omega,hg2,hCs,by simp⟩⟩,?_⟩;exact(Below.refl _ _).drew.alloc (zY0k _) _
theorem z045(xss:List (List (List UInt8)))(A:Option Addr)(n c:Nat)(w:World)(F:Nat->Prop)(h:Rds (z0j shStr) w F xss A n c)(hF:∀b,F b->b<w.heap.size)(hn:total xss<=1000000) :
  Calls Tryz.prog 125 #[.slice A n c] w (z4x shStr 9 w F xss.flatten (total xss)):=by
 have hnc:=h.2.1;have hcc:=h.2.2.1;have hxl:=h.1;obtain⟨i0,zv,hi,hz0,hz1,hz2,hz3⟩:=z9t (P:=Tryz.prog) (e:=9) (k:=1) (y:=16) zX1;have H:=Lib.hid h;clear h;go_enter Tryz.func125,Tryz.ntmps125;go_wp2;go_loop [3,5,11] (λs _ i=>∃k:Nat,k<=n/\i=.int .i64 k/\s=.int .i64 (total (xss.take k):Nat)) (λ_ _ i=>n-(intOf i).toNat);case atStart=>exact⟨0,by omega,rfl,by simp[total]⟩
 case round =>
  obtain⟨k,hk,rfl,rfl⟩:=hrel;have ht:=z63 xss k;by_cases hlt:k<n
  ·obtain⟨b,off,xs,A',n',c',rfl,hFb,hx,hcell,hr'⟩:=zpt H.out hlt;have htt:=zdp hx;have ht2:=z63 xss (k+1);have hl':=hr'.1;have HL:=Lib.hid hl';have HT:=Lib.hid htt;have hb1:total (xss.take k)+n'<=1000000:=zX0;clear htt hx ht2 hr' hl';have hl2:=hlt;go_wp2;go_round;case measure=>simp[intOf];omega
   case rel=>exact⟨k+1,by omega,by go_num,by rw[HT.out,<- HL.out];rfl⟩
  ·obtain rfl:k=n:=zX0;have e:xss.take k=xss:=zY0v zX0;rw[e]at ht⊢;have HX:=Lib.hid hxl;clear e hlt hxl ht;have h00:(0:Int)<=(total xss:Int):=zX0;go_wp2_with fail;refine(z0al _ _ hn).mono ?_;rintro e w1 ⟨v1,rfl,hown1,hb1⟩;have HO1:=Lib.hid hown1;have HB1:=Lib.hid hb1;clear hown1 hb1;go_wp2_with fail;go_loopw [6,8,27] (λs _ i wr=>∃(k':Nat) (zs:List ((List UInt8)×List Value)),k'<=k/\i=.int .i64 k'/\zs.map (·.1)=(xss.take k').flatten/\(∀z∈zs,(shStr).rep w F z.1 z.2)/\wr.ownsRow w.heap.size 9 (shStr).size s (total (xss.take k')) (flat zs)/\Below w.heap.size w wr) (λ_ _ i _=>k-(intOf i).toNat);case atStart=>exact⟨0,[],by omega,rfl,rfl,by simp,HO1.out,HB1.out⟩
   case round =>
    obtain⟨k',zs,hk',rfl,z1,z2,hown,hb⟩:=hrel;by_cases hlt:k'<k
    ·obtain⟨b,off,xs,A',n',c',rfl,hFb,hx,hcell,hr'⟩:=zpt H.out hlt;rw[<- hb.cell (p:=⟨b,off+k',none⟩) (hF b hFb)]at hcell;have htt:=zdp hx;have ht2:=z63 xss (k'+1);have hb1:total (xss.take k')+n'<=1000000:=by have:=hr'.1;omega
     have HR:=Lib.hid (hr'.keep ((Agree.below hb).mono hF));have HT:=Lib.hid htt;have HX2:=Lib.hid hx;have HO:=Lib.hid hown;have HB:=Lib.hid hb;have Z1:=Lib.hid z1;have Z2:=Lib.hid z2;clear hr' htt hx hown hb z1 z2 ht2;go_wp2_with (at_builtin;refine zde _ rfl _ _ 22 rfl zwd w.heap.size 9 i0 zv 16 Tryz.underlying22 hi hz0 hz1 hz2 hz3 zX9 _ (total (xss.take k')) (flat zs) rfl HO.out rfl HR.out zXd zX0 HB.out.size ?_;intro v2 w2 ys y1 y2 hown2 hgr2 _);go_roundw;case measure=>simp[intOf];omega
     case rel =>
      have hl2:=HR.out.1;refine⟨k'+1,zs++ys,by omega,by go_num,?_,?_,?_,HB.out.grown hgr2 HB.out.size (λj hj=>zjm HO.out hj)⟩
      ·rw[zY24,Z1.out,y1,z3x HX2.out,zY2s];simp
      ·intro z hz;rcases zY13.1 hz with h|h
       ·exact Z2.out z h
       ·exact(shStr).keep (λb hb=>(HB.out.block b (hF b hb)).symm) (y2 z h)
      ·rw[HT.out,hl2,zfy];exact hown2
    ·obtain rfl:k'=k:=zX0;rw[zY0v (by rw[HX.out];omega)]at z1 hown;have HO:=Lib.hid hown;have Z1:=Lib.hid z1;have Z2:=Lib.hid z2;clear hown z1 z2;go_wp2;go_ret;exact⟨_,zs,rfl,Z1.out,Z2.out,HO.out,hb⟩
theorem z07d(k:Nat)(w:World)(hk:k<=1000000) :
  Calls Tryz.prog 113 #[.slice none 0 0,.int .i64 k] w λe w'=>∃v,e=.returned v/\w'.ownsRow w.heap.size 84 6 v 0 []/\Below w.heap.size w w':=by
 obtain⟨i0,zv,hi,hz0,hz1,hz2,hz3⟩:=z9t (P:=Tryz.prog) (e:=84) (k:=6) (y:=64) zX1;rcases zY1u k with h0|h0
 ·have h0':(k:Int)<=0:=zX0;clear h0;go_enter Tryz.func113,Tryz.ntmps113;go_wp2;go_ret;exact⟨_,rfl,World.ownsRow_nil _ _ _ _,Below.refl _ _⟩
 ·have h0':(0:Int)<(k:Int):=zX0;have hrun:=Lib.run_append_grow_zeros (P:=Tryz.prog) w 29 3 29 84 i0 zv .i64 .i64 Tryz.underlying29 Tryz.underlying3 hi hz0 none 0 0 [] (by simp[Builtin.firstCells]) k h0 zX0 zX0 zX0 (by rw[hz2];omega) (by
   have:Builtin.nextslicecap (0+k) 0=k:=by unfold Builtin.nextslicecap;rw[zP zX0];omega
   rw[this,hz2];omega)
  have hg:=grownCap_ge w (0+k) 0 84;have hg2:=grownCap_le_maxLen w (0+k) 0 84 zXd;simp only[zY0z]at hrun hg hg2;generalize hG:grownCap w k 0 84=G at hrun hg hg2;clear hG;generalize hC:(List.toArray (α:=Value) []++Builtin.zeroCells zv.cells k++Builtin.zeroCells zv.cells (G-k))=C at hrun;have hCs:C.size=G*6:=by rw[<- hC];simp only[zY2x,zY2n,zY0p,size_zeroCells,hz3];rw[zY0z,<- Nat.add_mul];congr 1;omega
  clear hC hi hz0 hz1 hz2 hz3;have hgI:(0:Int)<=(G:Int):=zX0;have HRUN:=Lib.hid hrun;clear hrun;go_enter Tryz.func113,Tryz.ntmps113;go_wp2_with (at_builtin;refine wpList_append_run rfl _ _ _ _ rfl _ _ rfl rfl HRUN.out ?_);go_ret;refine⟨_,rfl,⟨by simp,.inr ⟨w.heap.size,G,C,rfl,zY0k _,heap_alloc_new w.drew _,by omega,hg2,hCs,by simp⟩⟩,?_⟩;exact(Below.refl _ _).drew.alloc (zY0k _) _
theorem z00f(xss:List (List (Coin)))(A:Option Addr)(n c:Nat)(w:World)(F:Nat->Prop)(h:Rds (z0j shCoin) w F xss A n c)(hF:∀b,F b->b<w.heap.size)(hn:total xss<=1000000) :
  Calls Tryz.prog 88 #[.slice A n c] w (z4x shCoin 84 w F xss.flatten (total xss)):=by
 have hnc:=h.2.1;have hcc:=h.2.2.1;have hxl:=h.1;obtain⟨i0,zv,hi,hz0,hz1,hz2,hz3⟩:=z9t (P:=Tryz.prog) (e:=84) (k:=6) (y:=64) zX1;have H:=Lib.hid h;clear h;go_enter Tryz.func88,Tryz.ntmps88;go_wp2;go_loop [3,5,11] (λs _ i=>∃k:Nat,k<=n/\i=.int .i64 k/\s=.int .i64 (total (xss.take k):Nat)) (λ_ _ i=>n-(intOf i).toNat);case atStart=>exact⟨0,by omega,rfl,by simp[total]⟩
 case round =>
  obtain⟨k,hk,rfl,rfl⟩:=hrel;have ht:=z63 xss k;by_cases hlt:k<n
  ·obtain⟨b,off,xs,A',n',c',rfl,hFb,hx,hcell,hr'⟩:=zpt H.out hlt;have htt:=zdp hx;have ht2:=z63 xss (k+1);have hl':=hr'.1;have HL:=Lib.hid hl';have HT:=Lib.hid htt;have hb1:total (xss.take k)+n'<=1000000:=zX0;clear htt hx ht2 hr' hl';have hl2:=hlt;go_wp2;go_round;case measure=>simp[intOf];omega
   case rel=>exact⟨k+1,by omega,by go_num,by rw[HT.out,<- HL.out];rfl⟩
  ·obtain rfl:k=n:=zX0;have e:xss.take k=xss:=zY0v zX0;rw[e]at ht⊢;have HX:=Lib.hid hxl;clear e hlt hxl ht;have h00:(0:Int)<=(total xss:Int):=zX0;go_wp2_with fail;refine(z07d _ _ hn).mono ?_;rintro e w1 ⟨v1,rfl,hown1,hb1⟩;have HO1:=Lib.hid hown1;have HB1:=Lib.hid hb1;clear hown1 hb1;go_wp2_with fail;go_loopw [6,8,27] (λs _ i wr=>∃(k':Nat) (zs:List ((Coin)×List Value)),k'<=k/\i=.int .i64 k'/\zs.map (·.1)=(xss.take k').flatten/\(∀z∈zs,(shCoin).rep w F z.1 z.2)/\wr.ownsRow w.heap.size 84 (shCoin).size s (total (xss.take k')) (flat zs)/\Below w.heap.size w wr) (λ_ _ i _=>k-(intOf i).toNat);case atStart=>exact⟨0,[],by omega,rfl,rfl,by simp,HO1.out,HB1.out⟩
   case round =>
    obtain⟨k',zs,hk',rfl,z1,z2,hown,hb⟩:=hrel;by_cases hlt:k'<k
    ·obtain⟨b,off,xs,A',n',c',rfl,hFb,hx,hcell,hr'⟩:=zpt H.out hlt;rw[<- hb.cell (p:=⟨b,off+k',none⟩) (hF b hFb)]at hcell;have htt:=zdp hx;have ht2:=z63 xss (k'+1);have hb1:total (xss.take k')+n'<=1000000:=by have:=hr'.1;omega
     have HR:=Lib.hid (hr'.keep ((Agree.below hb).mono hF));have HT:=Lib.hid htt;have HX2:=Lib.hid hx;have HO:=Lib.hid hown;have HB:=Lib.hid hb;have Z1:=Lib.hid z1;have Z2:=Lib.hid z2;clear hr' htt hx hown hb z1 z2 ht2;go_wp2_with (at_builtin;refine zde _ rfl _ _ 29 rfl zt5 w.heap.size 84 i0 zv 64 Tryz.underlying29 hi hz0 hz1 hz2 hz3 zX9 _ (total (xss.take k')) (flat zs) rfl HO.out rfl HR.out zXd zX0 HB.out.size ?_;intro v2 w2 ys y1 y2 hown2 hgr2 _);go_roundw;case measure=>simp[intOf];omega
     case rel =>
      have hl2:=HR.out.1;refine⟨k'+1,zs++ys,by omega,by go_num,?_,?_,?_,HB.out.grown hgr2 HB.out.size (λj hj=>zjm HO.out hj)⟩
      ·rw[zY24,Z1.out,y1,z3x HX2.out,zY2s];simp
      ·intro z hz;rcases zY13.1 hz with h|h
       ·exact Z2.out z h
       ·exact(shCoin).keep (λb hb=>(HB.out.block b (hF b hb)).symm) (y2 z h)
      ·rw[HT.out,hl2,zfy];exact hown2
    ·obtain rfl:k'=k:=zX0;rw[zY0v (by rw[HX.out];omega)]at z1 hown;have HO:=Lib.hid hown;have Z1:=Lib.hid z1;have Z2:=Lib.hid z2;clear hown z1 z2;go_wp2;go_ret;exact⟨_,zs,rfl,Z1.out,Z2.out,HO.out,hb⟩
theorem z0am[DecidableEq α](x:α)(l:List α)(j k:Nat)(hj:j<l.length)(hx:l[j]?=some x):(z1a x l k<k+j↔x∈l.take j):=by
 induction l generalizing j k with
 |nil=>simp at hj
 |cons y l ih =>
  cases j with
  |zero =>simp at hx;subst hx;simp[z1a]
  |succ j =>
   simp at hx hj;by_cases h:x=y
   ·subst h;simp[z1a];omega
   ·have:=ih j (k+1) hj hx;rw[z1a,zN h,zY35,zY0g];simp only[h,false_or];rw[<- this];constructor<;>intro h'<;>omega
def za2(l:List (List UInt8))(s:List UInt8):List (List UInt8):=if 4000<s.length then[]else z6r l s
def za3(l:List (List UInt8))(s:List UInt8):Int:=if 4000<s.length then 0 else z85 l s
def za4(l:List (List UInt8))(s:List UInt8):Int:=if 4000<s.length then 2 else z66 l s
abbrev Text:=List UInt8
theorem z0an[DecidableEq α](x:α)(l:List α)(k:Nat)(h:0<=z1a x l k):∃j:Nat,z1a x l k=k+j/\l[j]?=some x:=by
 induction l generalizing k with
 |nil=>simp[z1a]at h
 |cons y l ih =>
  by_cases hxy:x=y
  ·subst hxy;exact⟨0,by simp[z1a],by simp⟩
  ·rw[z1a,zN hxy]at h⊢;obtain⟨j,h1,h2⟩:=ih (k+1) h;exact⟨j+1,by rw[h1];omega,by simpa using h2⟩
theorem zer[DecidableEq α]{l:List α}{x:α}(h:0<=idx l x):∃j:Nat,idx l x=j/\l[j]?=some x:=by obtain⟨j,h1,h2⟩:=z0an x l 0 h;exact⟨j,by unfold idx;omega,h2⟩
theorem zxj[DecidableEq α](x:α)(l m:List α)(k:Nat)(h:0<=z1a x l k):z1a x (l++m) k=z1a x l k:=by
 induction l generalizing k with
 |nil=>simp[z1a]at h
 |cons y l ih =>
  by_cases hxy:x=y
  ·subst hxy;simp[z1a]
  ·rw[z1a,zN hxy]at h;rw[zY1g,z1a,zN hxy,z1a,zN hxy];exact ih _ h
theorem zdr[DecidableEq α]{l m:List α}(hp:l <+: m){x:α}(h:0<=idx l x):idx m x=idx l x:=by obtain⟨r,rfl⟩:=hp;exact zxj x l r 0 h
theorem zup[DecidableEq α]{l m:List α}(hp:l <+: m){x:α}(h:0<=idx l x):0<=idx m x:=by rw[zdr hp h];exact h
theorem Rds.blk{xs:List Block}{A:Option Addr}(h:Rds shBlock w F xs A n c)(hk:k<n) :
  ∃b off x A1 n1 c1,A=some ⟨b,off,none⟩/\F b/\xs[k]?=some x/\(w.cell? ⟨b,off+k*5,none⟩=some (.int .i64 x.parent)/\w.cell? ⟨b,off+k*5+1,none⟩=some (.int .i64 x.height)/\w.cell? ⟨b,off+k*5+2,none⟩=some (.int .i64 x.work)/\w.cell? ⟨b,off+k*5+3,none⟩=some (.int .i64 x.nonce)/\w.cell? ⟨b,off+k*5+4,none⟩=some (.slice A1 n1 c1))/\shBlock.rep w F x [.int .i64 x.parent,.int .i64 x.height,.int .i64 x.work,.int .i64 x.nonce,.slice A1 n1 c1]:=by
 obtain⟨b,off,x,cs,e,hF,hx,hr,hc⟩:=h.at_ hk;have hr':=hr;obtain⟨A1,n1,c1,rfl,h1,h2,h3,h4,h5⟩:=zjl hr;exact⟨b,off,x,A1,n1,c1,e,hF,hx,⟨by simpa[shBlock,zn6,zjk,zef,z3q,shInt,z0j]using hc 0 _ rfl,by simpa[shBlock,zn6,zjk,zef,z3q,shInt,z0j]using hc 1 _ rfl,by simpa[shBlock,zn6,zjk,zef,z3q,shInt,z0j]using hc 2 _ rfl,by simpa[shBlock,zn6,zjk,zef,z3q,shInt,z0j]using hc 3 _ rfl,by simpa[shBlock,zn6,zjk,zef,z3q,shInt,z0j]using hc 4 _ rfl⟩,hr'⟩
def z00(bs:List Block)(i:Int):Block:=(bs[i.toNat]?).getD ⟨0,0,0,0,[]⟩
def z23(ns:List Int)(bs:List Block)(b:Block)(m:Nat):Int :=
 if b.parent=0 then(if b.height≠1 then 4 else 0)
 else if idx (ns.take m) b.parent<0 then 5 else if b.height≠(z00 bs (idx (ns.take m) b.parent)).height+1 then 4 else 0
def z17(ns:List Int)(k:Nat):Int:=(ns[k]?).getD 0
def z22(ns:List Int)(bs:List Block)(k:Nat)(n:Int)(b:Block):Int :=
 if n<1\/120<n then 3 else if zf b≠0 then zf b else if z15 (ns.take k) n=true then 6 else z23 ns bs b k
def z44(ns:List Int)(bs:List Block):Nat->Nat->Int
 |_,0=>0
 |k,f+1=>if z22 ns bs k (z17 ns k) (z00 bs k)≠0 then z22 ns bs k (z17 ns k) (z00 bs k)else z44 ns bs (k+1) f
def zn(t:Tree):Int:=if t.names.length≠t.blocks.length then 4 else if 24<t.names.length then 2 else z44 t.names t.blocks 0 t.names.length
theorem z00g{b:Block}(h:zf b=0):¬z31 b/\b.txs.length<=4:=by
 unfold zf at h;by_cases h0:z60 b=0
 ·unfold z60 at h0;by_cases h1:z31 b
  ·rw[zP h1]at h0;cases h0
  ·rw[zN h1]at h0;by_cases h2:4<b.txs.length
   ·rw[zP h2]at h0;cases h0
   ·exact⟨h1,by omega⟩
 ·rw[zP h0]at h;exact absurd h h0
theorem zb7{b:Block}(h:zf b=0):0<=b.height/\b.height<=1000:=by have:=(z00g h).1;unfold z31 at this;omega
structure TreeOK(ns:List Int)(bs:List Block):Prop where
 len:ns.length=bs.length
 le:ns.length<=24
 step:∀k,k<ns.length->z22 ns bs k (z17 ns k) (z00 bs k)=0
theorem z047(ns:List Int)(bs:List Block)(f k:Nat):z44 ns bs k f=0↔∀j,k<=j->j<k+f->z22 ns bs j (z17 ns j) (z00 bs j)=0:=by
 induction f generalizing k with
 |zero=>simp[z44];intro j h1 h2;omega
 |succ f ih =>
  rw[z44];by_cases h:z22 ns bs k (z17 ns k) (z00 bs k)=0
  ·rw[zN (by simp[h]),ih];constructor
   ·intro H j h1 h2;rcases zY1w k j with h3|h3
    ·exact H j h3 zX0
    ·obtain rfl:j=k:=zX0;exact h
   ·intro H j h1 h2;exact H j zX0 zX0
  ·rw[zP h];constructor
   ·intro e;exact absurd e h
   ·intro H;exact H k (zY0k _) zX0
theorem z2j(ns:List Int)(bs:List Block):zn ⟨ns,bs⟩=0↔TreeOK ns bs:=by
 simp only[zn];by_cases h1:ns.length=bs.length
 ·rw[zN (by simp[h1])];by_cases h2:24<ns.length
  ·rw[zP h2];constructor
   ·intro e;cases e
   ·intro H;have:=H.le;omega
  ·rw[zN h2,z047];exact⟨λH=>⟨h1,by omega,λk hk=>H k (Nat.zero_le _) zX0⟩,λH j _ hj=>H.step j zX0⟩
 ·rw[zP h1];constructor
  ·intro e;cases e
  ·intro H;exact absurd H.len h1
theorem z9m{ns:List Int}{bs:List Block}{n:Int}{b:Block}(h:z22 ns bs k n b=0):(1<=n/\n<=120)/\zf b=0/\n∉ns.take k/\z23 ns bs b k=0:=by
 unfold z22 at h;by_cases h1:n<1\/120<n
 ·rw[zP h1]at h;cases h
 ·rw[zN h1]at h;by_cases h2:zf b=0
  ·rw[h2,zN (show ¬((0:Int)≠0)by decide)]at h;by_cases h3:z15 (ns.take k) n=true
   ·rw[zP h3]at h;cases h
   ·rw[zN h3]at h;exact⟨by omega,h2,by simpa[z15]using h3,h⟩
  ·rw[zP h2]at h;exact absurd h h2
theorem z048{ns:List Int}{bs:List Block}{b:Block}(h:z23 ns bs b k=0):(b.parent=0/\b.height=1)\/(b.parent≠0/\∃j:Nat,j<k/\idx ns b.parent=j/\ns[j]?=some b.parent/\b.height=(z00 bs j).height+1):=by
 unfold z23 at h;by_cases h1:b.parent=0
 ·rw[zP h1]at h;by_cases h2:b.height=1
  ·exact .inl ⟨h1,h2⟩
  ·rw[zP h2]at h;cases h
 ·rw[zN h1]at h;by_cases h2:idx (ns.take k) b.parent<0
  ·rw[zP h2]at h;cases h
  ·rw[zN h2]at h;by_cases h3:b.height=(z00 bs (idx (ns.take k) b.parent)).height+1
   ·obtain⟨j,hj,hjs⟩:=zer (show 0<=idx (ns.take k) b.parent by omega);have hp:=zdr (List.take_prefix k ns) (x:=b.parent) zX0;have hlt:=(zY02.1 hjs).1;rw[zY17]at hjs;split at hjs
    ·exact .inr ⟨h1,j,by assumption,by omega,hjs,by rw[hj]at h3;exact h3⟩
    ·cases hjs
   ·rw[zP h3]at h;cases h
def z0x(ns:List Int)(bs:List Block)(m:Int):Int:=(z00 bs (idx ns m)).parent
def z4g(ns:List Int)(m:Int):Nat:=if m=0 then 0 else(idx ns m+1).toNat
def up(ns:List Int)(bs:List Block):Nat->Int->List Int
 |0,_=>[]
 |f+1,m=>if m=0 then[]else m::up ns bs f (z0x ns bs m)
def z01(ns:List Int)(bs:List Block)(m:Int):List Int:=(up ns bs ns.length m).reverse
theorem TreeOK.name{ns:List Int}{bs:List Block}(h:TreeOK ns bs){m:Int}(hm:0<=idx ns m):1<=m/\m<=120/\∃j:Nat,j<ns.length/\idx ns m=j/\z17 ns j=m/\(z0x ns bs m=0\/(z0x ns bs m≠0/\0<=idx ns (z0x ns bs m)/\idx ns (z0x ns bs m)<j)):=by
 obtain⟨j,hj,hjs⟩:=zer hm;have hlt:=(zY02.1 hjs).1;have hn:z17 ns j=m:=by simp[z17,hjs]
 obtain⟨⟨a,b⟩,c,d,e⟩:=z9m (h.step j hlt);refine⟨by omega,by omega,j,hlt,hj,hn,?_⟩;have hp:z0x ns bs m=(z00 bs j).parent:=by unfold z0x;rw[hj]
 rw[hp];rcases z048 e with⟨h1,h2⟩|⟨h1,i,hi,hi2,hi3,hi4⟩
 ·exact .inl h1
 ·exact .inr ⟨h1,by omega,by omega⟩
theorem TreeOK.rem{ns:List Int}{bs:List Block}(h:TreeOK ns bs){m:Int}(h0:m≠0)(hm:0<=idx ns m):z4g ns (z0x ns bs m)<z4g ns m:=by
 obtain⟨_,_,j,hj,he,_,hp⟩:=h.name hm;unfold z4g;rw[zN h0];rcases hp with hp|⟨hp,h1,h2⟩
 ·rw[zP hp];omega
 ·rw[zN hp];omega
section
open Go.Shelf
theorem zuq(b off n c:Nat)(zs:List Int)(w:World)(hz:n<=zs.length)(hbig:n<=9223372036854775807)(hc:∀j,j<zs.length->w.cell? ⟨b,off+j,none⟩=some (.int .i64 (zs.getD j 0)))(hf:∀j,j<n->w.frozen? ⟨b,off+j,none⟩=false) :
  Calls Tryz.prog 14 #[.slice (some ⟨b,off,none⟩) n c] w λe w'=>e=.returned (.tuple #[])/\∃q,w'=(w.drewN q).setCells b off ((zs.take n).reverse.map (Value.int .i64)) :=
 Any.slices_Reverse_int_cells Tryz.lays112 b off n c zs w hz hbig hc hf
theorem zur(a:Option Addr)(c:Nat)(w:World) :
  Calls Tryz.prog 14 #[.slice a 0 c] w λe w'=>e=.returned (.tuple #[])/\w'=w :=
 Any.slices_Reverse_int_empty Tryz.lays112 a c w
end

def z3e(t:Tree)(m:Int):List Int×Int :=
 if zn t≠0 then([],zn t)else if m≠0/\idx t.names m<0 then([],5)else(z01 t.names t.blocks m,0)
theorem znl(ns:List Int)(m:Int):z15 ns m=true↔0<=idx ns m:=by unfold z15 idx;rw[decide_eq_true_iff,ztb]

theorem zrq{ns:List Int}{bs:List Block}(ok:TreeOK ns bs)(f f':Nat)(m:Int)(hm:m=0\/0<=idx ns m)(h:z4g ns m<=f)(h':z4g ns m<=f'):up ns bs f m=up ns bs f' m:=by
 induction f generalizing f' m with
 |zero =>
  have h0:m=0:=by
   rcases hm with hm|hm
   ·exact hm
   ·apply Classical.byContradiction;intro h0;unfold z4g at h;rw[zN h0]at h;omega
  cases f' with
  |zero=>rfl
  |succ f'=>rw[up,up,zP h0]
 |succ f ih =>
  by_cases h0:m=0
  ·cases f' with
   |zero=>rw[up,up,zP h0]
   |succ f'=>rw[up,up,zP h0,zP h0]
  ·have hm':0<=idx ns m:=by rcases hm with h|h;exact absurd h h0;exact h
   cases f' with
   |zero=>unfold z4g at h';rw[zN h0]at h';omega
   |succ f' =>have hr:=ok.rem h0 hm';obtain⟨_,_,j,_,_,_,hp⟩:=ok.name hm';rw[up,up,zN h0,zN h0,ih f' (z0x ns bs m) (by rcases hp with h|h;exact .inl h;exact .inr h.2.1) zX0 zX0]
theorem z02a{ns:List Int}{bs:List Block}(ok:TreeOK ns bs){m:Int}(hm:m=0\/0<=idx ns m):z4g ns m<=ns.length:=by
 unfold z4g;rcases hm with h|h
 ·rw[zP h];omega
 ·obtain⟨_,_,j,hj,he,_⟩:=ok.name h;split<;>omega
theorem z55(ns:List Int)(bs:List Block):z01 ns bs 0=[]:=by
 unfold z01;cases ns.length with
 |zero=>rfl
 |succ n=>rw[up,zP rfl];rfl
theorem z56{ns:List Int}{bs:List Block}(ok:TreeOK ns bs){m:Int}(hm:0<=idx ns m):z01 ns bs m=z01 ns bs (z0x ns bs m)++[m]/\(z0x ns bs m=0\/0<=idx ns (z0x ns bs m))/\z4g ns (z0x ns bs m)<z4g ns m:=by
 obtain⟨h1,h2,j,hj,he,_,hp⟩:=ok.name hm;have h0:m≠0:=zX0;have hp':z0x ns bs m=0\/0<=idx ns (z0x ns bs m):=by rcases hp with h|h;exact .inl h;exact .inr h.2.1
 have hr:=ok.rem h0 hm;have hle:=z02a ok (m:=m) (.inr hm);refine⟨?_,hp',hr⟩;unfold z01;obtain⟨f,hf⟩:∃f,ns.length=f+1:=⟨ns.length-1,by omega⟩
 rw[zrq ok ns.length (f+1) (z0x ns bs m) hp' zX0 zX0,hf,zrq ok (f+1) f (z0x ns bs m) hp' zX0 zX0,up,zN h0,List.reverse_cons]
theorem zi0{ns:List Int}{bs:List Block}(ok:TreeOK ns bs)(r:Nat){m:Int}(hr:z4g ns m<=r)(hm:m=0\/0<=idx ns m){v:Int}(h:(z01 ns bs m)[k]?=some v):(z01 ns bs m).take (k+1)=z01 ns bs v/\0<=idx ns v:=by
 induction r generalizing m with
 |zero =>
  rcases hm with h0|h0
  ·rw[h0,z55]at h;simp at h
  ·have:=(z56 ok h0).2.2;omega
 |succ r ih =>
  rcases hm with h0|h0
  ·rw[h0,z55]at h;simp at h
  ·obtain⟨e,hp,hr'⟩:=z56 ok h0;rw[e]at h⊢;rcases zY1w k (z01 ns bs (z0x ns bs m)).length with hk|hk
   ·rw[zY0l hk]at h;rw[zY1o zX0];exact ih zX0 hp h
   ·rw[zY0q hk]at h;have hk':k-(z01 ns bs (z0x ns bs m)).length=0:=by
     rcases zY1u (k-(z01 ns bs (z0x ns bs m)).length)with h'|h'
     ·exact h'
     ·rw[zY2m zXa]at h;cases h
    rw[hk']at h;simp at h;subst h;rw[zY0v zXa];exact⟨e.symm,h0⟩
section
open Go.ChangeShapes Go.WideShapes
theorem zlc(l:List α)(k m:Nat):(l.drop k).take m++l.drop (k+m)=l.drop k:=by rw[<- zY3q,zY10]
def z10(P:Program)(S:Sh α)(t:TypeId):Prop :=
 ∀ {H:Type} {enc:TypeId×Value->H} {w:World} {base:Nat} {spare:Nat->Bool} {held:Bool} {fuel:Nat} {cs:List Value} {x:DataW H×List MemPlace},
  DataW.trod enc P w base spare held fuel t cs=some x->∃a,S.rep w (Lt w.heap.size) a cs
section
variable {P:Program} {t:TypeId}
theorem z08x(ht:P.underlying t=some (.int .i64)):z10 P shInt t:=by intro H enc w base spare held fuel cs x h;obtain⟨n,rfl,_,hw⟩:=DataW.trod_int ht h;exact⟨n,rfl,by simp[Lit.wf,IntKind.min,IntKind.max,IntKind.signed,IntKind.bits]at hw;omega⟩
theorem z059(ht:P.underlying t=some .bool):z10 P shBool t:=by intro H enc w base spare held fuel cs x h;obtain⟨n,rfl,_⟩:=DataW.trod_bool ht h;exact⟨n,rfl⟩
theorem z08y(ht:P.underlying t=some .string):z10 P shStr t:=by intro H enc w base spare held fuel cs x h;obtain⟨s,rfl,_,hw⟩:=DataW.trod_string ht h;exact⟨s.data.toList,by simp,by unfold maxLen at hw;simpa using hw⟩
theorem z4b{S:Sh α}{e:TypeId}(ht:P.underlying t=some (.slice e))(hs:P.cellsOf e=S.size)(h0:0<S.size)(he:z10 P S e):z10 P (z0j S) t:=by
 intro H enc w base spare held fuel cs x h;rcases Go.Deep.open_slice ht h with⟨rfl,_⟩|⟨a,len,cap,m,n,D,Pl,rfl,_,hl,hm,hmm,-,hi⟩
 ·exact⟨[],_,_,_,rfl,Rds.nil _ _ _⟩
 ·have hlm:len<=m:=by rw[hmm];split<;>omega
  have key:∀i,i<len->∃y:α×List Value,S.rep w (Lt w.heap.size) y.1 y.2/\∀j,j<S.size->w.cell? (a.add (i*S.size+j))=y.2[j]?:=by intro i hlt;obtain⟨cs',hc,ht'⟩:=hi i zX0;obtain⟨y,hy⟩:=he ht';obtain⟨_,hcl,hat⟩:=World.cells?_some hc;refine⟨(y,cs'),hy,λj hj=>?_⟩;have:=hat j zX0;rw[hs,Go.Deep.add_add]at this;exact this
  have key2:∃ys:List (α×List Value),ys.length=len/\∀i (hi:i<ys.length),S.rep w (Lt w.heap.size) ys[i].1 ys[i].2/\∀j,j<S.size->w.cell? (a.add (i*S.size+j))=ys[i].2[j]?:=by
   clear hi hmm hlm hl h;induction len with
   |zero=>exact⟨[],rfl,λi hi=>by simp at hi⟩
   |succ l ih =>
    obtain⟨ys,hy1,hy2⟩:=ih (λi hi=>key i zX0);obtain⟨y,hy⟩:=key l zX0;refine⟨ys++[y],by simp[hy1],λi hi=>?_⟩;by_cases h':i<ys.length
    ·rw[List.getElem_append_left h'];exact hy2 i h'
    ·have:i=l:=by simp at hi;omega
     subst this;rw[List.getElem_append_right zX0];simpa[hy1]using hy
  obtain⟨ys,hy1,hy2⟩:=key2;refine⟨ys.map (·.1),_,_,_,rfl,by simp[hy1],hl,by unfold maxLen at hm;omega,λhn=>?_⟩;have c0:=(hy2 0 zX0).2 0 h0;have hl0:=S.len (hy2 0 zX0).1;have hspot:a.spot=none:=by have:(ys[0]' zX0).2[0]?=some ((ys[0]' zX0).2[0]' zX0):=zY03 zX0;rw[this]at c0;have:=World.cell?_spot c0;simpa[Addr.add]using this
  obtain⟨b,off,spot⟩:=a;simp only at hspot;subst hspot;have hadd:∀k,(Addr.mk b off none).add k=⟨b,off+k,none⟩:=by intro k;unfold Addr.add;split<;>simp_all
  refine⟨b,off,rfl,?_,λi hi=>?_⟩
  ·show b<w.heap.size;rcases zY1w b w.heap.size with h'|h'
   ·exact h'
   ·have e:w.cell? ((Addr.mk b off none).add (0*S.size+0))=none:=by rw[hadd];simp[World.cell?,zY18 h']
    rw[e]at c0;have:(ys[0]' zX0).2[0]?=some ((ys[0]' zX0).2[0]' zX0):=zY03 zX0;rw[this]at c0;cases c0
  ·have hi':i<ys.length:=by simpa using hi
   refine⟨ys[i].2,by simpa using(hy2 i hi').1,λj v hj=>?_⟩;have hjl:j<S.size:=by have:=S.len (hy2 i hi').1;have:=(zY02.1 hj).1;omega
   have:=(hy2 i hi').2 j hjl;rw[hadd,hj]at this;rw[<- this,zY33]
theorem zf4{S0:Sh α}{S1:Sh β}{f:α->β->τ}(ht:P.underlying t=some (.struct #[f0,f1]))(hc:P.cellsOf t=S0.size+S1.size)
  (o0:f0.offset=0) (o1:f1.offset=S0.size) (c0:P.cellsOf f0.type=S0.size) (c1:P.cellsOf f1.type=S1.size) (h0:z10 P S0 f0.type) (h1:z10 P S1 f1.type):z10 P (z3q S0 S1 f) t:=by
 intro H enc w base spare held fuel cs x h;obtain⟨xs,n,_,_,hl,hxl,hf⟩:=DataW.trod_struct ht h
 match xs,hxl with
 | [x0,x1],_ =>have g0:=hf 0 f0 rfl;have g1:=hf 1 f1 rfl;rw[o0,c0]at g0;rw[o1,c1]at g1;obtain⟨a,ha⟩:=h0 g0;obtain⟨b,hb⟩:=h1 g1;refine⟨f a b,a,b,_,_,rfl,?_,ha,hb⟩;rw[zY3h,zY0v (l:=cs.drop S0.size) zXa,zY10]
theorem zz6{S0:Sh α}{f:α->τ}(ht:P.underlying t=some (.struct #[f0]))(hc:P.cellsOf t=S0.size)
  (o0:f0.offset=0) (c0:P.cellsOf f0.type=S0.size) (h0:z10 P S0 f0.type):z10 P (shS1 S0 f) t:=by
 intro H enc w base spare held fuel cs x h;obtain⟨xs,n,_,_,hl,hxl,hf⟩:=DataW.trod_struct ht h
 match xs,hxl with
 | [x0],_ =>
  have g0:=hf 0 f0 rfl;rw[o0,c0]at g0;obtain⟨a,ha⟩:=h0 g0;refine⟨f a,a,rfl,?_⟩
  rwa [zY3h,zY0v zX0]at ha
theorem z0bo{S0:Sh α}{S1:Sh β}{S2:Sh γ}{f:α->β->γ->τ}(ht:P.underlying t=some (.struct #[f0,f1,f2]))(hc:P.cellsOf t=S0.size+(S1.size+S2.size))
  (o0:f0.offset=0) (o1:f1.offset=S0.size) (o2:f2.offset=S0.size+S1.size) (c0:P.cellsOf f0.type=S0.size) (c1:P.cellsOf f1.type=S1.size) (c2:P.cellsOf f2.type=S2.size)
  (h0:z10 P S0 f0.type) (h1:z10 P S1 f1.type) (h2:z10 P S2 f2.type):z10 P (zef S0 S1 S2 f) t:=by
 intro H enc w base spare held fuel cs x h;obtain⟨xs,n,_,_,hl,hxl,hf⟩:=DataW.trod_struct ht h
 match xs,hxl with
 | [x0,x1,x2],_ =>have g0:=hf 0 f0 rfl;have g1:=hf 1 f1 rfl;have g2:=hf 2 f2 rfl;rw[o0,c0]at g0;rw[o1,c1]at g1;rw[o2,c2]at g2;obtain⟨a,ha⟩:=h0 g0;obtain⟨b,hb⟩:=h1 g1;obtain⟨c,hc'⟩:=h2 g2;refine⟨f a b c,a,(b,c),_,_,rfl,?_,ha,b,c,_,_,rfl,rfl,hb,hc'⟩;rw[zY3h,zY0v (l:=cs.drop (S0.size+S1.size)) zXa,<- zY3q,zY10,zY10]
theorem z0bp{S0:Sh α}{S1:Sh β}{S2:Sh γ}{S3:Sh δ}{f:α->β->γ->δ->τ}{f3:Field}(ht:P.underlying t=some (.struct #[f0,f1,f2,f3]))(hc:P.cellsOf t=S0.size+(S1.size+(S2.size+S3.size)))
  (o0:f0.offset=0) (o1:f1.offset=S0.size) (o2:f2.offset=S0.size+S1.size) (o3:f3.offset=S0.size+S1.size+S2.size) (c0:P.cellsOf f0.type=S0.size) (c1:P.cellsOf f1.type=S1.size) (c2:P.cellsOf f2.type=S2.size) (c3:P.cellsOf f3.type=S3.size)
  (h0:z10 P S0 f0.type) (h1:z10 P S1 f1.type) (h2:z10 P S2 f2.type) (h3:z10 P S3 f3.type):z10 P (zjk S0 S1 S2 S3 f) t:=by
 intro H enc w base spare held fuel cs x h;obtain⟨xs,n,_,_,hl,hxl,hf⟩:=DataW.trod_struct ht h
 match xs,hxl with
 | [x0,x1,x2,x3],_ =>have g0:=hf 0 f0 rfl;have g1:=hf 1 f1 rfl;have g2:=hf 2 f2 rfl;have g3:=hf 3 f3 rfl;rw[o0,c0]at g0;rw[o1,c1]at g1;rw[o2,c2]at g2;rw[o3,c3]at g3;obtain⟨a,ha⟩:=h0 g0;obtain⟨b,hb⟩:=h1 g1;obtain⟨c,hc'⟩:=h2 g2;obtain⟨d,hd⟩:=h3 g3;refine⟨f a b c d,a,(b,c,d),_,_,rfl,?_,ha,b,(c,d),_,_,rfl,rfl,hb,c,d,_,_,rfl,rfl,hc',hd⟩;rw[zY3h,zY0v (l:=cs.drop (S0.size+S1.size+S2.size)) zXa,zlc,zlc,zY10]
theorem z0bq{ε:Type}{S0:Sh α}{S1:Sh β}{S2:Sh γ}{S3:Sh δ}{S4:Sh ε}{f:α->β->γ->δ->ε->τ}{f3 f4:Field}(ht:P.underlying t=some (.struct #[f0,f1,f2,f3,f4]))
  (hc:P.cellsOf t=S0.size+(S1.size+(S2.size+(S3.size+S4.size))))
  (o0:f0.offset=0) (o1:f1.offset=S0.size) (o2:f2.offset=S0.size+S1.size) (o3:f3.offset=S0.size+S1.size+S2.size) (o4:f4.offset=S0.size+S1.size+S2.size+S3.size)
  (c0:P.cellsOf f0.type=S0.size) (c1:P.cellsOf f1.type=S1.size) (c2:P.cellsOf f2.type=S2.size) (c3:P.cellsOf f3.type=S3.size) (c4:P.cellsOf f4.type=S4.size)
  (h0:z10 P S0 f0.type) (h1:z10 P S1 f1.type) (h2:z10 P S2 f2.type) (h3:z10 P S3 f3.type) (h4:z10 P S4 f4.type):z10 P (zn6 S0 S1 S2 S3 S4 f) t:=by
 intro H enc w base spare held fuel cs x h;obtain⟨xs,n,_,_,hl,hxl,hf⟩:=DataW.trod_struct ht h
 match xs,hxl with
 | [x0,x1,x2,x3,x4],_ =>have g0:=hf 0 f0 rfl;have g1:=hf 1 f1 rfl;have g2:=hf 2 f2 rfl;have g3:=hf 3 f3 rfl;have g4:=hf 4 f4 rfl;rw[o0,c0]at g0;rw[o1,c1]at g1;rw[o2,c2]at g2;rw[o3,c3]at g3;rw[o4,c4]at g4;obtain⟨a,ha⟩:=h0 g0;obtain⟨b,hb⟩:=h1 g1;obtain⟨c,hc'⟩:=h2 g2;obtain⟨d,hd⟩:=h3 g3;obtain⟨e,he⟩:=h4 g4;refine⟨f a b c d e,a,(b,c,d,e),_,_,rfl,?_,ha,b,(c,d,e),_,_,rfl,rfl,hb,c,(d,e),_,_,rfl,rfl,hc',d,e,_,_,rfl,rfl,hd,he⟩;rw[zY3h,zY0v (l:=cs.drop (S0.size+S1.size+S2.size+S3.size)) zXa,zlc,zlc,zlc,zY10]
end
theorem z6y:z10 Tryz.prog shInt 3:=z08x Tryz.underlying3
theorem z02k:z10 Tryz.prog shBool 4:=z059 Tryz.underlying4
theorem z0gh:z10 Tryz.prog shStr 9:=z08y Tryz.underlying9
theorem z0ek:z10 Tryz.prog (z0j shInt) 25:=z4b Tryz.underlying25 zX1 zX9 z6y
theorem z0el:z10 Tryz.prog (z0j shStr) 22:=z4b Tryz.underlying22 zX1 zX9 z0gh
theorem op_book:z10 Tryz.prog shBook 24:=zz6 Tryz.underlying24 zX1 rfl zX1 z0el
theorem z0c7:z10 Tryz.prog shOp 90:=zf4 Tryz.underlying90 zX1 rfl rfl zX1 zX1 z6y z6y
theorem z08z:z10 Tryz.prog (z0j shOp) 80:=z4b Tryz.underlying80 zX1 zX9 z0c7
theorem zob:z10 Tryz.prog shPoint 79:=zf4 Tryz.underlying79 zX1 rfl rfl zX1 zX1 z6y z6y
theorem z0h7:z10 Tryz.prog shIn 127:=zf4 Tryz.underlying127 zX1 rfl rfl zX1 zX1 zob z08z
theorem z0gi:z10 Tryz.prog (z0j shIn) 94:=z4b Tryz.underlying94 zX1 zX9 z0h7
theorem z090:z10 Tryz.prog shOut 82:=zf4 Tryz.underlying82 zX1 rfl rfl zX1 zX1 z6y z08z
theorem z0em:z10 Tryz.prog (z0j shOut) 95:=z4b Tryz.underlying95 zX1 zX9 z090
theorem z0h8:z10 Tryz.prog shTx 97:=z0bo Tryz.underlying97 zX1 rfl rfl rfl zX1 zX1 zX1 z6y z0gi z0em
theorem z0gj:z10 Tryz.prog (z0j shTx) 48:=z4b Tryz.underlying48 zX1 zX9 z0h8
theorem z0en:z10 Tryz.prog shCoin 84:=z0bp Tryz.underlying84 zX1 rfl rfl rfl rfl zX1 zX1 zX1 zX1 zob z090 z6y z02k
theorem z0br:z10 Tryz.prog (z0j shCoin) 29:=z4b Tryz.underlying29 zX1 zX9 z0en
theorem z0eo:z10 Tryz.prog z063 99:=zz6 Tryz.underlying99 zX1 rfl zX1 z0br
theorem z0i4:z10 Tryz.prog (z0j z063) 53:=z4b Tryz.underlying53 zX1 zX9 z0eo
theorem z0bs:z10 Tryz.prog shBlock 50:=z0bq Tryz.underlying50 zX1 rfl rfl rfl rfl rfl zX1 zX1 zX1 zX1 zX1 z6y z6y z6y z6y z0gj
theorem z091:z10 Tryz.prog (z0j shBlock) 26:=z4b Tryz.underlying26 zX1 zX9 z0bs
theorem op_tree:z10 Tryz.prog shTree 28:=zf4 Tryz.underlying28 zX1 rfl rfl zX1 zX1 z0ek z091
end
section
open Go.ChangeShapes Go.WideShapes
structure OpensF{α:Type}(P:Program)(S:Sh α)(fit:α->Prop)(t:TypeId):Prop where
 go:∀ {H:Type} {enc:TypeId×Value->H} {w:World} {base:Nat} {spare:Nat->Bool} {held:Bool} {fuel:Nat} {cs:List Value} {x:DataW H×List MemPlace},
  DataW.trod enc P w base spare held fuel t cs=some x->(x.1.weights P t).all (λn=>decide (n<=reachBytes))=true->∃a,S.rep w (Lt w.heap.size) a cs/\fit a
structure OpensR{α:Type}(P:Program)(S:Sh α)(fit:α->Prop)(fs:List Field)(off:Nat):Prop where
 go:∀ {H:Type} {enc:TypeId×Value->H} {w:World} {base:Nat} {spare:Nat->Bool} {held:Bool} {n:Nat} {cs:List Value} {xs:List (DataW H×List MemPlace)},cs.length=off+S.size->xs.length=fs.length ->
  (∀(i:Nat) (f:Field),fs[i]?=some f->DataW.trod enc P w base spare held n f.type ((cs.drop f.offset).take (P.cellsOf f.type))=xs[i]?) ->
  (DataW.weightsEach P (fs.map (·.type)) (xs.map (·.1))).all (λn=>decide (n<=reachBytes))=true->∃a,S.rep w (Lt w.heap.size) a (cs.drop off)/\fit a
section
variable {P:Program} {t:TypeId}
theorem z092{H:Type}{e:TypeId}:∀ {l:List (DataW H)},(DataW.weightsAll P e l).all (λn=>decide (n<=reachBytes))=true->∀d∈l,(d.weights P e).all (λn=>decide (n<=reachBytes))=true
 | [],_,d,hd=>by cases hd
 |x::l,h,d,hd=>by
  simp only[DataW.weightsAll,zY3l,zY0e]at h;rcases zY0g.1 hd with rfl|hd
  ·exact h.1
  ·exact z092 h.2 d hd
theorem zlr{S:Sh α}(h:z10 P S t):OpensF P S (λ_=>True) t:=by refine⟨?_⟩;intro H enc w base spare held fuel cs x h1 _;obtain⟨a,ha⟩:=h h1;exact⟨a,ha,trivial⟩
theorem zud{S:Sh α}{p:α->Prop}{e:TypeId}{z:Nat}(ht:P.underlying t=some (.slice e))(hs:P.cellsOf e=S.size)(h0:0<S.size)(hz:P.bytesOf e=z)(hq:∀n:Nat,n*z<=140737488351232->n<=q)(he:OpensF P S p e):OpensF P (z0j S) (λl=>l.length<=q/\∀x∈l,p x) t:=by
 refine⟨?_⟩;intro H enc w base spare held fuel cs x h hwt;rcases Go.Deep.open_slice ht h with⟨rfl,_⟩|⟨a,len,cap,m,n,D,Pl,rfl,_,hl,hm,hmm,hx,hi⟩
 ·exact⟨[],⟨_,_,_,rfl,Rds.nil _ _ _⟩,by simp,λx hx=>by cases hx⟩
 rw[hx]at hwt;simp only[DataW.weights,ht,zY3x,zY3l,zY0e,decide_eq_true_eq]at hwt;obtain⟨hw1,hw2,-⟩:=hwt;have hlz:len*z<=140737488351232:=by rw[hz,zY0y,List.length_range]at hw1;refine zY3n (zY1s z (Nat.le_add_right _ _)) (zY3n hw1 ?_);decide
 ·have hlm:len<=m:=by rw[hmm];split<;>omega
  have key:∀i,i<len->∃y:α×List Value,(S.rep w (Lt w.heap.size) y.1 y.2/\p y.1)/\∀j,j<S.size->w.cell? (a.add (i*S.size+j))=y.2[j]?:=by intro i hlt;obtain⟨cs',hc,ht'⟩:=hi i zX0;obtain⟨y,hy,hp⟩:=he.go ht' (z092 hw2 (D i) (zY2k.2 ⟨i,zY2i.2 hlt,rfl⟩));obtain⟨_,hcl,hat⟩:=World.cells?_some hc;refine⟨(y,cs'),⟨hy,hp⟩,λj hj=>?_⟩;have:=hat j zX0;rw[hs,Go.Deep.add_add]at this;exact this
  have key2:∃ys:List (α×List Value),ys.length=len/\∀i (hi:i<ys.length),(S.rep w (Lt w.heap.size) ys[i].1 ys[i].2/\p ys[i].1)/\∀j,j<S.size->w.cell? (a.add (i*S.size+j))=ys[i].2[j]?:=by
   clear hi hmm hlm hl h hx hw1 hw2 hlz;induction len with
   |zero=>exact⟨[],rfl,λi hi=>by simp at hi⟩
   |succ l ih =>
    obtain⟨ys,hy1,hy2⟩:=ih (λi hi=>key i zX0);obtain⟨y,hy⟩:=key l zX0;refine⟨ys++[y],by simp[hy1],λi hi=>?_⟩;by_cases h':i<ys.length
    ·rw[List.getElem_append_left h'];exact hy2 i h'
    ·have:i=l:=by simp at hi;omega
     subst this;rw[List.getElem_append_right zX0];simpa[hy1]using hy
  obtain⟨ys,hy1,hy2⟩:=key2;refine⟨ys.map (·.1),⟨_,_,_,rfl,by simp[hy1],hl,by unfold maxLen at hm;omega,λhn=>?_⟩,by rw[zY0y,hy1];exact hq _ hlz,λx hx=>?_⟩
  rotate_left
  ·obtain⟨y,hy,rfl⟩:=zY2k.1 hx;obtain⟨i,hi,rfl⟩:=List.mem_iff_getElem.1 hy;exact(hy2 i hi).1.2
  have c0:=(hy2 0 zX0).2 0 h0;have hl0:=S.len (hy2 0 zX0).1.1;have hspot:a.spot=none:=by have:(ys[0]' zX0).2[0]?=some ((ys[0]' zX0).2[0]' zX0):=zY03 zX0;rw[this]at c0;have:=World.cell?_spot c0;simpa[Addr.add]using this
  obtain⟨b,off,spot⟩:=a;simp only at hspot;subst hspot;have hadd:∀k,(Addr.mk b off none).add k=⟨b,off+k,none⟩:=by intro k;unfold Addr.add;split<;>simp_all
  refine⟨b,off,rfl,?_,λi hi=>?_⟩
  ·show b<w.heap.size;rcases zY1w b w.heap.size with h'|h'
   ·exact h'
   ·have e:w.cell? ((Addr.mk b off none).add (0*S.size+0))=none:=by rw[hadd];simp[World.cell?,zY18 h']
    rw[e]at c0;have:(ys[0]' zX0).2[0]?=some ((ys[0]' zX0).2[0]' zX0):=zY03 zX0;rw[this]at c0;cases c0
  ·have hi':i<ys.length:=by simpa using hi
   refine⟨ys[i].2,by simpa using(hy2 i hi').1.1,λj v hj=>?_⟩;have hjl:j<S.size:=by have:=S.len (hy2 i hi').1.1;have:=(zY02.1 hj).1;omega
   have:=(hy2 i hi').2 j hjl;rw[hadd,hj]at this;rw[<- this,zY33]
theorem z02l{S0:Sh α}{p0:α->Prop}{off:Nat}(o0:f0.offset=off)(c0:P.cellsOf f0.type=S0.size)(h0:OpensF P S0 p0 f0.type):OpensR P S0 p0 [f0] off:=by
 refine⟨?_⟩;intro H enc w base spare held n cs xs hl hx hf hw
 match xs,hx with
 | [x0],_ =>have g0:=hf 0 f0 rfl;rw[o0,c0,zY0v zXa]at g0;simp only[zY1n,zY2o,DataW.weightsEach,zY1b]at hw;exact h0.go g0 hw
theorem zio{S0:Sh α}{S1:Sh β}{f:α->β->τ}{p0:α->Prop}{p1:β->Prop}{fit:τ->Prop}{fs:List Field}{off:Nat}(o0:f0.offset=off)(c0:P.cellsOf f0.type=S0.size)(h0:OpensF P S0 p0 f0.type)(h1:OpensR P S1 p1 fs (off+S0.size))
  (hfit:∀a b,p0 a->p1 b->fit (f a b)):OpensR P (z3q S0 S1 f) fit (f0::fs) off:=by
 refine⟨?_⟩;intro H enc w base spare held n cs xs hl hx hf hw
 match xs,hx with
 |x0::xs,hx =>
  have g0:=hf 0 f0 rfl;rw[o0,c0]at g0;simp only[zY1n,DataW.weightsEach,zY3l,zY0e]at hw;obtain⟨a,ha,hpa⟩:=h0.go g0 hw.1;have hl':cs.length=off+S0.size+S1.size:=by rw[hl];show off+(S0.size+S1.size)=_;omega
  obtain⟨b,hb,hpb⟩:=h1.go (cs:=cs) (xs:=xs) (n:=n) hl' zXo (λi f h=>by simpa using hf (i+1) f zXt) hw.2;refine⟨f a b,⟨a,b,_,_,rfl,?_,ha,hb⟩,hfit a b hpa hpb⟩;rw[<- zY3q,zY10]
theorem zqo{S:Sh α}{fit:α->Prop}{fs:Array Field}(ht:P.underlying t=some (.struct fs))(hc:P.cellsOf t=S.size)(h:OpensR P S fit fs.toList 0):OpensF P S fit t:=by refine⟨?_⟩;intro H enc w base spare held fuel cs x hx hw;obtain⟨xs,n,_,rfl,hl,hxl,hf⟩:=DataW.trod_struct ht hx;simp only[DataW.weights,ht]at hw;obtain⟨a,ha,hp⟩:=h.go (cs:=cs) (xs:=xs) (n:=n) (by rw[hl,hc];omega) (by rw[hxl];simp) (λi f h=>hf i f zXt) hw;exact⟨a,by simpa using ha,hp⟩
end
theorem z02m:OpensF Tryz.prog shInt (λ_=>True) 3:=zlr z6y
theorem z0ep:OpensF Tryz.prog (z0j shOp) (λl=>l.length<=8796093021952/\∀x∈l,True) 80:=zud (z:=16) Tryz.underlying80 zX1 zX9 zX1 (λn h=>by omega) (zlr z0c7)
theorem z0eq:OpensF Tryz.prog shOut (λx=>x.lock.length<=8796093021952) 82:=zqo Tryz.underlying82 zX1 (zio rfl zX1 z02m (z02l rfl zX1 z0ep) λ_ _ _ h=>h.1)
end
section
open Go.ChangeShapes Go.WideShapes
theorem z0bt:OpensF Tryz.prog shCoin (λc=>c.o.lock.length<=8796093021952) 84:=zqo Tryz.underlying84 zX1 (zio (p0:=λ_=>True) (p1:=λq:Out×Int×Bool=>q.1.lock.length<=8796093021952) rfl zX1 (zlr zob) (zio (p1:=λ_=>True) rfl zX1 z0eq (zio (p1:=λ_=>True) rfl zX1 z02m (z02l rfl zX1 (zlr z02k)) λ_ _ _ _=>trivial) λ_ _ h _=>h) λ_ _ _ h=>h)
theorem opf_coins:OpensF Tryz.prog (z0j shCoin) (λl=>l.length<=2199023255488/\∀c∈l,c.o.lock.length<=8796093021952) 29:=zud (z:=64) (q:=2199023255488) Tryz.underlying29 zX1 zX9 zX1 (λn h=>zY3n (Nat.le_div_iff_mul_le zX9 |>.2 h) zX9) z0bt
end
section
open Go.ChangeShapes Go.WideShapes
theorem weights_head{t:TypeId}{H:Type}{f:Nat->Bool}{ts:List TypeId}{d:DataW H}{ds:List (DataW H)}(h:(DataW.weightsEach P (t::ts) (d::ds)).all f=true):(d.weights P t).all f=true/\(DataW.weightsEach P ts ds).all f=true:=by simp only[DataW.weightsEach,zY3l,zY0e]at h;exact h
end
end Go.Proofs.YtmjelcjgllkapaaGreatDoor
