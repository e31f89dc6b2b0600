/- Own texts, put together by wip/bundle.py: VdA, VdB, VdC, VdT, VdD, VdE, VdG, VdH, VdI, VdJ, VdK. -/
import Derived.Deep.MidRow
import Derived.Maps.AppendAt
import Derived.Lib.LaidTab
import Derived.Lib.ItoaNum
import Derived.Lib.Space
import Derived.Test.YtmjelcjgllkapaaGreatDoorProg
import Derived.Laws.Tables
import Derived.Laws.StructEq
import Derived.Laws.Entries
import Derived.Great.BuildSlice
import Derived.Laws.Cover3
import Derived.Laws.Strings2
import Derived.Test.YtmjelcjgllkapaaGreatDoorCMOwnB
set_option linter.unusedVariables false
set_option linter.unusedSimpArgs false
set_option maxRecDepth 100000
set_option maxHeartbeats 8000000
namespace Go.Proofs.YtmjelcjgllkapaaGreatDoor
open Go.RowKit
variable {p:Addr} {r:Bool} {kn:List (Nat×Bool)} {b base by_ c cap e et f g j k m n o off q size sz t ty:Nat} {F F':Nat->Prop} {P:Program} {α β:Type} {W' w:World}
inductive Dt where
 |i (k:IntKind) (n:Int)
 |b (x:Bool)
 |s (x:List UInt8)
 |l (sz:Nat) (xs:List (List Dt))
 |e (x:Bool)
 deriving Inhabited
inductive Lit where
 |i (k:IntKind) (n:Int)
 |b (x:Bool)
 |s (x:List UInt8)
 |nil (sz:Nat)
 |er
 deriving DecidableEq,Inhabited
def Lit.dt:Lit->Dt
 |.i k n=>.i k n
 |.b x=>.b x
 |.s x=>.s x
 |.nil sz=>.l sz []
 |.er=>.e false
inductive Atom where
 |v (n:Nat)
 |c (l:Lit)
 deriving DecidableEq,Inhabited
abbrev Env:=List Dt
def Atom.val(E:Env):Atom->Option Dt
 |.v n=>E[n]?
 |.c l=>some l.dt
instance (n:Nat):OfNat Atom n:=⟨.v n⟩
abbrev zI (n:Int):Atom:=.c (.i .i64 n)
inductive X where
 |B (op:BinOp) (a b:Atom)
 |eqs (neg:Bool) (ps:List (Atom×Atom))
 |beq (neg:Bool) (a b:Atom)
 |not (a:Atom)
 |neg (a:Atom)
 |conv (k:IntKind) (a:Atom)
 |len (a:Atom)
 |slen (a:Atom)
 |inr (sz:Nat) (a i:Atom)
 |idx (a i:Atom) (j:Nat)
 |sub (sz:Nat) (a:Atom) (lo hi:Option Atom)
 |mk (sz:Nat) (rows:List (List Atom))
 |app (sz:Nat) (a b:Atom)
 |set (a i:Atom) (j:Nat) (vs:List Atom)
 |ite (c a b:Atom)
 |scal (a:Atom)
 |call (ci:Nat) (args:List Atom) (j:Nat)
 |sel (as0:List Atom) (i:Atom)
 |ssub (a:Atom) (lo hi:Option Atom)
 |mkz (sz:Nat) (z:List Lit) (a:Atom)
 |mn (a b:Atom)
 |ise (neg:Bool) (a:Atom)
 |mget (z:List Lit) (a ka:Atom) (j:Nat)
 |mhas (a ka:Atom)
 |mput (vs:Nat) (a ka:Atom) (ats:List Atom)
 deriving DecidableEq,Inhabited
abbrev zd:=List Dt->Option (List Dt)
def zmw(op:BinOp)(k:IntKind)(a b:Int):Option Dt :=
 match op with
 |.add=>some (.i k (k.wrap (a+b)))
 |.sub=>some (.i k (k.wrap (a-b)))
 |.mul=>some (.i k (k.wrap (a*b)))
 |.quo=>if b=0 then none else some (.i k (k.wrap (a.tdiv b)))
 |.rem=>if b=0 then none else some (.i k (a.tmod b))
 |.eql=>some (.b (decide (a=b)))
 |.neq=>some (.b (!decide (a=b)))
 |.lss=>some (.b (decide (a<b)))
 |.leq=>some (.b (decide (a<=b)))
 |.gtr=>some (.b (decide (b<a)))
 |.geq=>some (.b (decide (b<=a)))
 |.shr=>if b<0 then none else if k.wrap (a.fdiv (2 ^ (min b.toNat k.bits)))=a.fdiv (2 ^ (min b.toNat k.bits))then some (.i k (a.fdiv (2 ^ (min b.toNat k.bits))))else none
 |_=>none
def zbn(op:BinOp):Dt->Dt->Option Dt
 |.i k a,.i k' b=>if k=k' then zmw op k a b else none
 |.s a,.s b=>match op with
  |.eql=>some (.b (decide (a=b)))
  |.neq=>some (.b (!decide (a=b)))
  |.add=>if a.length+b.length<=1000000000 then some (.s (a++b))else none
  |_=>none
 |_,_=>none
def eqD:Dt->Dt->Option Bool
 |.i k a,.i k' b=>if k=k' then some (decide (a=b))else none
 |_,_=>none
def eqsD(E:Env):List (Atom×Atom)->Option Bool
 | []=>some true
 |(a,b)::ps=>do
  let x <- a.val E
  let y <- b.val E
  let r <- eqD x y
  let q <- eqsD E ps
  pure (r&&q)
def vals(E:Env):List Atom->Option (List Dt)
 | []=>some []
 |a::as0=>do
  let d <- a.val E
  let ds <- vals E as0
  pure (d::ds)
def valss(E:Env):List (List Atom)->Option (List (List Dt))
 | []=>some []
 |a::as0=>do
  let d <- vals E a
  let ds <- valss E as0
  pure (d::ds)
def asI:Option Dt->Option Int
 |some (.i .i64 n)=>some n
 |_=>none
def bndI(E:Env)(d:Int):Option Atom->Option Int
 |none=>some d
 |some x=>asI (x.val E)
def z81(l:List Dt)(j:Nat):List Dt->List Dt
 | []=>l
 |v::vs=>z81 (l.set j v) (j+1) vs
def z78(n:Int):List (List Dt)->Option (List Dt)
 | []=>none
 |r::rs=>match r with
  |.i .i64 m::v=>if n=m then some v else z78 n rs
  |_=>none
def zaj(n:Int)(v:List Dt):List (List Dt)->List (List Dt)
 | []=>[.i .i64 n::v]
 |r::rs=>match r with
  |.i .i64 m::u=>if n=m then(.i .i64 n::v)::rs else r::zaj n v rs
  |_=>r::rs
abbrev z0bv(s z n:Nat):Prop:=(z=s/\n<=1000000)\/(1024<=s/\z+1024*(s/1024)=s/\n<=140737488355328/\n*(s/1024)<=140737488355328)
def denX(sp:Nat->zd)(E:Env):X->Option Dt
 |.B op a b=>do
  let x <- a.val E
  let y <- b.val E
  zbn op x y
 |.eqs neg ps=>do
  let r <- eqsD E ps
  pure (.b (r != neg))
 |.beq neg a b=>match a.val E,b.val E with
  |some (.b x),some (.b y)=>some (.b (decide (x=y)!=neg))
  |_,_=>none
 |.not a=>match a.val E with
  |some (.b x)=>some (.b (!x))
  |_=>none
 |.neg a=>match a.val E with
  |some (.i k n)=>some (.i k (k.wrap (0-n)))
  |_=>none
 |.conv k a=>match a.val E with
  |some (.i _ n)=>some (.i k (k.wrap n))
  |_=>none
 |.len a=>match a.val E with
  |some (.l _ xs)=>some (.i .i64 xs.length)
  |_=>none
 |.slen a=>match a.val E with
  |some (.s x)=>some (.i .i64 x.length)
  |_=>none
 |.inr sz a i=>match a.val E,asI (i.val E)with
  |some (.l z xs),some n=>if z=sz then some (.b (decide (0<=n/\n<xs.length)))else none
  |_,_=>none
 |.idx a i j=>match a.val E,asI (i.val E)with
  |some (.l _ xs),some n=>if 0<=n then(xs[n.toNat]?).bind (·[j]?)else none
  |_,_=>none
 |.sub sz a lo hi=>match a.val E with
  |some (.l z xs)=>do
   let l <- bndI E 0 lo
   let h <- bndI E xs.length hi
   if z=sz/\0<=l/\l<=h/\h<=xs.length then some (.l sz ((xs.take h.toNat).drop l.toNat))else none
  |_=>none
 |.mk sz rows=>do
  let r <- valss E rows
  if r.all (λx=>x.length==sz)/\r.length<=1000000 then some (.l sz r)else none
 |.app sz a b=>match a.val E,b.val E with
  |some (.l z xs),some (.l z' ys)=>if z'=z/\z0bv sz z (xs.length+ys.length)then some (.l z (xs++ys))else none
  |_,_=>none
 |.set a i j vs=>match a.val E,asI (i.val E),vals E vs with
  |some (.l sz xs),some n,some ds=>if 0<=n/\j+ds.length<=sz then(xs[n.toNat]?).map λx=>.l sz (xs.set n.toNat (z81 x j ds))else none
  |_,_,_=>none
 |.ite c a b=>match c.val E with
  |some (.b x)=>if x then a.val E else b.val E
  |_=>none
 |.scal a=>match a.val E with
  |some (.l _ _)=>none
  |some _=>some (.b true)
  |none=>none
 |.call ci args j=>do
  let ds <- vals E args
  let rs <- sp ci ds
  rs[j]?
 |.sel as0 i=>match asI (i.val E),vals E as0 with
  |some n,some ds=>if 0<=n then ds[n.toNat]? else none
  |_,_=>none
 |.ssub a lo hi=>match a.val E with
  |some (.s x)=>do
   let l <- bndI E 0 lo
   let h <- bndI E x.length hi
   if 0<=l/\l<=h/\h<=x.length then some (.s ((x.take h.toNat).drop l.toNat))else none
  |_=>none
 |.mkz sz z a=>match asI (a.val E)with
  |some n=>if 0<=n/\n<=100000/\z.length=sz then some (.l sz (List.replicate n.toNat (z.map Lit.dt)))else none
  |none=>none
 |.ise neg a=>match a.val E with
  |some (.e x)=>some (.b (x==neg))
  |_=>none
 |.mn a b=>match a.val E,b.val E with
  |some (.i k x),some (.i k' y)=>if k=k' then some (.i k (if y<x then y else x))else none
  |_,_=>none
 |.mget z a ka j=>match a.val E,asI (ka.val E)with
  |some (.l _ rows),some n=>match z78 n rows with
   |some v=>v[j]?
   |none=>(z[j]?).map Lit.dt
  |_,_=>none
 |.mhas a ka=>match a.val E,asI (ka.val E)with
  |some (.l _ rows),some n=>some (.b (z78 n rows).isSome)
  |_,_=>none
 |.mput vs a ka ats=>match a.val E,asI (ka.val E),vals E ats with
  |some (.l z rows),some n,some ds=>if ds.length=vs/\z=1+vs then some (.l (1+vs) (zaj n ds rows))else none
  |_,_,_=>none
inductive T where
 |ret (as0:List Atom)
 |W (xs ck:List X) (k:T)
 |ite (a:Atom) (t e:T)
 |loop (as0:List Atom) (body:T)
 |again (lvl:Nat) (as0:List Atom)
 deriving Inhabited
def z0s(sp:Nat->zd)(E:Env):List X->Option (List Dt)
 | []=>some []
 |x::xs=>do
  let d <- denX sp E x
  let ds <- z0s sp E xs
  pure (d::ds)
def z0w(sp:Nat->zd)(E:Env):List X->Bool
 | []=>true
 |x::xs=>match denX sp E x with
  |some (.b true)=>z0w sp E xs
  |_=>false
def z04(F:(List Dt->Option (List Dt))->List Dt->Option (List Dt)):Nat->List Dt->Option (List Dt)
 |0,_=>none
 |n+1,ds=>F (z04 F n) ds
def den(sp:Nat->zd)(N:Nat):T->Env->List (List Dt->Option (List Dt))->Option (List Dt)
 |.ret as0,E,_=>vals E as0
 |.W xs ck k,E,ks=>match z0s sp E xs with
  |some ds=>if z0w sp (E++ds) ck then den sp N k (E++ds) ks else none
  |none=>none
 |.ite a t e,E,ks=>match a.val E with
  |some (.b x)=>if x then den sp N t E ks else den sp N e E ks
  |_=>none
 |.loop as0 body,E,ks=>match vals E as0 with
  |some ds=>z04 (λagain ds=>den sp N body (E++ds) (ks++[again])) N ds
  |none=>none
 |.again lvl as0,E,ks=>match ks[lvl]?,vals E as0 with
  |some k,some ds=>k ds
  |_,_=>none
inductive C1 where
 |top
 |und
 |at(a:Atom)
 |bp (k off:Nat)
 |ep (a i:Atom) (off:Nat)
 |row (k:Nat)
 |rp (k:Nat) (i:Atom) (sz off:Nat)
 |fn (f:Nat) (caps:List (Nat×Nat))
 deriving DecidableEq,Inhabited
inductive SV where
 |one (c:C1)
 |agg (cs:List C1)
 |tup (ps:List (Bool×List C1))
 deriving DecidableEq,Inhabited
inductive Ob where
 |box (t:Nat) (cs:List C1)
 |ext (cs:List C1)
 |row (e sz:Nat) (a:Atom)
 |frz (a:Atom)
 |dead
 |gone (a:Atom)
 |map (t vs:Nat) (g:Bool) (a:Atom)
 deriving DecidableEq,Inhabited
structure TyI where
 n:Nat
 agg:Bool
 z:List Lit
 offs:List (Nat×Nat)
 flat:Bool
 el:Option (Nat×Nat×Nat)
 ik:Option IntKind
 arr:Option (Nat×Nat)
 mp:Option (Nat×Nat)
 deriving DecidableEq,Inhabited
abbrev zld:=List (Nat×TyI)
inductive PK where
 |one
 |agg (n:Nat)
 |ptr (n:Nat)
 |clos (f:Nat) (ns:List Nat)
 |mine (e sz:Nat)
 deriving DecidableEq,Inhabited
inductive CF where
 |pure
 |scal
 |fresh (e sz:Nat)
 deriving DecidableEq,Inhabited
structure Sig where
 args:List PK
 res:List (Bool×List CF)
 lend:Bool
 deriving DecidableEq,Inhabited
abbrev zW00:Sig:=⟨[.one,.one],[(false,[.scal])],true⟩
abbrev zW01:Sig:=⟨[.one],[(false,[.scal])],true⟩
abbrev zW02:Sig:=⟨[.agg 2,.agg 2],[(false,[.scal])],true⟩
abbrev zW03:Sig:=⟨[.one],[(false,[.fresh 84 6])],false⟩
abbrev zW04:Sig:=⟨[.one,.agg 3,.one,.one],[(false,[.pure]),(true,[.pure]),(false,[.scal])],false⟩
abbrev zW05:Sig:=⟨[.one,.one],[(false,[.pure]),(false,[.scal]),(false,[.scal])],false⟩
abbrev zW06:Sig:=⟨[.one,.agg 3,.one,.agg 1],[(false,[.pure]),(false,[.scal])],false⟩
abbrev zW07:Sig:=⟨[.one,.one,.one],[(false,[.fresh 3 1]),(false,[.scal])],false⟩
abbrev zW08:Sig:=⟨[.agg 1,.agg 2,.one],[(false,[.pure]),(false,[.scal])],false⟩
abbrev zW09:Sig:=⟨[.mine 84 6,.one,.one],[(false,[.fresh 84 6])],false⟩
abbrev zW0a:Sig:=⟨[.one],[(false,[.scal]),(false,[.scal])],true⟩
abbrev zW0b:Sig:=⟨[.agg 2,.one],[(false,[.fresh 3 1]),(false,[.scal])],false⟩
abbrev zW0c:Sig:=⟨[.agg 3],[(false,[.scal])],true⟩
abbrev zW0d:Sig:=⟨[.agg 5],[(false,[.scal])],true⟩
abbrev zW0e:Sig:=⟨[],[(true,[.scal,.scal,.scal,.scal,.scal,.scal,.scal,.scal,.scal,.scal,.scal,.scal,.scal,.scal])],true⟩
abbrev zW0f:Sig:=⟨[.agg 1,.agg 5],[(true,[.pure]),(false,[.scal]),(false,[.pure]),(false,[.scal])],false⟩
abbrev zW0g:Sig:=⟨[.one,.agg 5],[(false,[.pure]),(false,[.scal]),(false,[.pure]),(false,[.scal])],false⟩
abbrev zW0h:Sig:=⟨[.agg 3,.one],[(false,[.scal])],true⟩
abbrev zW0i:Sig:=⟨[.agg 1,.one,.agg 5],[(false,[.pure]),(false,[.pure]),(false,[.scal])],false⟩
abbrev zW0j:Sig:=⟨[.agg 2,.one],[(true,[.scal,.scal,.scal,.scal,.pure]),(false,[.scal])],false⟩
abbrev zW0k:Sig:=⟨[.one,.one,.agg 5],[(false,[.pure]),(false,[.pure]),(false,[.scal])],false⟩
abbrev zW0l:Sig:=⟨[.agg 1,.agg 2,.one,.one,.one],[(false,[.pure]),(false,[.scal])],false⟩
abbrev zW0m:Sig:=⟨[.agg 1],[(false,[.scal])],true⟩
abbrev zW0n:Sig:=⟨[.agg 1,.one],[(true,[.pure]),(false,[.pure]),(false,[.scal])],false⟩
abbrev zW0o:Sig:=⟨[.one,.one,.one,.one],[(true,[.scal,.scal,.scal,.scal,.pure])],false⟩
abbrev zW0p:Sig:=⟨[.agg 2],[(false,[.scal])],true⟩
abbrev zW0q:Sig:=⟨[.one,.agg 2,.one,.one,.one],[(false,[.pure]),(false,[.scal])],false⟩
abbrev zW0r:Sig:=⟨[.one,.agg 2],[(false,[.scal])],true⟩
abbrev zW0s:Sig:=⟨[.one,.one],[(false,[.pure]),(false,[.pure]),(false,[.scal])],false⟩
abbrev zW0t:Sig:=⟨[.one,.agg 2],[(false,[.scal]),(false,[.scal])],true⟩
abbrev zW0u:Sig:=⟨[.one],[(false,[.fresh 9 1])],false⟩
abbrev zW0v:Sig:=⟨[.one,.agg 2,.clos 100 []],[(false,[.scal]),(false,[.scal])],true⟩
abbrev zW0w:Sig:=⟨[.agg 2,.one,.agg 5],[(true,[.pure,.pure]),(false,[.scal])],false⟩
abbrev zW0x:Sig:=⟨[.agg 1,.one,.agg 5,.one],[(false,[.pure]),(false,[.scal])],false⟩
abbrev zW0y:Sig:=⟨[.agg 1,.agg 2,.one,.one],[(false,[.pure]),(false,[.scal])],false⟩
abbrev zW0z:Sig:=⟨[.one,.one,.agg 5,.one],[(false,[.pure]),(false,[.scal])],false⟩
abbrev zW10:Sig:=⟨[.agg 1,.agg 2,.agg 5],[(false,[.pure]),(false,[.scal])],false⟩
abbrev zW11:Sig:=⟨[.one,.agg 2,.one],[(false,[.pure]),(false,[.scal])],false⟩
abbrev zW12:Sig:=⟨[.agg 2,.one,.one],[(false,[.scal]),(false,[.scal])],true⟩
abbrev zW13:Sig:=⟨[.one,.one,.one],[(false,[.scal]),(false,[.scal])],true⟩
abbrev zW14:Sig:=⟨[.agg 5],[(true,[.scal,.scal,.scal,.scal,.pure])],false⟩
abbrev zW15:Sig:=⟨[.agg 2,.one],[(false,[.pure]),(false,[.scal])],false⟩
abbrev zW16:Sig:=⟨[.one],[(false,[.pure])],false⟩
abbrev zW17:Sig:=⟨[.agg 2],[(true,[.fresh 3 1,.fresh 50 5])],false⟩
abbrev zW18:Sig:=⟨[.agg 3],[(false,[.scal]),(false,[.scal])],true⟩
abbrev zW19:Sig:=⟨[.agg 5],[(false,[.scal]),(false,[.scal])],true⟩
abbrev zW1a:Sig:=⟨[.one,.one,.clos 33 []],[(false,[.scal])],true⟩
abbrev zW1b:Sig:=⟨[.agg 3],[(true,[.scal,.pure,.pure])],false⟩
abbrev zW1c:Sig:=⟨[.agg 2,.agg 5,.one],[(false,[.scal])],true⟩
abbrev zW1d:Sig:=⟨[.agg 2,.one],[(false,[.fresh 3 1])],false⟩
abbrev zW1e:Sig:=⟨[.one,.one,.one],[(false,[.scal])],true⟩
abbrev zW1f:Sig:=⟨[.agg 6,.agg 2],[(false,[.scal])],true⟩
abbrev zW1g:Sig:=⟨[.agg 6,.agg 6],[(false,[.scal])],true⟩
abbrev zW1h:Sig:=⟨[.one],[(false,[.fresh 127 3])],false⟩
abbrev zW1i:Sig:=⟨[.one],[(false,[.fresh 90 2])],false⟩
abbrev zW1j:Sig:=⟨[.one],[(false,[.fresh 97 3])],false⟩
abbrev zW1k:Sig:=⟨[.one],[(false,[.fresh 50 5])],false⟩
abbrev zW1l:Sig:=⟨[.one],[(false,[.fresh 82 2])],false⟩
abbrev zW1m:Sig:=⟨[.one],[(false,[.fresh 3 1])],false⟩
abbrev zW1n:Sig:=⟨[],[(false,[.scal])],true⟩
abbrev zW1o:Sig:=⟨[.mine 3 1],[],false⟩
inductive Rd(α:Type) where
 |pure (a:α)
 |fail
 |t (i:Nat) (k:SV->Rd α)
 |o (i:Nat) (k:Option Ob->Rd α)
def Rd.bind:Rd α->(α->Rd β)->Rd β
 |.pure a,f=>f a
 |.fail,_=>.fail
 |.t i k,f=>.t i λx=>(k x).bind f
 |.o i k,f=>.o i λx=>(k x).bind f
instance:Monad Rd where
 pure:=Rd.pure
 bind:=Rd.bind
def Rd.run(τ:List SV)(ω:List (Option Ob)):Rd α->Option α
 |.pure a=>some a
 |.fail=>none
 |.t i k=>match τ[i]? with
  |some x=>(k x).run τ ω
  |none=>none
 |.o i k=>match ω[i]? with
  |some x=>(k x).run τ ω
  |none=>none
inductive Loc where
 |t (i:Nat)
 |o (i:Nat)
 deriving DecidableEq
def Rd.log(τ:List SV)(ω:List (Option Ob)):Rd α->List Loc
 |.pure _=>[]
 |.fail=>[]
 |.t i k=>match τ[i]? with
  |some x=>.t i::(k x).log τ ω
  |none=>[]
 |.o i k=>match ω[i]? with
  |some x=>.o i::(k x).log τ ω
  |none=>[]
inductive Wr where
 |t (i:Nat) (v:SV)
 |o (i:Nat) (v:Option Ob)
 deriving DecidableEq,Inhabited
def Wr.loc:Wr->Loc
 |.t i _=>.t i
 |.o i _=>.o i
structure Eff where
 xs:List X
 ck:List X
 ws:List Wr
 deriving Inhabited
def ofO:Option α->Rd α
 |some a=>.pure a
 |none=>.fail
def rT(i:Nat):Rd SV:=.t i .pure
def rO(i:Nat):Rd (Option Ob):=.o i .pure
def zvc(sz:Nat):Value->Option Lit
 |.int k n=>if k.wrap n=n then some (.i k n)else none
 |.bool b=>some (.b b)
 |.string s=>if s.size<=1000000 then some (.s s.data.toList)else none
 |.slice none 0 0=>some (.nil sz)
 |.nilIface=>some .er
 |_=>none
structure Cx where
 ty:zld
 sigs:List (Nat×Sig)
 cut:List Nat:=[]
def Cx.ti(cx:Cx)(t:Nat):Option TyI:=cx.ty.lookup t
def Cx.elsz(cx:Cx)(t:Nat):Nat:=match cx.ti t with
 |some i=>match i.el with
  |some (_,sz,_)=>sz
  |none=>0
 |none=>0
def evR(cx:Cx)(ty:Nat):Operand->Rd SV
 |.tmp t=>rT t
 |.const v=>do
  let l <- ofO (zvc (cx.elsz ty) v)
  pure (.one (.at (.c l)))
 |.func f=>pure (.one (.fn f []))
 |.global _=>.fail
def evC(cx:Cx)(ty:Nat)(x:Operand):Rd C1:=do
 match <- evR cx ty x with
 |.one c=>pure c
 |_=>.fail
def evA(cx:Cx)(ty:Nat)(x:Operand):Rd Atom:=do
 match <- evC cx ty x with
 |.at a=>pure a
 |_=>.fail
def evO(cx:Cx):Option Operand->Rd (Option Atom)
 |none=>pure none
 |some y=>do
  let a <- evA cx 3 y
  pure (some a)
def z8u:SV->Option (List C1)
 |.one c=>some [c]
 |.agg cs=>some cs
 |.tup _=>none
def knB:Nat:=4294967296
def evB(kn:List (Nat×Bool)):Atom->Option Bool
 |.c (.b x)=>some x
 |.v n=>if Nat.ble knB n=true then none else kn.lookup n
 |_=>none
def eqK(all:List (Nat×Bool))(a m:Nat):List (Nat×Bool)->Option Bool
 | []=>none
 |(k,_)::r=>if Nat.ble knB k=true then(if Nat.beq ((k/knB-1)/4096) a=true then(match all.lookup (k%knB)with
   |some true=>some (Nat.beq ((k/knB-1)%4096) m)
   |some false=>if Nat.beq ((k/knB-1)%4096) m=true then some false else eqK all a m r
   |none=>eqK all a m r)else eqK all a m r)else eqK all a m r
def eqKn(kn:List (Nat×Bool))(op:BinOp)(a b:Atom):Option Bool:=match op,a,b with
 |.eql,.v av,.c (.i .i64 (.ofNat m))=>eqK kn av m kn
 |.neq,.v av,.c (.i .i64 (.ofNat m))=>(eqK kn av m kn).map not
 |_,_,_=>none
def slA:C1->Rd Atom
 |.at a=>pure a
 |.row k=>do
  match <- rO k with
  |some (.row _ _ a)=>pure a
  |some (.frz a)=>pure a
  |_=>.fail
 |_=>.fail
def lenA:C1->Rd Atom
 |.row k=>do
  match <- rO k with
  |some (.gone a)=>pure a
  |_=>slA (.row k)
 |c=>slA c
def frA:C1->Rd (Atom×List Wr)
 |.at a=>pure (a,[])
 |.row k=>do
  match <- rO k with
  |some (.row _ _ a)=>pure (a,[.o k (some (.frz a))])
  |some (.frz a)=>pure (a,[])
  |_=>.fail
 |_=>.fail
def zbo:List C1->Rd (List Atom×List Wr)
 | []=>pure ([],[])
 |c::cs=>do
  let(a,w) <- frA c
  let(as0,ws) <- zbo cs
  pure (a::as0,w++ws)
def z07(o:Oper)(v:SV):List Wr:=match o.dst with
 |some d=>[.t d v]
 |none=>[]
def z2s(o:Oper)(v:SV):Rd Eff:=pure ⟨[],[],z07 o v⟩
def z4c(n m:Nat):List C1:=(List.range' n m).map λj=>.at (.v j)
def zqp(l:List C1)(j:Nat):List C1->List C1
 | []=>l
 |v::vs=>zqp (l.set j v) (j+1) vs
def zbp(agg:Bool)(cs:List C1):Rd SV :=
 if agg then pure (.agg cs)else match cs with
  | [c]=>pure (.one c)
  |_=>.fail
def z8v:List C1->Option (List Atom)
 | []=>some []
 |.at a::cs=>(z8v cs).map (a :: ·)
 |_=>none
def z9h(kb:Nat)(o:Oper):Rd Nat:=match o.dst with
 |some d=>do
  match <- rO (kb+d)with
  |none=>pure (kb+d)
  |some _=>.fail
 |none=>.fail
def zvg(cx:Cx)(n:Nat)(o:Oper)(t:Nat)(x:Operand):Rd Eff:=do
 let ti <- ofO (cx.ti t)
 match <- evC cx 0 x with
 |.bp k off=>do
  match <- rO k with
  |some (.box _ cs)|some (.ext cs) =>
   if off+ti.n<=cs.length then do z2s o (<- zbp ti.agg ((cs.drop off).take ti.n))else .fail
  |_=>.fail
 |.ep a i off=>do
  let sv <- zbp ti.agg (z4c n ti.n)
  pure ⟨(List.range ti.n).map λj=>.idx a i (off+j),[],z07 o sv⟩
 |.rp k i sz off=>do
  match <- rO k with
  |some (.row _ z a) =>
   if z=sz then do
    let sv <- zbp ti.agg (z4c n ti.n)
    pure ⟨(List.range ti.n).map λj=>.idx a i (off+j),[],z07 o sv⟩
   else .fail
  |some (.box _ cs) =>
   if sz=1/\off=0/\ti.n=1 then do
    let as0 <- ofO (z8v cs)
    let sv <- zbp ti.agg (z4c n 1)
    pure ⟨[.sel as0 i],[],z07 o sv⟩
   else .fail
  |_=>.fail
 |_=>.fail
def z05a(as0:List Atom)(v i:Atom):List X:=(List.range as0.length).map λj=>.sel ((List.replicate as0.length (as0.getD j v)).set j v) i
def okC:C1->Bool
 |.top=>false
 |.und=>false
 |_=>true
def Cx.isBool(cx:Cx)(t:Nat):Bool:=match cx.ti t with
 |some i=>match i.z with
  | [.b _]=>true
  |_=>false
 |none=>false
def z01g(cx:Cx)(n:Nat)(o:Oper)(t:Nat)(x y:Operand):Rd Eff:=do
 let ti <- ofO (cx.ti t)
 let sv <- evR cx t y
 let cs' <- ofO (z8u sv)
 if cs'.length≠ti.n\/cs'.all okC=false then .fail else
 match <- evC cx 0 x with
 |.bp k off=>do
  match <- rO k with
  |some (.box t' cs) =>
   if off+ti.n<=cs.length then pure ⟨[],[],.o k (some (.box t' (zqp cs off cs')))::z07 o (.one .und)⟩else .fail
  |_=>.fail
 |.rp k i sz off=>do
  match <- rO k with
  |some (.row e z a) =>
   if z=sz then do
    let(as0,ws) <- zbo cs'
    if ws.any (λw=>w.loc=.o k)then .fail else
    pure ⟨[.set a i off as0],[],ws ++ .o k (some (.row e z (.v n)))::z07 o (.one .und)⟩
   else .fail
  |some (.box t' cs) =>
   if sz=1/\off=0 then do
    let(bs,ws) <- zbo cs'
    let as0 <- ofO (z8v cs)
    if bs.length≠1\/as0.length=0\/ws.any (λw=>w.loc=.o k)then .fail else
    pure ⟨z05a as0 (bs.headD (.v 0)) i,[],ws ++ .o k (some (.box t' (z4c n as0.length)))::z07 o (.one .und)⟩
   else .fail
  |_=>.fail
 |_=>.fail
def zod(cx:Cx)(o:Oper)(t len:Nat)(x y:Operand):Rd Eff:=do
 let i <- evA cx 3 y
 match <- evC cx t x with
 |.bp k off=>do
  match <- rO k with
  |some (.box _ cs)=>if off=0/\cs.length=len then pure ⟨[],[.sel (List.replicate len (.c (.b true))) i],z07 o (.one (.rp k i 1 0))⟩else .fail
  |_=>.fail
 |_=>.fail
def zlw(cx:Cx)(o:Oper)(t:Nat)(x y:Operand):Rd Eff:=do
 let ti <- ofO (cx.ti t)
 match ti.arr with
 |some (len,_)=>zod cx o t len x y
 |none=>do
 let(e,sz,by_) <- ofO ti.el
 let i <- evA cx 3 y
 match <- evC cx t x with
 |.at a=>pure ⟨[],[.inr sz a i],z07 o (.one (.ep a i 0))⟩
 |.row k=>do
  match <- rO k with
  |some (.row _ z a)=>if z=sz then pure ⟨[],[.inr sz a i],z07 o (.one (.rp k i sz 0))⟩else .fail
  |some (.frz a)=>pure ⟨[],[.inr sz a i],z07 o (.one (.ep a i 0))⟩
  |_=>.fail
 |_=>.fail
def zdx(cx:Cx):List (Nat×Operand)->Rd (List (Nat×List C1))
 | []=>pure []
 |(i,x)::ps=>do
  let sv <- evR cx 0 x
  let cs <- ofO (z8u sv)
  let r <- zdx cx ps
  if cs.all okC=false then .fail else
  pure ((i,cs)::r)
def zbq(place:Nat->Option (Nat×Nat))(cells:List C1):List (Nat×List C1)->Option (List C1)
 | []=>some cells
 |(i,cs)::r=>match place i with
  |none=>none
  |some (off,n)=>if cs.length=n/\off+cs.length<=cells.length then zbq place (zqp cells off cs) r else none
def zle(sz:Nat):Nat->List (Nat×List C1)->Bool
 |_,[]=>true
 |j,(i,cs)::r=>i==j&&cs.length==sz&&zle sz (j+1) r
def zj8(sz:Nat):Nat->List Atom->List (List Atom)
 |0,_=>[]
 |n+1,l=>l.take sz::zj8 sz n (l.drop sz)
def zoe(lend:Bool):C1->Rd (Atom×List Wr)
 |.at a=>pure (a,[])
 |.row k=>if lend then do
   let a <- slA (.row k)
   pure (a,[])
  else frA (.row k)
 |_=>.fail
def z8b(lend:Bool):List C1->Rd (List Atom×List Wr)
 | []=>pure ([],[])
 |c::cs=>do
  let(a,w) <- zoe lend c
  let(as0,ws) <- z8b lend cs
  pure (a::as0,w++ws)
def zhc(n:Nat):C1->Rd (List Atom)
 |.bp k off=>do
  match <- rO k with
  |some (.box _ cs)|some (.ext cs)=>ofO (if off+n<=cs.length then z8v ((cs.drop off).take n)else none)
  |_=>.fail
 |_=>.fail
def ze4:List Nat->List (Nat×Nat)->Rd (List Atom)
 | [],[]=>pure []
 |n::ns,(k,off)::cs=>do
  let a <- zhc n (.bp k off)
  let r <- ze4 ns cs
  pure (a++r)
 |_,_=>.fail
def zof(lend:Bool):PK->SV->Rd (List Atom×List Wr)
 |.one,.one c=>z8b lend [c]
 |.agg n,.agg cs=>if cs.length=n then z8b lend cs else .fail
 |.ptr n,.one c=>if lend then do pure (<- zhc n c,[])else .fail
 |.clos f ns,.one (.fn g caps)=>if lend/\f=g then do pure (<- ze4 ns caps,[])else .fail
 |_,_=>.fail
def zak(lend:Bool):List PK->List SV->Rd (List Atom×List Wr)
 | [],[]=>pure ([],[])
 |p::ps,v::vs=>do
  let(as0,ws) <- zof lend p v
  let(bs,us) <- zak lend ps vs
  pure (as0++bs,ws++us)
 |_,_=>.fail
def z0er:PK->SV->Bool
 |.one,.one (.at _) | .one,.one (.row _)=>true
 |.agg n,.agg cs=>cs.length==n
 |.ptr _,.one (.bp _ _)=>true
 |.clos f ns,.one (.fn g caps)=>f==g&&ns.length==caps.length
 |.mine _ _,.one (.row _)=>true
 |_,_=>false
def z4w:List PK->Bool
 |.mine _ _::_=>true
 |_=>false
def z05b:List PK->List SV->Bool
 | [],[]=>true
 |p::ps,v::vs=>z0er p v&&z05b ps vs
 |_,_=>false
def zlf(f:Nat)(vs:List SV):List (Nat×Sig)->Nat->Option (Nat×Sig)
 | [],_=>none
 |(g,s)::r,i=>if g=f/\z05b s.args vs then some (i,s)else zlf f vs r (i+1)
def zu(s:Sig):List CF:=s.res.flatMap (·.2)
def CF.isScal:CF->Bool
 |.scal=>true
 |_=>false
def CF.isFresh:CF->Bool
 |.fresh _ _=>true
 |_=>false
def zbr(n d nt:Nat):Nat->List CF->List C1
 |_,[]=>[]
 |j,.fresh _ _::fs=>.row (d+nt*j)::zbr n d nt (j+1) fs
 |j,_::fs=>.at (.v (n+j))::zbr n d nt (j+1) fs
def z6u(n d nt:Nat):Nat->List CF->List Wr
 |_,[]=>[]
 |j,.fresh e sz::fs=>.o (d+nt*j) (some (.row e sz (.v (n+j))))::z6u n d nt (j+1) fs
 |j,_::fs=>z6u n d nt (j+1) fs
def zge:List (Bool×List CF)->List C1->List (Bool×List C1)
 | [],_=>[]
 |(g,fs)::r,cs=>(g,cs.take fs.length)::zge r (cs.drop fs.length)
def z02o(ps:List (Bool×List CF))(cs:List C1):Rd SV:=match zge ps cs with
 | [(g,cs)]=>zbp g cs
 |ps=>pure (.tup ps)
def zbs:List Wr->Rd Unit
 | []=>pure ()
 |.o k _::ws=>do
  match <- rO k with
  |none=>zbs ws
  |some _=>.fail
 |_::ws=>zbs ws
def zcm(cx:Cx):List Operand->List Nat->Rd (List SV)
 | [],_=>pure []
 |x::xs,ts=>do
  let v <- evR cx (ts.headD 0) x
  let vs <- zcm cx xs ts.tail
  pure (v::vs)
def z02p(kb n:Nat)(o:Oper)(ci:Nat)(s:Sig)(vs:List SV):Rd Eff :=
 match s.args,vs with
 |.mine e sz::ps,.one (.row k0)::vs=>do
  let(as0,ws) <- zak false ps vs
  if ws.any (λw=>decide (w.loc=.o k0))=true then .fail else do
  match <- rO k0 with
  |some (.row e' z a) =>
   if e'≠e\/z≠sz then .fail else
   match s.res with
   | []=>pure ⟨[.call ci (a::as0) 0],[],ws ++ .o k0 (some (.row e sz (.v n)))::z07 o (.one .top)⟩
   | [(false,[.fresh e2 z2])]=>if e2≠e\/z2≠sz then .fail else do
    let d <- z9h kb o
    pure ⟨[.call ci (a::as0) 0],[],ws ++ .o k0 (some .dead) :: .o d (some (.row e sz (.v n)))::z07 o (.one (.row d))⟩
   |_=>.fail
  |_=>.fail
 |_,_=>.fail
def appS(cx:Cx)(sz by_:Nat):Nat:=if cx.cut.contains 9998=true/\sz<1024 then sz+1024*by_ else sz
def ze5(cx:Cx)(kb n nt:Nat)(o:Oper)(c:Call):Rd Eff:=do
 match c.callee with
 |.value fx=>do
  match <- evC cx 0 fx with
  |.fn f caps=>do
   let vs <- zcm cx c.args.toList c.argTypes.toList
   let vs:=vs++caps.map λp=>.one (.bp p.1 p.2)
   let(ci,s) <- ofO (zlf f vs cx.sigs 0)
   if z4w s.args=true then z02p kb n o ci s vs else do
   let cfs:=zu s
   if cfs.length=0\/nt=0\/(s.lend=true/\cfs.all CF.isScal=false)\/(o.dst=none/\cfs.any CF.isFresh=true)then .fail else
   let(as0,ws) <- zak s.lend s.args vs
   let d:=kb+o.dst.getD 0
   zbs (z6u n d nt 0 cfs)
   let sv <- z02o s.res (zbr n d nt 0 cfs)
   pure ⟨(List.range cfs.length).map λj=>.call ci as0 j,[],ws++(z6u n d nt 0 cfs++z07 o sv)⟩
  |_=>.fail
 |.builtin .len=>do
  match c.args.toList,c.argTypes.toList with
  | [x],[t]=>do
   let ti <- ofO (cx.ti t)
   let a <- lenA (<- evC cx t x)
   if ti.el.isSome then pure ⟨[.len a],[],z07 o (.one (.at (.v n)))⟩
   else if ti.z=[.s []]then pure ⟨[.slen a],[],z07 o (.one (.at (.v n)))⟩else .fail
  |_,_=>.fail
 |.builtin .min=>do
  match c.args.toList,c.argTypes.toList with
  | [x,y],[t,_]=>do
   let a <- evA cx t x
   let b <- evA cx t y
   pure ⟨[.mn a b],[],z07 o (.one (.at (.v n)))⟩
  |_,_=>.fail
 |.builtin .append=>do
  match c.args.toList,c.argTypes.toList with
  | [x,y],[t,t'] =>
   if t≠t' then .fail else do
   let ti <- ofO (cx.ti t)
   let(e,sz,by_) <- ofO ti.el
   let d <- z9h kb o
   let b <- slA (<- evC cx t y)
   match <- evC cx t x with
   |.at (.c (.nil z))=>if z=sz then pure ⟨[.app (appS cx sz by_) (.c (.nil z)) b],[],.o d (some (.row e sz (.v n)))::z07 o (.one (.row d))⟩else .fail
   |.row k=>do
    match <- rO k with
    |some (.row e' z a)=>if e'=e/\z=sz then pure ⟨[.app (appS cx sz by_) a b],[],.o k (some (.gone a)) :: .o d (some (.row e sz (.v n)))::z07 o (.one (.row d))⟩else .fail
    |_=>.fail
   |_=>.fail
  |_,_=>.fail
 |_=>.fail
def zog:List SV->Option (List (Nat×Nat))
 | []=>some []
 |.one (.bp k off)::r=>(zog r).map ((k,off) :: ·)
 |_=>none
def pairs:List C1->List C1->Option (List (Atom×Atom))
 | [],[]=>some []
 |.at a::as0,.at b::bs=>(pairs as0 bs).map ((a,b) :: ·)
 |_,_=>none
def z0bw(cx:Cx)(o:Oper):Bool:=match o.dst with
 |some d=>cx.cut.contains d
 |none=>false
def frC:C1->Rd (C1×List Wr)
 |.row k=>do
  let(a,w) <- frA (.row k)
  match a with
  |.v n=>pure (.at (.v n),w)
  |_=>.fail
 |c=>pure (c,[])
def zvh:List C1->Rd (List C1×List Wr)
 | []=>pure ([],[])
 |c::cs=>do
  let(x,w) <- frC c
  let(xs,ws) <- zvh cs
  pure (x::xs,w++ws)
def zqq(cx:Cx)(o:Oper)(t:Nat)(x:Operand):Rd Eff:=do
 let ti <- ofO (cx.ti t)
 match <- evC cx 0 x with
 |.bp k off=>do
  match <- rO k with
  |some (.box _ cs) =>
   if off+ti.n<=cs.length then do
    let(xs,ws) <- zvh ((cs.drop off).take ti.n)
    let sv <- zbp ti.agg xs
    pure ⟨[],[],ws++z07 o sv⟩
   else .fail
  |_=>.fail
 |_=>.fail
def z02r(cx:Cx)(kb n:Nat)(o:Oper)(t:Nat)(x:Operand)(l h:Option Atom)(e sz:Nat):Rd Eff:=do
 let d <- z9h kb o
 let c <- evC cx t x
 match l,c with
 |none,.row k=>do
  match <- rO k with
  |some (.row e' z a)=>if e'=e/\z=sz then pure ⟨[.sub sz a none h],[],.o k (some .dead) :: .o d (some (.row e sz (.v n)))::z07 o (.one (.row d))⟩else .fail
  |_=>.fail
 |_,_=>.fail
def z02s(cx:Cx)(n:Nat)(o:Oper)(t:Nat)(x:Operand)(lo hi:Option Operand):Rd Eff:=do
 let l <- evO cx lo
 let h <- evO cx hi
 let a <- evA cx t x
 pure ⟨[.ssub a l h],[],z07 o (.one (.at (.v n)))⟩
def zvi(cx:Cx)(n:Nat)(o:Oper)(t:Nat)(x:Operand)(lo hi:Option Operand)(m:Operand):Rd Eff:=do
 let ti <- ofO (cx.ti t)
 let(e,sz,by_) <- ofO ti.el
 let l <- evO cx lo
 let h <- evO cx hi
 if h.isNone then .fail else do
 let mx <- evA cx 3 m
 let(a,ws) <- frA (<- evC cx t x)
 pure ⟨[.sub sz a l h,.sub sz a h (some mx)],[],ws++z07 o (.one (.at (.v n)))⟩
def z01h(cx:Cx)(n:Nat)(o:Oper)(t:Nat)(x y:Operand):Rd Eff:=do
 let ti <- ofO (cx.ti t)
 let(len,e) <- ofO ti.arr
 match <- evR cx t x with
 |.agg cs =>
  if cs.length≠len then .fail else do
  match <- evA cx 3 y with
  |.c (.i .i64 k)=>if k<0 then .fail else do z2s o (.one (<- ofO cs[k.toNat]?))
  |i=>do
   let as0 <- ofO (z8v cs)
   pure ⟨[.sel as0 i],[],z07 o (.one (.at (.v n)))⟩
 |_=>.fail
def z05c(cx:Cx)(kb n:Nat)(o:Oper)(t:Nat)(x y:Operand):Rd Eff:=do
 let ti <- ofO (cx.ti t)
 let(e,sz,by_) <- ofO ti.el
 let te <- ofO (cx.ti e)
 let a <- evA cx 3 x
 let b <- evA cx 3 y
 if a≠b\/te.z.length≠te.n then .fail else do
 let d <- z9h kb o
 pure ⟨[.mkz sz te.z a],[],.o d (some (.row e sz (.v n)))::z07 o (.one (.row d))⟩
def z0bx:Option Operand->Bool
 |none=>true
 |some (.const (.int .i64 _))=>true
 |_=>false
def z02t:SV->Bool
 |.agg _=>true
 |_=>false
def z0by(te:TyI)(vs:Nat)(g:Bool)(sv:SV)(cs:List C1):Bool:=decide (cs.length=te.n)&&decide (vs=te.n)&&decide (g=te.agg)&&decide (z02t sv=g)&&cs.all okC
def zsg(cx:Cx)(kb:Nat)(o:Oper)(t:Nat)(r:Option Operand):Rd Eff:=do
 let ti <- ofO (cx.ti t)
 let(k,e) <- ofO ti.mp
 let te <- ofO (cx.ti e)
 let d <- z9h kb o
 if z0bx r=false then .fail else
 pure ⟨[],[],.o d (some (.map t te.n te.agg (.c (.nil (1+te.n)))))::z07 o (.one (.row d))⟩
def zmx(cx:Cx)(n:Nat)(o:Oper)(t:Nat)(x y z:Operand):Rd Eff:=do
 let ti <- ofO (cx.ti t)
 let(k,e) <- ofO ti.mp
 let te <- ofO (cx.ti e)
 match <- evC cx 0 x with
 |.row q=>do
  match <- rO q with
  |some (.map t' vs g a) =>
   if t'≠t then .fail else do
   let ka <- evA cx 3 y
   let sv <- evR cx e z
   let cs <- ofO (z8u sv)
   if z0by te vs g sv cs=false then .fail else do
   let(ats,ws) <- zbo cs
   if ws.any (λw=>w.loc=.o q)then .fail else
   pure ⟨[.mput vs a ka ats],[],ws ++ .o q (some (.map t vs g (.v n)))::z07 o (.one .und)⟩
  |_=>.fail
 |_=>.fail
def z05d(cx:Cx)(n:Nat)(o:Oper)(t:Nat)(x y:Operand)(ok:Bool):Rd Eff:=do
 let ti <- ofO (cx.ti t)
 let(k,e) <- ofO ti.mp
 let te <- ofO (cx.ti e)
 match <- evC cx 0 x with
 |.row q=>do
  match <- rO q with
  |some (.map t' vs g a) =>
   if t'≠t\/vs≠te.n\/g≠te.agg\/te.z.length≠te.n\/te.n=0 then .fail else do
   let ka <- evA cx 3 y
   let gets:=(List.range vs).map λj=>X.mget te.z a ka j
   if ok then pure ⟨gets++[.mhas a ka],[],z07 o (.tup [(g,z4c n vs),(false,[.at (.v (n+vs))])])⟩
   else do
    let sv <- zbp g (z4c n vs)
    pure ⟨gets,[],z07 o sv⟩
  |_=>.fail
 |_=>.fail
def z01i(cx:Cx)(kb n:Nat)(o:Oper)(t:Nat)(x:Operand)(lo hi:Option Operand):Rd Eff:=do
 let ti <- ofO (cx.ti t)
 if ti.z=[.s []]then z02s cx n o t x lo hi else do
 let(e,sz,by_) <- ofO ti.el
 let l <- evO cx lo
 let h <- evO cx hi
 if z0bw cx o then z02r cx kb n o t x l h e sz
 else do
  let(a,ws) <- frA (<- evC cx t x)
  pure ⟨[.sub sz a l h],[],ws++z07 o (.one (.at (.v n)))⟩
def z02u(op:BinOp):Atom->Atom->Option Bool
 |.c (.i k m),.c (.i k' n)=>if k=k' then match op with
  |.eql=>some (decide (m=n))
  |.neq=>some (!decide (m=n))
  |_=>none
  else none
 |_,_=>none
def zvd(kn:List (Nat×Bool))(op:BinOp)(a b:Atom):Option Bool:=match z02u op a b with
 |some r=>some r
 |none=>eqKn kn op a b
def zvj:Operand->Bool
 |.const .nilIface=>true
 |_=>false
def Cx.isErr(cx:Cx)(t:Nat):Bool:=match cx.ti t with
 |some i=>match i.z with
  | [.er]=>true
  |_=>false
 |none=>false
def z02v(cx:Cx)(n:Nat)(o:Oper)(op:BinOp)(t:Nat)(x:Operand):Rd Eff:=do
 if cx.isErr t=false then .fail else
 let a <- evA cx t x
 match op with
 |.eql=>pure ⟨[.ise false a],[],z07 o (.one (.at (.v n)))⟩
 |.neq=>pure ⟨[.ise true a],[],z07 o (.one (.at (.v n)))⟩
 |_=>.fail
def zt(cx:Cx)(kb n nt:Nat)(kn:List (Nat×Bool))(o:Oper):Rd Eff :=
 match o.op with
 |.move x | .assign x=>do z2s o (<- evR cx o.type x)
 |.pick c a b=>do
  let ca <- evA cx 0 c
  match evB kn ca with
  |some true=>do z2s o (<- evR cx o.type a)
  |some false=>do z2s o (<- evR cx o.type b)
  |none=>do
   let a <- evA cx o.type a
   let b <- evA cx o.type b
   pure ⟨[.ite ca a b],[],z07 o (.one (.at (.v n)))⟩
 |.alloc t=>do
  let ti <- ofO (cx.ti t)
  if ti.z.length≠ti.n then .fail else
  let d <- z9h kb o
  pure ⟨[],[],.o d (some (.box t (ti.z.map λl=>.at (.c l))))::z07 o (.one (.bp d 0))⟩
 |.box t x=>do
  let cs <- ofO (z8u (<- evR cx t x))
  if cs.all okC=false then .fail else
  let d <- z9h kb o
  pure ⟨[],[],.o d (some (.box t cs))::z07 o (.one (.bp d 0))⟩
 |.load t x=>if z0bw cx o=true then zqq cx o t x else zvg cx n o t x
 |.store t x y=>z01g cx n o t x y
 |.fieldAddr t x f=>do
  let ti <- ofO (cx.ti t)
  let(off,fz) <- ofO ti.offs[f]?
  match <- evC cx 0 x with
  |.bp k q=>z2s o (.one (.bp k (q+off)))
  |.ep a i q=>z2s o (.one (.ep a i (q+off)))
  |.rp k i sz q=>z2s o (.one (.rp k i sz (q+off)))
  |_=>.fail
 |.indexAddr t x y=>zlw cx o t x y
 |.slice t x lo hi none=>z01i cx kb n o t x lo hi
 |.slice t x lo hi (some m)=>zvi cx n o t x lo hi m
 |.index t x y=>z01h cx n o t x y
 |.makeSlice t x y=>z05c cx kb n o t x y
 |.makeMap t r=>zsg cx kb o t r
 |.insert t x y z | .mapUpdate t x y z=>zmx cx n o t x y z
 |.lookup t x y ok=>z05d cx n o t x y ok
 |.binOp op t x y _ =>
  if zvj y=true then z02v cx n o op t x else do
  match <- evR cx t x,<- evR cx t y with
  |.one (.at a),.one (.at b) =>
   if cx.isBool t then match op with
    |.eql=>pure ⟨[.beq false a b],[],z07 o (.one (.at (.v n)))⟩
    |.neq=>pure ⟨[.beq true a b],[],z07 o (.one (.at (.v n)))⟩
    |_=>.fail
   else match zvd kn op a b with
    |some r=>z2s o (.one (.at (.c (.b r))))
    |none=>pure ⟨[.B op a b],[],z07 o (.one (.at (.v n)))⟩
  |.agg xs,.agg ys=>do
   let ti <- ofO (cx.ti t)
   if ti.flat=false\/xs.length≠ti.n then .fail else do
   let ps <- ofO (pairs xs ys)
   match op with
   |.eql=>pure ⟨[.eqs false ps],[],z07 o (.one (.at (.v n)))⟩
   |.neq=>pure ⟨[.eqs true ps],[],z07 o (.one (.at (.v n)))⟩
   |_=>.fail
  |_,_=>.fail
 |.unOp .not _ x=>do
  let a <- evA cx 0 x
  match evB kn a with
  |some b=>z2s o (.one (.at (.c (.b !b))))
  |none=>pure ⟨[.not a],[],z07 o (.one (.at (.v n)))⟩
 |.unOp .neg _ x=>do
  let a <- evA cx 0 x
  pure ⟨[.neg a],[],z07 o (.one (.at (.v n)))⟩
 |.convert src dst x=>do
  let ts <- ofO (cx.ti src)
  let ti <- ofO (cx.ti dst)
  let k <- ofO ti.ik
  let a <- evA cx src x
  pure ⟨[.conv k a],[],z07 o (.one (.at (.v n)))⟩
 |.build t parts=>do
  let ti <- ofO (cx.ti t)
  let ps <- zdx cx parts.toList
  if ti.z.length≠ti.n\/(ti.offs=[]/\ti.arr=none)then .fail else
  if ti.arr.isSome=true then do
   let cs <- ofO (zbq (λi=>some (i*1,1)) (ti.z.map λl=>.at (.c l)) ps)
   z2s o (.agg cs)
  else do
  let cs <- ofO (zbq (λi=>ti.offs[i]?) (ti.z.map λl=>.at (.c l)) ps)
  z2s o (.agg cs)
 |.buildSlice t len parts=>do
  let ti <- ofO (cx.ti t)
  let(e,sz,by_) <- ofO ti.el
  let ps <- zdx cx parts.toList
  if ps.length≠len\/zle sz 0 ps=false\/1000<len then .fail else
  let(as0,ws) <- zbo (ps.flatMap (·.2))
  let d <- z9h kb o
  pure ⟨[.mk sz (zj8 sz len as0)],[],ws ++ .o d (some (.row e sz (.v n)))::z07 o (.one (.row d))⟩
 |.makeFunc (.func f) first captured=>do
  if first.size≠0 then .fail else
  let vs <- zcm cx captured.toList []
  let bs <- ofO (zog vs)
  z2s o (.one (.fn f bs))
 |.extract x j=>do
  match <- evR cx 0 x with
  |.tup ps=>do
   let(g,cs) <- ofO ps[j]?
   z2s o (<- zbp g cs)
  |_=>.fail
 |.nilCheck x=>do
  match <- evC cx 0 x with
  |.bp k q=>z2s o (.one (.bp k q))
  |.fn f cs=>z2s o (.one (.fn f cs))
  |_=>.fail
 |.call c=>ze5 cx kb n nt o c
 |_=>.fail
structure St where
 τ:List SV
 ω:List (Option Ob)
 n:Nat
 lvl:Nat
 kn:List (Nat×Bool)
 kb:Nat
 σ:List SV
 deriving Inhabited
def wr(τ:List SV)(ω:List (Option Ob)):List Wr->List SV×List (Option Ob)
 | []=>(τ,ω)
 |.t i v::ws=>wr (τ.set i v) ω ws
 |.o i v::ws=>wr τ (ω.set i v) ws
structure Rec where
 o:Oper
 n:Nat
 kn:List (Nat×Bool)
 want:Bool
 eff:Eff
 log:List Loc
def z8c(ops:List Oper)(o:Oper):List Loc:=match o.guard with
 |none=>[]
 |some (j,_)=>match(ops[j]?).bind (·.dst)with
  |some d=>[.t d]
  |none=>[]
inductive Gd where
 |yes|no|ask (v:Nat)|fail
def guardOf(ops:List Oper)(s:St)(o:Oper):Gd:=match o.guard with
 |none=>.yes
 |some (j,want)=>match(ops[j]?).bind (·.dst)with
  |none=>.fail
  |some d=>match s.τ[d]? with
   |some (.one .und)=>.no
   |some (.one (.at a))=>match evB s.kn a with
    |some b=>if b=want then .yes else .no
    |none=>match a with
     |.v v=>.ask v
     |_=>.fail
   |_=>.fail
def zve(e:Eff)(t:T):T:=match e.xs,e.ck with
 | [],[]=>t
 |xs,ck=>.W xs ck t
def zqr(cx:Cx)(n:Nat)(xs:List X)(kn:List (Nat×Bool)):List (Nat×Bool):=if cx.cut.contains 9999=true then(match xs with
 | [.B .eql (.v a) (.c (.i .i64 (.ofNat m)))]=>if Nat.ble 4096 m=true\/Nat.ble knB n=true then kn else(Nat.add (Nat.mul (Nat.add (Nat.add (Nat.mul a 4096) m) 1) knB) n,true)::kn
 |_=>kn)else kn
def regDo(cx:Cx)(nt:Nat)(ops:List Oper)(o:Oper)(s:St)(k:St->Rec->Option T):Option T :=
 let m:=zt cx s.kb s.n nt s.kn o
 match m.run s.τ s.ω with
 |none=>none
 |some e =>
  let p:=wr s.τ s.ω e.ws
  match k { s with τ:=p.1,ω:=p.2,n:=s.n+e.xs.length,kn:=zqr cx s.n e.xs s.kn } ⟨o,s.n,s.kn,true,e,z8c ops o++m.log s.τ s.ω⟩with
  |none=>none
  |some t=>some (zve e t)
def regSkip(ops:List Oper)(o:Oper)(s:St)(k:St->Rec->Option T):Option T :=
 let e:Eff:=⟨[],[],z07 o (.one .und)⟩
 let p:=wr s.τ s.ω e.ws
 k { s with τ:=p.1,ω:=p.2 } ⟨o,s.n,s.kn,false,e,z8c ops o⟩
def learn(s:St)(v:Nat)(b:Bool):St:={ s with kn:=if Nat.ble knB v=true then s.kn else(v,b)::s.kn }
def regRun(cx:Cx)(nt:Nat)(ops:List Oper):List Oper->St->List Rec->(St->List Rec->Option T)->Option T
 | [],s,rs,k=>k s rs
 |o::rest,s,rs,k =>
  match guardOf ops s o with
  |.yes=>regDo cx nt ops o s λs r=>regRun cx nt ops rest s (rs++[r]) k
  |.no=>regSkip ops o s λs r=>regRun cx nt ops rest s (rs++[r]) k
  |.ask v =>
   let want:=match o.guard with|some (_,w)=>w|none=>true
   match regDo cx nt ops o (learn s v want) (λs r=>regRun cx nt ops rest s (rs++[r]) k),regSkip ops o (learn s v (!want)) (λs r=>regRun cx nt ops rest s (rs++[r]) k)with
   |some t,some e=>some (if want then .ite (.v v) t e else .ite (.v v) e t)
   |_,_=>none
  |.fail=>none
def ddL:Nat->List Nat->List Nat
 |_,[]=>[]
 |m,x::xs=>match Nat.beq (Nat.land (Nat.shiftRight m x) 1) 0 with
  |true=>x::ddL (Nat.lor m (Nat.shiftLeft 1 x)) xs
  |false=>ddL m xs
def fnN:Nat->(Nat->β)->β
 |0,k=>k 0
 |n+1,k=>k (n+1)
def fnL{α β:Type}(f:α->(α->β)->β):List α->(List α->β)->β
 | [],k=>k []
 |x::xs,k=>f x λx=>fnL f xs λxs=>k (x::xs)
def z4z:List Oper->List (List Nat)->List (List Nat)
 | [],acc=>acc
 |o::r,acc=>fnL fnN (ddL 0 (o.after.toList.flatMap λe=>if Region.binds .any e then e.on::acc.getD e.on []else[])) λx=>fnL (λl k=>k l) (acc++[x]) λacc=>z4z r acc
def disj(a b:List Loc):Bool:=a.all λx => !b.contains x
def zal(r q:Rec):Bool :=
 let wr:=r.eff.ws.map Wr.loc
 let wq:=q.eff.ws.map Wr.loc
 disj wr q.log&&disj wr wq&&disj r.log wq
def zf6(an:List (List Nat))(i:Nat)(r:Rec):Nat->List Rec->Bool
 |_,[]=>true
 |j,q::qs=>((an.getD j []).contains i||zal r q)&&zf6 an i r (j+1) qs
def zam(an:List (List Nat)):Nat->List Rec->Bool
 |_,[]=>true
 |i,r::rs=>zf6 an i r (i+1) rs&&zam an (i+1) rs
def zdf:Nat->List Oper->Bool
 |_,[]=>true
 |i,o::os=>(o.after.toList.all λe => !Region.binds .any e||decide (e.on<i))&&zdf (i+1) os
inductive Ex where
 |normal|exit (id:Nat)|ret
 deriving DecidableEq
inductive Cy where
 |t (i:Nat)
 |r (i e sz:Nat)
 |o (k:Nat)
 |c (k j key:Nat)
 |z (i:Nat)
 |n (k j key e sz:Nat)
 deriving DecidableEq
structure Hint where
 id:Nat
 cy:List Cy
def ze6:Code->Option Nat
 |.region id _ _=>some id
 |.seq a b=>match ze6 a with
  |some i=>some i
  |none=>ze6 b
 |.block _ b=>ze6 b
 |.loop b=>ze6 b
 |.cond _ x y=>match ze6 x with
  |some i=>some i
  |none=>ze6 y
 |_=>none
def z02x:List Oper->List Nat
 | []=>[]
 |o::r=>match o.dst with
  |some d=>d::z02x r
  |none=>z02x r
def z19:Code->List Nat
 |.region _ ops _=>z02x ops.toList
 |.seq a b=>z19 a++z19 b
 |.block _ b=>z19 b
 |.loop b=>z19 b
 |.cond _ x y=>z19 x++z19 y
 |_=>[]
def C1.refs(k:Nat):C1->Bool
 |.bp j _=>j==k
 |.row j=>j==k
 |.rp j _ _ _=>j==k
 |.fn _ caps=>caps.any λp=>p.1==k
 |_=>false
def SV.refs(k:Nat):SV->Bool
 |.one c=>c.refs k
 |.agg cs=>cs.any (C1.refs k)
 |.tup ps=>ps.any λp=>p.2.any (C1.refs k)
def Ob.refs(k:Nat):Ob->Bool
 |.box _ cs=>cs.any (C1.refs k)
 |.ext cs=>cs.any (C1.refs k)
 |_=>false
def C1.ren(k i:Nat):C1->C1
 |.bp j off=>.bp (if j=k then i else j) off
 |.row j=>.row (if j=k then i else j)
 |.rp j a sz off=>.rp (if j=k then i else j) a sz off
 |.fn f caps=>.fn f (caps.map λp=>(if p.1=k then i else p.1,p.2))
 |c=>c
def SV.ren(k i:Nat):SV->SV
 |.one c=>.one (c.ren k i)
 |.agg cs=>.agg (cs.map (C1.ren k i))
 |.tup ps=>.tup (ps.map λp=>(p.1,p.2.map (C1.ren k i)))
def Ob.ren(k i:Nat):Ob->Ob
 |.box t cs=>.box t (cs.map (C1.ren k i))
 |.ext cs=>.ext (cs.map (C1.ren k i))
 |o=>o
abbrev S3:=List SV×List (Option Ob)×List SV
def renKey(k i:Nat)(p:S3):S3:=match p.2.1[k]?,p.2.1[i]? with
 |some (some o),some none=>if k=i then p else(p.1.map (SV.ren k i),((p.2.1.set k none).set i (some o)).map (Option.map (Ob.ren k i)),p.2.2.map (SV.ren k i))
 |_,_=>p
def noRef(k:Nat)(τ:List SV)(ω:List (Option Ob))(σ:List SV):Bool:=!τ.any (SV.refs k)&&(!ω.any λo=>match o with
 |some o=>o.refs k
 |none=>false) && !σ.any (SV.refs k)
def topAll(τ:List SV):List Nat->List SV
 | []=>τ
 |i::is=>topAll (τ.set i (.one .top)) is
def dropAll(τ:List SV)(ω:List (Option Ob))(σ:List SV):List Nat->List (Option Ob)
 | []=>ω
 |k::ks=>match ω[k]? with
  |some (some _)=>if noRef k τ ω σ then dropAll τ (ω.set k none) σ ks else dropAll τ ω σ ks
  |_=>dropAll τ ω σ ks
def rowKey(kb i e sz:Nat)(p:S3):S3 :=
 match p.1[i]? with
 |some (.one (.at (.c (.nil z))))=>match p.2.1[kb+i]? with
  |some none=>if z=sz then(p.1.set i (.one (.row (kb+i))),p.2.1.set (kb+i) (some (.row e sz (.c (.nil sz)))),p.2.2)else p
  |_=>p
 |some (.one (.row k))=>renKey k (kb+i) p
 |_=>p
def cellKey(k j key:Nat)(p:S3):S3:=match p.2.1[k]? with
 |some (some (.box _ cs))=>match cs[j]? with
  |some (.row q)=>renKey q key p
  |_=>p
 |_=>p
def nilKey(k j key e sz:Nat)(p:S3):S3:=match p.2.1[k]? with
 |some (some (.box t cs))=>match cs[j]? with
  |some (.at (.c (.nil z)))=>match p.2.1[key]? with
   |some none=>if z=sz then(p.1,(p.2.1.set key (some (.row e sz (.c (.nil sz))))).set k (some (.box t (cs.set j (.row key)))),p.2.2)else p
   |_=>p
  |_=>p
 |_=>p
def rowKeys(kb:Nat)(p:S3):List Cy->S3
 | []=>p
 |.n k j key e sz::cs=>rowKeys kb (nilKey k j key e sz p) cs
 |.r i e sz::cs=>rowKeys kb (rowKey kb i e sz p) cs
 |.c k j key::cs=>rowKeys kb (cellKey k j key p) cs
 |_::cs=>rowKeys kb p cs
def cyT:List Cy->List Nat
 | []=>[]
 |.t i::r=>i::cyT r
 |.r i _ _::r=>i::cyT r
 |_::r=>cyT r
def cyZ:List Cy->List Nat
 | []=>[]
 |.z i::r=>i::cyZ r
 |_::r=>cyZ r
def normS(ds:List Nat)(cy:List Cy)(s:St):S3 :=
 let keep:=cyT cy
 let τ:=topAll s.τ ((ds.filter λd => !keep.contains d)++cyZ cy)
 let ω:=dropAll τ s.ω s.σ (List.range s.ω.length)
 rowKeys s.kb (τ,ω,s.σ) cy
def zqs(n:Nat):List C1->List C1×List Atom
 | []=>([],[])
 |.at a::cs=>let r:=zqs (n+1) cs;(.at (.v n)::r.1,a::r.2)
 |c::cs=>let r:=zqs n cs;(c::r.1,r.2)
def genL(kb n:Nat)(τ:List SV)(ω:List (Option Ob)):Cy->(List SV×List (Option Ob))×List Atom
 |.t i=>match τ[i]? with
  |some (.one (.at a))=>((τ.set i (.one (.at (.v n))),ω),[a])
  |some (.agg cs)=>let r:=zqs n cs;((τ.set i (.agg r.1),ω),r.2)
  |_=>((τ,ω),[])
 |.r i _ _=>match ω[kb+i]? with
  |some (some (.row e sz a))=>((τ,ω.set (kb+i) (some (.row e sz (.v n)))),[a])
  |_=>((τ,ω),[])
 |.o k | .c _ _ k=>match ω[k]? with
  |some (some (.row e sz a))=>((τ,ω.set k (some (.row e sz (.v n)))),[a])
  |some (some (.box t cs))=>let r:=zqs n cs;((τ,ω.set k (some (.box t r.1))),r.2)
  |some (some (.map t vs g a))=>((τ,ω.set k (some (.map t vs g (.v n)))),[a])
  |_=>((τ,ω),[])
 |.z _ | .n .. => ((τ,ω),[])
def gen(kb n:Nat)(τ:List SV)(ω:List (Option Ob)):List Cy->(List SV×List (Option Ob))×List Atom
 | []=>((τ,ω),[])
 |c::cs =>
  let p:=genL kb n τ ω c
  let q:=gen kb (n+p.2.length) p.1.1 p.1.2 cs
  (q.1,p.2++q.2)
def sbA(n:Nat)(as0:List Atom):Atom->Atom
 |.v j=>if j<n then .v j else as0.getD (j-n) (.v j)
 |a=>a
def sbC(n:Nat)(as0:List Atom):C1->C1
 |.at a=>.at (sbA n as0 a)
 |.ep a i off=>.ep (sbA n as0 a) (sbA n as0 i) off
 |.rp k i sz off=>.rp k (sbA n as0 i) sz off
 |c=>c
def sbV(n:Nat)(as0:List Atom):SV->SV
 |.one c=>.one (sbC n as0 c)
 |.agg cs=>.agg (cs.map (sbC n as0))
 |.tup ps=>.tup (ps.map λp=>(p.1,p.2.map (sbC n as0)))
def sbO(n:Nat)(as0:List Atom):Ob->Ob
 |.box t cs=>.box t (cs.map (sbC n as0))
 |.ext cs=>.ext (cs.map (sbC n as0))
 |.row e sz a=>.row e sz (sbA n as0 a)
 |.frz a=>.frz (sbA n as0 a)
 |.dead=>.dead
 |.gone a=>.gone (sbA n as0 a)
 |.map t vs g a=>.map t vs g (sbA n as0 a)
def inA(m:Nat):Atom->Bool
 |.v j=>decide (j<m)
 |_=>true
def inC(m:Nat):C1->Bool
 |.at a=>inA m a
 |.ep a i _=>inA m a&&inA m i
 |.rp _ i _ _=>inA m i
 |_=>true
def inV(m:Nat):SV->Bool
 |.one c=>inC m c
 |.agg cs=>cs.all (inC m)
 |.tup ps=>ps.all λp=>p.2.all (inC m)
def inO(m:Nat):Ob->Bool
 |.box _ cs=>cs.all (inC m)
 |.ext cs=>cs.all (inC m)
 |.row _ _ a=>inA m a
 |.frz a=>inA m a
 |.dead=>true
 |.gone a=>inA m a
 |.map _ _ _ a=>inA m a
def sameS(n:Nat)(as0:List Atom)(σ:List SV)(τ:List SV)(ω:List (Option Ob))(τ':List SV)(ω':List (Option Ob))(σ':List SV):Bool :=
 decide (σ'=σ)&&σ.all (inV (n+as0.length))&&decide (σ.map (sbV n as0)=σ) &&
 τ.all (inV (n+as0.length))&&(ω.all λo=>match o with|some o=>inO (n+as0.length) o|none=>true)&&decide (τ.map (sbV n as0)=τ')&&decide (ω.map (Option.map (sbO n as0))=ω')
structure FnI where
 f:Nat
 nt:Nat
 hints:List Hint
 cut:List Nat
 results:List ResultVar
 body:Code
structure Fx where
 cx:Cx
 nt:Nat
 hints:List Hint
 fns:List FnI:=[]
 pool:Nat:=0
 cap:Nat:=4*nt
 dep:Nat:=0
 mul:Nat:=4
def z06(b:Code):List Hint->List Cy
 | []=>[]
 |h::r=>if ze6 b=some h.id then h.cy else z06 b r
def ze7(f:Nat):List FnI->Option FnI
 | []=>none
 |g::r=>if g.f=f then some g else ze7 f r
def inlOf(fx:Fx)(s:St)(o:Oper):Option (FnI×List SV):=match o.op with
 |.call c=>match c.callee with
  |.value fx'=>match(evC fx.cx 0 fx').run s.τ s.ω with
   |some (.fn f caps)=>match ze7 f fx.fns with
    |some g=>match(zcm fx.cx c.args.toList c.argTypes.toList).run s.τ s.ω with
     |some vs=>some (g,vs++caps.map λp=>.one (.bp p.1 p.2))
     |none=>none
    |none=>none
   |_=>none
  |_=>none
 |_=>none
def z05e:SV->Option (Bool×List C1)
 |.one c=>some (false,[c])
 |.agg cs=>some (true,cs)
 |.tup _=>none
def zdy:List SV->Option (List (Bool×List C1))
 | []=>some []
 |v::vs=>match z05e v,zdy vs with
  |some p,some ps=>some (p::ps)
  |_,_=>none
def zcn:List SV->Option SV
 | [v]=>match v with
  |.tup _=>none
  |v=>some v
 |vs=>(zdy vs).map .tup
def z8w(cx:Cx):List ResultVar->Rd (List SV)
 | []=>pure []
 |.tmp t::r=>do
  let v <- rT t
  let vs <- z8w cx r
  pure (v::vs)
 |.cell a t::r=>do
  let ti <- ofO (cx.ti t)
  match <- rT a with
  |.one (.bp k off)=>do
   match <- rO k with
   |some (.box _ cs) =>
    if off+ti.n<=cs.length then do
     let v <- zbp ti.agg ((cs.drop off).take ti.n)
     let vs <- z8w cx r
     pure (v::vs)
    else .fail
   |_=>.fail
  |_=>.fail
def freeKey(ω:List (Option Ob)):Nat->Nat->Option Nat
 |0,_=>none
 |m+1,k=>match ω[k]? with
  |some none=>some k
  |some (some _)=>freeKey ω m (k+1)
  |none=>none
def toPool(pool:Nat)(p:S3):List Nat->S3
 | []=>p
 |k::ks=>match p.2.1[k]? with
  |some (some _)=>match freeKey p.2.1 100 pool with
   |some i=>toPool pool (renKey k i p) ks
   |none=>toPool pool p ks
  |_=>toPool pool p ks
abbrev Inl:=Fx->FnI->List SV->Oper->St->(St->Option T)->Option T
def z0gk:Inl:=λ_ _ _ _ _ _=>none
def seqRun(inl:Inl)(fx:Fx)(ops:List Oper):List Oper->St->(St->Option T)->Option T
 | [],s,k=>k s
 |o::rest,s,k =>
  let go:St->Option T:=λs=>match inlOf fx s o with
   |some (g,vs)=>inl fx g vs o s λs=>seqRun inl fx ops rest s k
   |none=>regDo fx.cx fx.nt ops o s λs _=>seqRun inl fx ops rest s k
  match guardOf ops s o with
  |.yes=>go s
  |.no=>regSkip ops o s λs _=>seqRun inl fx ops rest s k
  |.ask v =>
   let want:=match o.guard with|some (_,w)=>w|none=>true
   match go (learn s v want),regSkip ops o (learn s v (!want)) (λs _=>seqRun inl fx ops rest s k)with
   |some t,some e=>some (if want then .ite (.v v) t e else .ite (.v v) e t)
   |_,_=>none
  |.fail=>none
def allB(m:Nat)(l:List Nat):Bool:=(List.range m).all λi=>l.contains i
def zvk(an:List (List Nat))(i n:Nat):Bool:=allB i (an.getD i [])&&(List.range n).all λj=>j<=i||(an.getD j []).contains i
def z0gl(fns:List FnI)(o:Oper):Bool:=match o.op with
 |.call c=>match c.callee with
  |.value (.func f)=>(ze7 f fns).isSome
  |.value (.tmp _)=>true
  |_=>false
 |_=>false
def ze8(fns:List FnI)(an:List (List Nat))(n:Nat):List Oper->Nat->Option Nat
 | [],_=>none
 |o::r,i=>if z0gl fns o&&o.guard.isNone&&zvk an i n then some i else ze8 fns an n r (i+1)
def segRun(inl:Inl)(fx:Fx)(ops:List Oper)(an:List (List Nat)):Nat->Nat->St->(St->Option T)->Option T
 |0,_,_,_=>none
 |m+1,off,s,k=>match ze8 fx.fns an ops.length (ops.drop off) off with
  |some i=>match ops[i]? with
   |some o'=>if zvk an i ops.length&&o'.guard.isNone&&Nat.ble off i then
     regRun fx.cx fx.nt ops ((ops.drop off).take (i-off)) s [] λs' rs=>if zam an off rs then(match inlOf fx s' o' with
      |some (g,vs)=>inl fx g vs o' s' λs2=>segRun inl fx ops an m (i+1) s2 k
      |none=>regDo fx.cx fx.nt ops o' s' λs2 _=>segRun inl fx ops an m (i+1) s2 k)else none
    else none
   |none=>none
  |none=>regRun fx.cx fx.nt ops (ops.drop off) s [] λs' rs=>if zam an off rs then k s' else none
def exec(inl:Inl)(fx:Fx):Code->St->(Ex->St->Option T)->Option T
 |.skip,s,k=>k .normal s
 |.label _,s,k=>k .normal s
 |.region _ ops draw,s,k=>if draw=false then seqRun inl fx ops.toList ops.toList s λs'=>k .normal s' else
  if zdf 0 ops.toList=false then none else
  segRun inl fx ops.toList (z4z ops.toList []) 40 0 s λs'=>k .normal s'
 |.seq a b,s,k=>exec inl fx a s λe s'=>match e with
  |.normal=>exec inl fx b s' k
  |e=>k e s'
 |.cond c x y,s,k=>match(evA fx.cx 0 c).run s.τ s.ω with
  |none=>none
  |some a=>match evB s.kn a with
   |some true=>exec inl fx x s k
   |some false=>exec inl fx y s k
   |none=>match a with
    |.v v=>match exec inl fx x (learn s v true) k,exec inl fx y (learn s v false) k with
     |some t,some e=>some (.ite (.v v) t e)
     |_,_=>none
    |_=>none
 |.block id b,s,k=>exec inl fx b s λe s'=>match e with
  |.exit j=>if j=id then k .normal s' else k (.exit j) s'
  |e=>k e s'
 |.exit id,s,k=>k (.exit id) s
 |.ret,s,k=>k .ret s
 |.loop b,s,k =>
  let cy:=z06 b fx.hints
  let ds:=z19 b
  let p:=normS ds cy s
  let g:=gen s.kb s.n p.1 p.2.1 cy
  let n:=s.n
  if sameS n g.2 p.2.2 g.1.1 g.1.2 p.1 p.2.1 p.2.2 then
   match exec inl fx b { s with τ:=g.1.1,ω:=g.1.2,n:=n+g.2.length,lvl:=s.lvl+1,σ:=p.2.2 } (λe s'=>match e with
    |.normal =>
     let p':=normS ds cy s'
     let g':=gen s.kb n p'.1 p'.2.1 cy
     if s'.kb=s.kb/\g'.2.length=g.2.length/\sameS n g'.2 p.2.2 g.1.1 g.1.2 p'.1 p'.2.1 p'.2.2 then some (.again s.lvl g'.2)else none
    |e=>k e s')with
   |some t=>some (.loop g.2 t)
   |none=>none
  else none
 |_,_,_=>none
def cutZ:List Nat->List Nat
 | []=>[]
 |c::r=>if Nat.ble 10000 c then(c-10000)::cutZ r else cutZ r
def rowArgs(z:List Nat)(τ:List SV)(o:Oper):List Nat:=cutZ z++match o.op with
 |.call c=>c.args.toList.filterMap λx=>match x with
  |.tmp t=>match τ[t]? with
   |some (.one (.row _))=>some t
   |_=>none
  |_=>none
 |_=>[]
def inlD:Nat->Inl
 |0,_,_,_,_,_,_=>none
 |d+1,fx,g,vs,o,s,k =>
  if g.nt<vs.length then none else
  exec (inlD d) { fx with cx:={ fx.cx with cut:=g.cut },nt:=g.nt,hints:=g.hints } g.body { s with τ:=vs++List.replicate (g.nt-vs.length) (.one .und),kb:=s.kb+fx.mul*fx.nt,σ:=topAll s.τ (rowArgs fx.cx.cut s.τ o)++s.σ } λe s2=>match e with
   |.exit _=>none
   |_=>match(z8w fx.cx g.results).run s2.τ s2.ω with
    |none=>none
    |some svs=>match zcn svs with
     |none=>none
     |some sv =>
      let m:=s.τ.length
      let p:=wr (s2.σ.take m) s2.ω (z07 o sv)
      let ω:=dropAll p.1 p.2 (s2.σ.drop m) (List.range p.2.length)
      let q:=toPool fx.pool (p.1,ω,s2.σ.drop m) (List.range' (s.kb+fx.mul*fx.nt) (fx.mul*g.nt))
      k { s2 with τ:=q.1,ω:=q.2.1,σ:=q.2.2,kb:=s.kb }
def z4l(n:Nat):List Nat->List Ob
 | []=>[]
 |m::ms=>.ext (z4c n m)::z4l (n+m) ms
def zmy(k:Nat):List Nat->List (Nat×Nat)
 | []=>[]
 |_::ms=>(k,0)::zmy (k+1) ms
def z20(n k:Nat):PK->SV×List Ob×Nat
 |.one=>(.one (.at (.v n)),[],1)
 |.agg m=>(.agg (z4c n m),[],m)
 |.ptr m=>(.one (.bp k 0),[.ext (z4c n m)],m)
 |.clos f ms=>(.one (.fn f (zmy k ms)),z4l n ms,ms.sum)
 |.mine _ _=>(.one .und,[],0)
def z0f(n k:Nat):List PK->List SV×List Ob×Nat
 | []=>([],[],n)
 |p::ps =>
  let r:=z20 n k p
  let q:=z0f (n+r.2.2) (k+r.2.1.length) ps
  (r.1::q.1,r.2.1++q.2.1,q.2.2)
def initS(sig:Sig)(nt cap:Nat):St :=
 let r:=z0f 0 cap sig.args
 ⟨r.1++List.replicate (nt-r.1.length) (.one .und),List.replicate cap none++r.2.1.map some,r.2.2,0,[],0,[]⟩
def outC:CF->C1->Rd (Atom×Option Nat×Option Nat)
 |.pure,.at a=>pure (a,none,none)
 |.scal,.at a=>pure (a,none,none)
 |.pure,.row k=>do
  match <- rO k with
  |some (.row _ _ a)=>pure (a,none,some k)
  |some (.frz a)=>pure (a,none,none)
  |_=>.fail
 |.fresh e sz,.row k=>do
  match <- rO k with
  |some (.row e' z a)=>if e'=e/\z=sz then pure (a,some k,none)else .fail
  |_=>.fail
 |.fresh e sz,.at (.c (.nil z))=>if z=sz then pure (.c (.nil z),none,none)else .fail
 |_,_=>.fail
def zoh:List CF->List C1->Rd (List (Atom×Option Nat×Option Nat))
 | [],[]=>pure []
 |f::fs,c::cs=>do
  let a <- outC f c
  let as0 <- zoh fs cs
  pure (a::as0)
 |_,_=>.fail
def z05f:Bool->SV->Rd (List C1)
 |false,.one c=>pure [c]
 |true,.agg cs=>pure cs
 |_,_=>.fail
def zlg:List (Bool×List CF)->List SV->Rd (List (Atom×Option Nat×Option Nat))
 | [],[]=>pure []
 |(g,fs)::r,v::vs=>do
  let cs <- z05f g v
  let as0 <- zoh fs cs
  let bs <- zlg r vs
  pure (as0++bs)
 |_,_=>.fail
def za7:List Nat->Bool
 | []=>true
 |k::ks => !ks.contains k&&za7 ks
def outOf(cx:Cx)(sig:Sig)(rs:List ResultVar)(s:St):Option T:=do
 let vs <- (z8w cx rs).run s.τ s.ω
 let p <- (zlg sig.res vs).run s.τ s.ω
 let ks:=p.filterMap (·.2.1)
 let qs:=p.filterMap (·.2.2)
 if za7 ks&&ks.all (λk => !qs.contains k)then some (.ret (p.map (·.1)))else none
def decomp(fx:Fx)(sig:Sig)(fn:Func):Option T :=
 if(fx.nt≠fn.ntmps\/fn.ntmps<sig.args.length)\/z4w sig.args=true then none else
 match fn.body with
 |none=>none
 |some c=>exec (inlD fx.dep) fx c (initS sig fn.ntmps fx.cap) λe s=>match e with
  |.exit _=>none
  |_=>outOf fx.cx sig fn.results.toList s
inductive Rep(W:World)(F:Nat->Prop):Dt->Value->Prop
 |i (k:IntKind) (n:Int):k.wrap n=n->Rep W F (.i k n) (.int k n)
 |b (x:Bool):Rep W F (.b x) (.bool x)
 |s (x:List UInt8):x.length<=9223372036854775807->Rep W F (.s x) (.string ⟨x.toArray⟩)
 |e0:Rep W F (.e false) .nilIface
 |e1 (t:TypeId) (p:Value):Rep W F (.e true) (.iface t p)
 |l (sz:Nat) (xs:List (List Dt)) (A:Option Addr) (n c b o:Nat) (vs:Nat->Nat->Value):n=xs.length->xs.length<=c->c<=9223372036854775807->(∀x∈xs,x.length=sz)->(0<xs.length->A=some ⟨b,o,none⟩/\F b) ->
   (∀i j x d,xs[i]?=some x->x[j]?=some d->W.cell? ⟨b,o+i*sz+j,none⟩=some (vs i j)) ->
   (∀i j x d,xs[i]?=some x->x[j]?=some d->Rep W F d (vs i j))->Rep W F (.l sz xs) (.slice A n c)
theorem Rep.mono{W:World}(ha:Agree F W W')(hF:∀b,F b->F' b){d:Dt}{v:Value}(h:Rep W F d v):Rep W' F' d v:=by
 induction h with
 |i k n h=>exact .i k n h
 |b x=>exact .b x
 |s x h=>exact .s x h
 |e0=>exact .e0
 |e1 t p=>exact .e1 t p
 |l sz xs A n c b o vs h0 h1 h2 h3 h4 h5 h6 ih =>
  refine .l sz xs A n c b o vs h0 h1 h2 h3 (λh=>⟨(h4 h).1,hF _ (h4 h).2⟩) (λi j x d hx hd=>?_) ih;have hp:0<xs.length:=by
   rcases zY1u xs.length with h|h
   ·rw[zY0c h]at hx;cases hx
   ·exact h
  exact(ha.cell (p:=⟨b,_,none⟩) (h4 hp).2).trans (h5 i j x d hx hd)
theorem Rep.one{W:World}{d:Dt}{v:Value}(h:Rep W F d v):v.oneCell'=true:=by cases h<;>rfl
def Dt.scal:Dt->Bool
 |.l _ _=>false
 |_=>true
theorem Rep.scal{W:World}{d:Dt}{v:Value}(h:Rep W F d v)(hs:d.scal=true):Rep W' F' d v:=by
 cases h with
 |i k n h=>exact .i k n h
 |b x=>exact .b x
 |s x h=>exact .s x h
 |e0=>exact .e0
 |e1 t p=>exact .e1 t p
 |l=>cases hs
def Reps(W:World)(F:Nat->Prop):List Dt->List Value->Prop
 | [],[]=>True
 |d::ds,v::vs=>Rep W F d v/\Reps W F ds vs
 |_,_=>False
theorem Reps.mono{W W':World}{F F':Nat->Prop}(ha:Agree F W W')(hF:∀b,F b->F' b):∀ {ds:List Dt} {vs:List Value},Reps W F ds vs->Reps W' F' ds vs
 | [],[],_=>trivial
 |_::_,_::_,h=>⟨h.1.mono ha hF,Reps.mono ha hF h.2⟩
theorem Reps.len{W:World}{F:Nat->Prop}:∀ {ds:List Dt} {vs:List Value},Reps W F ds vs->ds.length=vs.length
 | [],[],_=>rfl
 |_::_,_::_,h=>by simp[Reps.len h.2]
theorem Reps.get{W:World}{F:Nat->Prop}:∀ {ds:List Dt} {vs:List Value},Reps W F ds vs->∀ {j:Nat} {d:Dt},ds[j]?=some d->∃v,vs[j]?=some v/\Rep W F d v
 |_::_,v::_,h,0,d,hd=>by simp only[zY05,zY00]at hd;subst hd;exact⟨v,rfl,h.1⟩
 |_::_,_::_,h,j+1,d,hd=>by simpa using Reps.get h.2 zX1c
theorem Reps.of{W:World}{F:Nat->Prop}:∀ {ds:List Dt} {vs:List Value},ds.length=vs.length->(∀(j:Nat) (d:Dt) (v:Value),ds[j]?=some d->vs[j]?=some v->Rep W F d v)->Reps W F ds vs
 | [],[],_,_=>trivial
 |d::ds,v::vs,hl,h=>⟨h 0 d v rfl rfl,Reps.of zXf λj d v hd hv=>h (j+1) d v zX1c (by simpa using hv)⟩
theorem Reps.append{W:World}{F:Nat->Prop}:∀ {ds es:List Dt} {vs us:List Value},Reps W F ds vs->Reps W F es us->Reps W F (ds++es) (vs++us)
 | [],_,[],_,_,h=>h
 |_::_,_,_::_,_,h,k=>⟨h.1,Reps.append h.2 k⟩
theorem Reps.take{W:World}{ds:List Dt}{vs:List Value}(h:Reps W F ds vs)(n:Nat):Reps W F (ds.take n) (vs.take n):=by
 refine Reps.of zX1i λj d v hd hv=>?_;rw[zY17]at hd hv;split at hd
 ·rename_i hj;rw[zP hj]at hv;obtain⟨u,hu,hr⟩:=h.get hd;rw[hu]at hv;injection hv with hv;exact hv▸hr
 ·cases hd
theorem Reps.drop{W:World}{ds:List Dt}{vs:List Value}(h:Reps W F ds vs)(n:Nat):Reps W F (ds.drop n) (vs.drop n):=by refine Reps.of zX1i λj d v hd hv=>?_;rw[zY1p]at hd hv;obtain⟨u,hu,hr⟩:=h.get hd;rw[hu]at hv;injection hv with hv;exact hv▸hr
theorem Reps.one{W:World}{ds:List Dt}{vs:List Value}(h:Reps W F ds vs):∀v∈vs,v.oneCell'=true:=by
 intro v hv;obtain⟨j,hj⟩:=zY27 hv;have hl:=(zY02.1 hj).1;have hd:j<ds.length:=by have:=h.len;omega
 obtain⟨u,hu,hr⟩:=h.get (zY03 hd);rw[hu]at hj;injection hj with hj;exact hj▸hr.one
structure Ctx where
 W:World
 F:Nat->Prop
 E:Env
 ρ:Nat->Value
 L:Nat->Prop
structure Ctx.Le(c c':Ctx):Prop where
 agree:Agree c.F c.W c'.W
 more:∀b,c.F b->c'.F b
 env:∀a d,Atom.val c.E a=some d->Atom.val c'.E a=some d
 live:∀k,c.L k->c'.L k/\c'.ρ k=c.ρ k
theorem Ctx.Le.refl(c:Ctx):c.Le c:=⟨λ_ _=>rfl,λ_ h=>h,λ_ _ h=>h,λ_ h=>⟨h,rfl⟩⟩
theorem Ctx.Le.asI{c c':Ctx}(h:c.Le c'){i:Atom}{n:Int}(hi:asI (i.val c.E)=some n):Proofs.YtmjelcjgllkapaaGreatDoor.asI (i.val c'.E)=some n:=by
 match hv:i.val c.E,hi with
 |some d,hi=>rw[h.env i d hv];exact hi
def CapR(c:Ctx)(p:Nat×Nat)(v:Value):Prop:=c.L p.1/\∃g o,c.ρ p.1=.pointer (some ⟨g,o,none⟩)/\v=.pointer (some ⟨g,o+p.2,none⟩)
def CapRs(c:Ctx):List (Nat×Nat)->List Value->Prop
 | [],[]=>True
 |p::ps,v::vs=>CapR c p v/\CapRs c ps vs
 |_,_=>False
def C1R(c:Ctx):C1->Value->Prop
 |.top,_=>True
 |.und,v=>v=undef
 |.at (.c (.nil _)),v=>v=.slice none 0 0
 |.at a,v=>∃d,a.val c.E=some d/\Rep c.W c.F d v
 |.bp k off,v=>CapR c (k,off) v
 |.ep a i off,v=>∃sz xs n b o x,∃vs:Nat->Value,a.val c.E=some (.l sz xs)/\asI (i.val c.E)=some n/\0<=n/\xs[n.toNat]?=some x/\x.length=sz/\v=.pointer (some ⟨b,o+off,none⟩)/\c.F b /\
   (∀j d,x[j]?=some d->c.W.cell? ⟨b,o+j,none⟩=some (vs j)/\Rep c.W c.F d (vs j))
 |.row k,v=>c.L k/\v=c.ρ k/\v.oneCell'=true
 |.rp k i sz off,v=>c.L k/\∃n g len cap,asI (i.val c.E)=some n/\0<=n/\n<(len:Nat)/\(c.ρ k=.slice (some ⟨g,0,none⟩) len cap\/c.ρ k=.pointer (some ⟨g,0,none⟩))/\v=.pointer (some ⟨g,n.toNat*sz+off,none⟩)
 |.fn f caps,v=>∃vs:List Value,v=.func (.func f) #[] vs.toArray/\CapRs c caps vs
theorem z0c8(W:World)(F:Nat->Prop)(sz:Nat):Rep W F (.l sz []) (.slice none 0 0):=.l _ [] none 0 0 0 0 (λ_ _=>undef) rfl zX4 zX0 zX4 zX4 zX4 zX4
theorem C1R.at_{c:Ctx}{a:Atom}{v:Value}(h:C1R c (.at a) v):∃d,a.val c.E=some d/\Rep c.W c.F d v:=by
 unfold C1R at h;split at h
 ·cases‹C1.at a=.top›
 ·cases‹C1.at a=.und›
 ·rename_i z v' e;injection e with e;subst e;subst h;exact⟨_,rfl,z0c8 _ _ _⟩
 ·rename_i a' v' hne e;injection e with e;subst e;exact h
 all_goals(rename_i e;cases e)
theorem C1R.of_at{c:Ctx}{a:Atom}{v:Value}(hn:∀z,a=.c (.nil z)->v=.slice none 0 0)(h:∃d,a.val c.E=some d/\Rep c.W c.F d v):C1R c (.at a) v:=by
 cases a with
 |v n=>exact h
 |c l=>cases l with
  |nil z=>exact hn z rfl
  |_=>exact h
theorem C1R.isNil{c:Ctx}{z:Nat}{v:Value}(h:C1R c (.at (.c (.nil z))) v):v=.slice none 0 0:=h
theorem CapR.mono{c c':Ctx}(h:c.Le c'){p:Nat×Nat}{v:Value}(hr:CapR c p v):CapR c' p v:=by obtain⟨h1,g,o,h2,h3⟩:=hr;exact⟨(h.live _ h1).1,g,o,by rw[(h.live _ h1).2];exact h2,h3⟩
theorem CapRs.mono{c c':Ctx}(h:c.Le c'):∀ {ps:List (Nat×Nat)} {vs:List Value},CapRs c ps vs->CapRs c' ps vs
 | [],[],_=>trivial
 |_::_,_::_,k=>⟨k.1.mono h,CapRs.mono h k.2⟩
theorem C1R.mono{c c':Ctx}(h:c.Le c'){x:C1}{v:Value}(hr:C1R c x v):C1R c' x v:=by
 cases x with
 |top=>trivial
 |und=>exact hr
 | «at» a=>exact C1R.of_at (λz e=>by subst e;exact hr) (let⟨d,h1,h2⟩:=hr.at_;⟨d,h.env a d h1,h2.mono h.agree h.more⟩)
 |bp k off=>exact CapR.mono h hr
 |ep a i off =>obtain⟨sz,xs,n,b,o,x,vs,h1,h2,h3,h4,h5,h6,h7,h8⟩:=hr;exact⟨sz,xs,n,b,o,x,vs,h.env a _ h1,h.asI h2,h3,h4,h5,h6,h.more _ h7,λj d hd=>⟨(h.agree.cell (p:=⟨b,_,none⟩) h7).trans (h8 j d hd).1,(h8 j d hd).2.mono h.agree h.more⟩⟩
 |row k=>exact⟨(h.live k hr.1).1,hr.2.1.trans (h.live k hr.1).2.symm,hr.2.2⟩
 |rp k i sz off =>obtain⟨h1,n,g,len,cap,h2,h3,h4,h5,h6⟩:=hr;exact⟨(h.live k h1).1,n,g,len,cap,h.asI h2,h3,h4,by rw[(h.live k h1).2];exact h5,h6⟩
 |fn f caps=>exact let⟨vs,h1,h2⟩:=hr;⟨vs,h1,h2.mono h⟩
theorem C1R.one{c:Ctx}{x:C1}{v:Value}(hr:C1R c x v)(hx:okC x=true):v.oneCell'=true:=by
 cases x with
 |top=>cases hx
 |und=>cases hx
 | «at» a=>exact let⟨d,_,h⟩:=hr.at_;h.one
 |bp k off=>obtain⟨_,g,o,_,rfl⟩:=hr;rfl
 |ep a i off=>obtain⟨_,_,_,_,_,_,_,_,_,_,_,_,rfl,_⟩:=hr;rfl
 |row k=>exact hr.2.2
 |rp k i sz off=>obtain⟨_,_,_,_,_,_,_,_,_,rfl⟩:=hr;rfl
 |fn f caps=>obtain⟨vs,rfl,_⟩:=hr;rfl
def C1Rs(c:Ctx):List C1->List Value->Prop
 | [],[]=>True
 |x::xs,v::vs=>C1R c x v/\C1Rs c xs vs
 |_,_=>False
theorem C1Rs.mono{c c':Ctx}(h:c.Le c'):∀ {xs:List C1} {vs:List Value},C1Rs c xs vs->C1Rs c' xs vs
 | [],[],_=>trivial
 |_::_,_::_,k=>⟨k.1.mono h,C1Rs.mono h k.2⟩
theorem C1Rs.len{c:Ctx}:∀ {xs:List C1} {vs:List Value},C1Rs c xs vs->xs.length=vs.length
 | [],[],_=>rfl
 |_::_,_::_,h=>by simp[C1Rs.len h.2]
theorem C1Rs.get{c:Ctx}:∀ {xs:List C1} {vs:List Value},C1Rs c xs vs->∀ {j:Nat} {x:C1},xs[j]?=some x->∃v,vs[j]?=some v/\C1R c x v
 |_::_,v::_,h,0,x,hx=>by simp only[zY05,zY00]at hx;subst hx;exact⟨v,rfl,h.1⟩
 |_::_,_::_,h,j+1,x,hx=>by simpa using C1Rs.get h.2 zXo
theorem C1Rs.of{c:Ctx}:∀ {xs:List C1} {vs:List Value},xs.length=vs.length->(∀(j:Nat) (x:C1) (v:Value),xs[j]?=some x->vs[j]?=some v->C1R c x v)->C1Rs c xs vs
 | [],[],_,_=>trivial
 |x::xs,v::vs,hl,h=>⟨h 0 x v rfl rfl,C1Rs.of zXf λj d v hd hv=>h (j+1) d v zX1c (by simpa using hv)⟩
theorem C1Rs.append{c:Ctx}:∀ {xs ys:List C1} {vs us:List Value},C1Rs c xs vs->C1Rs c ys us->C1Rs c (xs++ys) (vs++us)
 | [],_,[],_,_,h=>h
 |_::_,_,_::_,_,h,k=>⟨h.1,C1Rs.append h.2 k⟩
theorem C1Rs.part{c:Ctx}{xs:List C1}{vs:List Value}(h:C1Rs c xs vs)(o n:Nat):C1Rs c ((xs.drop o).take n) ((vs.drop o).take n):=by
 refine C1Rs.of zX1i λj x v hx hv=>?_;rw[zY17]at hx hv;split at hx
 ·rename_i hj;rw[zP hj]at hv;rw[zY1p]at hx hv;obtain⟨u,hu,hr⟩:=h.get hx;rw[hu]at hv;injection hv with hv;exact hv▸hr
 ·cases hx
theorem C1Rs.set{c:Ctx}{xs:List C1}{vs:List Value}(h:C1Rs c xs vs){x:C1}{v:Value}(hr:C1R c x v)(j:Nat):C1Rs c (xs.set j x) (vs.set j v):=by
 refine C1Rs.of zX1i λi y u hy hu=>?_;by_cases e:j=i
 ·subst e;rw[zY2e]at hy hu;have hl:=h.len;split at hy
  ·rename_i hj;split at hy
   ·rename_i hlt;rw[zP rfl,zP zX0]at hu;injection hy with hy;injection hu with hu;exact hy▸hu▸hr
   ·cases hy
  ·rename_i hj;exact absurd rfl hj
 ·rw[zY0j e]at hy hu;obtain⟨w,hw,hr'⟩:=h.get hy;rw[hw]at hu;injection hu with hu;exact hu▸hr'
theorem C1Rs.one{c:Ctx}{xs:List C1}{vs:List Value}(h:C1Rs c xs vs)(hx:xs.all okC=true):∀v∈vs,v.oneCell'=true:=by
 intro v hv;obtain⟨j,hj⟩:=zY27 hv;have hl:=(zY02.1 hj).1;have hd:j<xs.length:=by have:=h.len;omega
 obtain⟨u,hu,hr⟩:=h.get (zY03 hd);rw[hu]at hj;injection hj with hj;exact hj▸hr.one (zY1j.1 hx _ (zY1y hd))
theorem zan{v:Value}(h:v.oneCell'=true):v.cells=#[v]:=by cases v<;>first|rfl|cases h
def z2c(l:List Value)(j:Nat):List Value->List Value
 | []=>l
 |v::vs=>z2c (l.set j v) (j+1) vs
theorem C1Rs.setAll{c:Ctx}:∀ {ys:List C1} {us:List Value} {xs:List C1} {vs:List Value} (j:Nat),C1Rs c xs vs->C1Rs c ys us->C1Rs c (zqp xs j ys) (z2c vs j us)
 | [],[],_,_,j,h,_=>h
 |y::ys,u::us,xs,vs,j,h,k=>by rw[zqp,z2c];exact C1Rs.setAll (j+1) (h.set k.1 j) k.2
def PR(c:Ctx)(p:Bool×List C1)(v:Value):Prop:=if p.1 then ∃us:List Value,v=.agg us.toArray/\C1Rs c p.2 us else ∃x,p.2=[x]/\C1R c x v
def PRs(c:Ctx):List (Bool×List C1)->List Value->Prop
 | [],[]=>True
 |p::ps,v::vs=>PR c p v/\PRs c ps vs
 |_,_=>False
theorem PR.mono{c c':Ctx}(h:c.Le c'){p:Bool×List C1}{v:Value}(hr:PR c p v):PR c' p v:=by
 unfold PR at *;split at hr
 ·rename_i hp;obtain⟨us,h1,h2⟩:=hr;rw[zP hp];exact⟨us,h1,h2.mono h⟩
 ·rename_i hp;obtain⟨x,h1,h2⟩:=hr;rw[zN hp];exact⟨x,h1,h2.mono h⟩
theorem PRs.mono{c c':Ctx}(h:c.Le c'):∀ {ps:List (Bool×List C1)} {vs:List Value},PRs c ps vs->PRs c' ps vs
 | [],[],_=>trivial
 |_::_,_::_,k=>⟨k.1.mono h,PRs.mono h k.2⟩
theorem PRs.get{c:Ctx}:∀ {ps:List (Bool×List C1)} {vs:List Value},PRs c ps vs->∀ {j:Nat} {p:Bool×List C1},ps[j]?=some p->∃v,vs[j]?=some v/\PR c p v
 |_::_,v::_,h,0,x,hx=>by simp only[zY05,zY00]at hx;subst hx;exact⟨v,rfl,h.1⟩
 |_::_,_::_,h,j+1,x,hx=>by simpa using PRs.get h.2 zXo
def SVR(c:Ctx):SV->Value->Prop
 |.one x,v=>C1R c x v
 |.agg cs,v=>∃us:List Value,v=.agg us.toArray/\C1Rs c cs us
 |.tup ps,v=>∃us:List Value,v=.tuple us.toArray/\PRs c ps us
theorem SVR.mono{c c':Ctx}(h:c.Le c'){x:SV}{v:Value}(hr:SVR c x v):SVR c' x v:=by
 cases x with
 |one x=>exact C1R.mono h hr
 |agg cs=>exact let⟨us,h1,h2⟩:=hr;⟨us,h1,h2.mono h⟩
 |tup ps=>exact let⟨us,h1,h2⟩:=hr;⟨us,h1,h2.mono h⟩
def own:Ob->Value->Option Nat
 |.box _ _,.pointer (some a)=>some a.block
 |.row _ _ _,v=>v.ownBlock
 |.map _ _ _ _,.map (some b)=>some b
 |_,_=>none
def MapR(W:World)(F:Nat->Prop)(vs:Nat)(g:Bool):List (List Dt)->List MapEntry->Prop
 | [],[]=>True
 |r::rs,e::es=>(∃n ds,∃us:List Value,r=.i .i64 n::ds/\IntKind.i64.wrap n=n/\ds.length=vs/\e.key=.int .i64 n/\(if g then e.val=.agg us.toArray else us=[e.val])/\Reps W F ds us)/\MapR W F vs g rs es
 |_,_=>False
theorem MapR.mono{W W':World}{F F':Nat->Prop}(ha:Agree F W W')(hF:∀b,F b->F' b){vs:Nat}{g:Bool}:∀ {rs:List (List Dt)} {es:List MapEntry},MapR W F vs g rs es->MapR W' F' vs g rs es
 | [],[],_=>trivial
 |_::_,_::_,⟨⟨n,ds,us,h1,h2,h3,h4,h5,h6⟩,h⟩=>⟨⟨n,ds,us,h1,h2,h3,h4,h5,h6.mono ha hF⟩,MapR.mono ha hF h⟩
def ObR(c:Ctx)(base k:Nat):Ob->Prop
 |.box t cs=>∃g,∃vs:List Value,c.ρ k=.pointer (some ⟨g,0,none⟩)/\base<=g/\c.W.heap[g]?=some (.cells vs.toArray t (0,0))/\C1Rs c cs vs
 |.ext cs=>∃g o,∃vs:List Value,c.ρ k=.pointer (some ⟨g,o,none⟩)/\c.F g/\c.W.rangeAt g o vs/\C1Rs c cs vs
 |.row e sz a=>∃xs vs,a.val c.E=some (.l sz xs)/\(∀x∈xs,x.length=sz)/\c.W.ownsRow base e sz (c.ρ k) xs.length vs/\Reps c.W c.F xs.flatten vs
 |.frz a=>∃d,a.val c.E=some d/\Rep c.W c.F d (c.ρ k)
 |.dead=>True
 |.gone a=>∃sz xs A cap,a.val c.E=some (.l sz xs)/\c.ρ k=.slice A xs.length cap/\xs.length<=140737488355328
 |.map t vs g a=>∃b rows,∃es:List MapEntry,∃clock,c.ρ k=.map (some b)/\base<=b/\c.W.heap[b]?=some (.map es.toArray clock)/\a.val c.E=some (.l (1+vs) rows)/\MapR c.W c.F vs g rows es
theorem z3p{v:Value}{xs:List Value}(h:w.ownsRow base e size v n xs)(hg:v.ownBlock=some g):base<=g/\g<w.heap.size:=by
 rcases h.2 with⟨rfl,_⟩|⟨g',cap,cur,rfl,hb,hh,_⟩
 ·cases hg
 ·simp only[Value.ownBlock,zY00]at hg;subst hg;refine⟨hb,?_⟩;rcases zY1w g' w.heap.size with h|h
  ·exact h
  ·rw[zY18 h]at hh;cases hh
theorem zj9{w':World}{v:Value}{xs:List Value}(h:w.ownsRow base e size v n xs)(hb:∀g,v.ownBlock=some g->w'.heap[g]?=w.heap[g]?):w'.ownsRow base e size v n xs:=by
 refine⟨h.1,?_⟩;rcases h.2 with h0|⟨g,cap,cur,hv,hg,hh,r⟩
 ·exact .inl h0
 ·exact .inr ⟨g,cap,cur,hv,hg,by rw[hb g (by rw[hv];rfl)];exact hh,r⟩
theorem ObR.lt{c:Ctx}{o:Ob}(h:ObR c base k o)(hg:own o (c.ρ k)=some g):base<=g/\g<c.W.heap.size:=by
 cases o with
 |box t cs =>
  obtain⟨g',vs,h1,h2,h3,_⟩:=h;rw[h1]at hg;simp only[own,zY00]at hg;subst hg;refine⟨h2,?_⟩;rcases zY1w g' c.W.heap.size with h|h
  ·exact h
  ·rw[zY18 h]at h3;cases h3
 |ext cs=>unfold own at hg;cases hg
 |row e sz a =>obtain⟨xs,vs,_,_,h3,_⟩:=h;exact z3p h3 (by simpa[own]using hg)
 |frz a=>unfold own at hg;cases hg
 |dead=>unfold own at hg;cases hg
 |gone a=>unfold own at hg;cases hg
 |map t vs q a =>
  obtain⟨b,rows,es,clock,h1,h2,h3,_⟩:=h;rw[h1]at hg;simp only[own,zY00]at hg;subst hg;refine⟨h2,?_⟩;rcases zY1w b c.W.heap.size with h|h
  ·exact h
  ·rw[zY18 h]at h3;cases h3
theorem ObR.mono{c c':Ctx}(h:c.Le c'){o:Ob}(hk:c.L k)(hb:∀g,own o (c.ρ k)=some g->c'.W.heap[g]?=c.W.heap[g]?)(hr:ObR c base k o):ObR c' base k o:=by
 have hρ:=(h.live k hk).2;cases o with
 |box t cs =>obtain⟨g,vs,h1,h2,h3,h4⟩:=hr;exact⟨g,vs,by rw[hρ];exact h1,h2,by rw[hb g (by rw[h1];rfl)];exact h3,h4.mono h⟩
 |ext cs =>obtain⟨g,o,vs,h1,h2,h3,h4⟩:=hr;exact⟨g,o,vs,by rw[hρ];exact h1,h.more _ h2,λj v hj=>(h.agree.cell (p:=⟨g,_,none⟩) h2).trans (h3 j v hj),h4.mono h⟩
 |row e sz a =>obtain⟨xs,vs,h1,h2,h3,h4⟩:=hr;exact⟨xs,vs,h.env _ _ h1,h2,by rw[hρ];exact zj9 h3 (λg hg=>hb g (by simpa[own]using hg)),h4.mono h.agree h.more⟩
 |frz a =>obtain⟨d,h1,h2⟩:=hr;exact⟨d,h.env _ _ h1,by rw[hρ];exact h2.mono h.agree h.more⟩
 |dead=>trivial
 |gone a =>obtain⟨sz,xs,A,cap,h1,h2,h3⟩:=hr;exact⟨sz,xs,A,cap,h.env _ _ h1,by rw[hρ];exact h2,h3⟩
 |map t vs q a =>obtain⟨b,rows,es,clock,h1,h2,h3,h4,h5⟩:=hr;exact⟨b,rows,es,clock,by rw[hρ];exact h1,h2,by rw[hb b (by rw[h1];rfl)];exact h3,h.env _ _ h4,h5.mono h.agree h.more⟩
structure Bk where
 F:Nat->Prop
 σ:List SV
 η:List Value
def SVRs(c:Ctx):List SV->List Value->Prop
 | [],[]=>True
 |x::xs,v::vs=>SVR c x v/\SVRs c xs vs
 |_,_=>False
theorem SVRs.mono{c c':Ctx}(h:c.Le c'):∀ {xs:List SV} {vs:List Value},SVRs c xs vs->SVRs c' xs vs
 | [],[],_=>trivial
 |_::_,_::_,k=>⟨k.1.mono h,SVRs.mono h k.2⟩
theorem SVRs.len{c:Ctx}:∀ {xs:List SV} {vs:List Value},SVRs c xs vs->xs.length=vs.length
 | [],[],_=>rfl
 |_::_,_::_,h=>by simp[SVRs.len h.2]
def zlh(ω:List (Option Ob))(ρ:Nat->Value)(b:Nat):Prop:=∃k o,ω[k]?=some (some o)/\own o (ρ k)=some b
def Frr(w0:World)(F0:Bk)(ω:List (Option Ob))(ρ:Nat->Value)(W:World)(b:Nat):Prop:=(F0.F b\/(w0.heap.size<=b/\b<W.heap.size))/\¬zlh ω ρ b
def live(ω:List (Option Ob))(k:Nat):Prop:=∃o,ω[k]?=some (some o)
def ctx(w0:World)(F0:Bk)(E:Env)(ω:List (Option Ob))(ρ:Nat->Value)(W:World):Ctx:=⟨W,Frr w0 F0 ω ρ W,E,ρ,live ω⟩
theorem z05g{W:World}{n:String}{cs:Array Value}(hg:P.globalNamed n=some g)(h:W.var? P n=some cs)(hb:Below W.heap.size W W'):W'.var? P n=some cs:=by
 unfold World.var? at h⊢;simp only[hg,zY07]at h⊢;have hlt:g<W.heap.size:=by
  rcases zY1w g W.heap.size with h'|h'
  ·exact h'
  ·rw[zY18 h']at h;cases h
 rw[hb.block g hlt];exact h
def GlobT(W:World):Prop:=Lib.TabIs Tryz.prog W "internal/strconv.uint64pow10" .u64 Lib.pow10Tab
theorem GlobT.on{W:World}(h:GlobT W)(hb:Below W.heap.size W W'):GlobT W':=by
 obtain⟨g,hg⟩:∃g,(Tryz.prog).globalNamed "internal/strconv.uint64pow10" = some g:=zY2z.1 zX1
 exact z05g hg h hb
def GlobE(_:World):Prop:=True
theorem GlobE.on{W:World}(h:GlobE W)(hb:Below W.heap.size W W'):GlobE W':=trivial
def GlobM(_:World):Prop:=True
theorem GlobM.on{W:World}(h:GlobM W)(hb:Below W.heap.size W W'):GlobM W':=trivial
def GlobF(W:World):Prop:=Lib.TabIs Tryz.prog W "strings.asciiSpace" .u8 Lib.asciiSpaceTab
theorem GlobF.on{W:World}(h:GlobF W)(hb:Below W.heap.size W W'):GlobF W':=by
 obtain⟨g,hg⟩:∃g,(Tryz.prog).globalNamed "strings.asciiSpace" = some g:=zY2z.1 zX1
 exact z05g hg h hb
def Glob(W:World):Prop:=GlobT W/\GlobE W/\GlobM W/\GlobF W
theorem Glob.on{W:World}(h:Glob W)(hb:Below W.heap.size W W'):Glob W':=⟨h.1.on hb,h.2.1.on hb,h.2.2.1.on hb,h.2.2.2.on hb⟩
def zd1(F:Nat->Prop)(W:World):Prop:=(∀b,F b->b<W.heap.size)/\Glob W
structure Sim(w0:World)(F0:Bk)(E:Env)(τ:List SV)(ω:List (Option Ob))(a:Act)(W:World)(ρ:Nat->Value):Prop where
 below:Below w0.heap.size w0 W
 low:zd1 F0.F w0
 held:SVRs (ctx w0 F0 E ω ρ W) F0.σ F0.η
 defers:a.defers=[]
 size:a.tmps.size=τ.length
 tmps:∀t sv,τ[t]?=some sv->SVR (ctx w0 F0 E ω ρ W) sv (a.tmps.getD t undef)
 objs:∀k o,ω[k]?=some (some o)->ObR (ctx w0 F0 E ω ρ W) w0.heap.size k o
 dj:∀k k' o o' g,ω[k]?=some (some o)->ω[k']?=some (some o')->own o (ρ k)=some g->own o' (ρ k')=some g->k=k'
section
variable {w0 W:World} {F0:Bk} {E:Env} {τ:List SV} {ω:List (Option Ob)} {a:Act} {ρ:Nat->Value}
theorem Sim.bsz(h:Sim w0 F0 E τ ω a W ρ):w0.heap.size<=W.heap.size:=h.below.size
theorem Sim.frLt(h:Sim w0 F0 E τ ω a W ρ)(hb:Frr w0 F0 ω ρ W b):b<W.heap.size:=by
 rcases hb.1 with h1|h1
 ·exact zY1v (h.low.1 b h1) h.bsz
 ·exact h1.2
theorem Sim.lows(h:Sim w0 F0 E τ ω a W ρ):zd1 (Frr w0 F0 ω ρ W) W:=⟨λ_ hb=>h.frLt hb,h.low.2.on h.below⟩
theorem Sim.gen(h:Sim w0 F0 E τ ω a W ρ)(ks:List Nat){τ':List SV}{ω':List (Option Ob)}{a':Act}{ρ':Nat->Value}
  (hb:Below w0.heap.size W W') (hd:a'.defers=[]) (hs:a'.tmps.size=τ'.length)
  (hold:∀k,k∉ks->ω'[k]?=ω[k]?)
  (hlive:∀k,live ω k->live ω' k/\ρ' k=ρ k)
  (hheap:∀b,b<W.heap.size->(∀k∈ks,∀o,ω[k]?=some (some o)->own o (ρ k)≠some b)->W'.heap[b]?=W.heap[b]?)
  (hown:∀k∈ks,∀o',ω'[k]?=some (some o')->∀b,own o' (ρ' k)=some b->(∃k0∈ks,∃o,ω[k0]?=some (some o)/\own o (ρ k0)=some b)\/W.heap.size<=b)
  (hdj:∀k∈ks,∀k'∈ks,∀o o' g,ω'[k]?=some (some o)->ω'[k']?=some (some o')->own o (ρ' k)=some g->own o' (ρ' k')=some g->k=k')
  (hobj:(ctx w0 F0 E ω ρ W).Le (ctx w0 F0 E ω' ρ' W')->(∀b,(∃k∈ks,∃o,ω[k]?=some (some o)/\own o (ρ k)=some b)->(∀k∈ks,∀o',ω'[k]?=some (some o')->own o' (ρ' k)≠some b)->Frr w0 F0 ω' ρ' W' b) ->
   ∀k∈ks,∀o',ω'[k]?=some (some o')->ObR (ctx w0 F0 E ω' ρ' W') w0.heap.size k o')
  (htmp:(ctx w0 F0 E ω ρ W).Le (ctx w0 F0 E ω' ρ' W')->(∀b,(∃k∈ks,∃o,ω[k]?=some (some o)/\own o (ρ k)=some b)->(∀k∈ks,∀o',ω'[k]?=some (some o')->own o' (ρ' k)≠some b)->Frr w0 F0 ω' ρ' W' b) ->
   ∀t sv,τ'[t]?=some sv->(τ[t]?=some sv/\a'.tmps.getD t undef=a.tmps.getD t undef)\/SVR (ctx w0 F0 E ω' ρ' W') sv (a'.tmps.getD t undef)) :
  Sim w0 F0 E τ' ω' a' W' ρ':=by
 have hsz:=hb.size;have hun:∀k o b,k∉ks->ω[k]?=some (some o)->own o (ρ k)=some b->∀k0∈ks,∀o0,ω[k0]?=some (some o0)->own o0 (ρ k0)≠some b:=by intro k o b hk ho hb' k0 hk0 o0 ho0 e;exact hk (h.dj k k0 o o0 b ho ho0 hb' e▸hk0)
 have hfr:∀b,Frr w0 F0 ω ρ W b->Frr w0 F0 ω' ρ' W' b:=by
  intro b hb';have hlt:=h.frLt hb';refine⟨hb'.1.imp (λx=>x) (λx=>⟨x.1,zY1v x.2 hsz⟩),?_⟩;rintro⟨k,o',h1,h2⟩;by_cases hk:k∈ks
  ·rcases hown k hk o' h1 b h2 with⟨k0,hk0,o,h3,h4⟩|h3
   ·exact hb'.2 ⟨k0,o,h3,h4⟩
   ·omega
  ·rw[hold k hk]at h1;rw[(hlive k ⟨o',h1⟩).2]at h2;exact hb'.2 ⟨k,o',h1,h2⟩
 have hle:(ctx w0 F0 E ω ρ W).Le (ctx w0 F0 E ω' ρ' W') :=
  ⟨λb hb'=>hheap b (h.frLt hb') (λk hk o ho e=>hb'.2 ⟨k,o,ho,e⟩),hfr,λ_ _ hd=>hd,hlive⟩
 have hfree:∀b,(∃k∈ks,∃o,ω[k]?=some (some o)/\own o (ρ k)=some b)->(∀k∈ks,∀o',ω'[k]?=some (some o')->own o' (ρ' k)≠some b)->Frr w0 F0 ω' ρ' W' b:=by
  rintro b ⟨k,hk,o,h1,h2⟩ hno;have hlt:=(h.objs k o h1).lt h2;refine⟨.inr ⟨hlt.1,zY1v hlt.2 hsz⟩,?_⟩;rintro⟨k',o',h3,h4⟩;by_cases hk':k'∈ks
  ·exact hno k' hk' o' h3 h4
  ·rw[hold k' hk']at h3;rw[(hlive k' ⟨o',h3⟩).2]at h4;exact hun k' o' b hk' h3 h4 k hk o h1 h2
 have hobj':=hobj hle hfree;have htmp':=htmp hle hfree;refine⟨h.below.trans hb,h.low,h.held.mono hle,hd,hs,λt sv ht=>?_,λk o ho=>?_,?_⟩
 ·rcases htmp' t sv ht with⟨h1,h2⟩|h1
  ·rw[h2];exact(h.tmps t sv h1).mono hle
  ·exact h1
 ·by_cases hk:k∈ks
  ·exact hobj' k hk o ho
  ·rw[hold k hk]at ho;refine(h.objs k o ho).mono hle ⟨o,ho⟩ λg hg=>hheap g ((h.objs k o ho).lt hg).2 (hun k o g hk ho hg)
 ·intro k k' o o' g h1 h2 h3 h4;by_cases hk:k∈ks
  ·by_cases hk':k'∈ks
   ·exact hdj k hk k' hk' o o' g h1 h2 h3 h4
   ·rw[hold k' hk']at h2;rw[(hlive k' ⟨o',h2⟩).2]at h4;rcases hown k hk o h1 g h3 with⟨k0,hk0,o0,h5,h6⟩|h5
    ·exact absurd h6 (hun k' o' g hk' h2 h4 k0 hk0 o0 h5)
    ·have:=((h.objs k' o' h2).lt h4).2;simp only[ctx]at this;omega
  ·rw[hold k hk]at h1;rw[(hlive k ⟨o,h1⟩).2]at h3;by_cases hk':k'∈ks
   ·rcases hown k' hk' o' h2 g h4 with⟨k0,hk0,o0,h5,h6⟩|h5
    ·exact absurd h6 (hun k o g hk h1 h3 k0 hk0 o0 h5)
    ·have:=((h.objs k o h1).lt h3).2;simp only[ctx]at this;omega
   ·rw[hold k' hk']at h2;rw[(hlive k' ⟨o',h2⟩).2]at h4;exact h.dj k k' o o' g h1 h2 h3 h4
end
def litB:Lit->Value->Bool
 |.i k n,.int k' n'=>decide (k=k')&&decide (n=n')&&decide (k.wrap n=n)
 |.b x,.bool y=>x==y
 |.s [],.string s=>s.size==0
 |.nil _,.slice none 0 0=>true
 |.er,.nilIface=>true
 |_,_=>false
def zli:List Lit->List Value->Bool
 | [],[]=>true
 |l::ls,v::vs=>litB l v&&zli ls vs
 |_,_=>false
theorem z096{l:Lit}{v:Value}(h:litB l v=true)(W:World)(F:Nat->Prop):Rep W F l.dt v:=by
 unfold litB at h;split at h
 ·simp only[zY0e,decide_eq_true_eq]at h;obtain⟨⟨rfl,rfl⟩,h⟩:=h;exact .i _ _ h
 ·simp only[beq_iff_eq]at h;subst h;exact .b _
 ·rename_i s;simp only[beq_iff_eq]at h;have:s=⟨([]:List UInt8).toArray⟩:=by obtain⟨⟨l⟩⟩:=s;have:l=[]:=zY0c h;subst this;rfl
  rw[this];exact .s [] zX4
 ·exact .l _ [] none 0 0 0 0 (λ_ _=>undef) rfl zX4 zX0 zX4 zX4 zX4 zX4
 ·exact .e0
 ·cases h
theorem z6z:∀ {ls:List Lit} {vs:List Value},zli ls vs=true->∀(c:Ctx),C1Rs c (ls.map λl=>.at (.c l)) vs
 | [],[],_,_=>trivial
 |l::ls,v::vs,h,c=>by simp only[zli,zY0e]at h;refine⟨C1R.of_at (λz e=>?_) ⟨l.dt,rfl,z096 h.1 _ _⟩,z6z h.2 c⟩;injection e with e;subst e;have h1:=h.1;unfold litB at h1;split at h1;all_goals first|rfl|(rename_i e;cases e)|cases h1
structure TyOk(P:Program)(t:Nat)(i:TyI):Prop where
 info:∃it,P.info? t=some it/\it.size=i.n
 row:∃d,P.underlying t=some d/\d.isRow=i.agg
 one:i.agg=false->i.n=1
 zero:i.z.length=i.n->∃it z,P.info? t=some it/\it.zero=some z/\zli i.z z.cells.toList=true
 zv:∀it z,P.info? t=some it->it.zero=some z->i.z.length=i.n->if i.agg then ∃a,z = .agg a else z.oneCell'=true
 flds:i.offs≠[]->∃fs,P.underlying t=some (.struct fs)/\fs.toList.mapM (λf=>(P.info? f.type).map λi=>(f.offset,i.size))=some i.offs/\∀p∈i.offs,0<p.2
 el:∀e sz by_,i.el=some (e,sz,by_)->P.underlying t=some (.slice e)/\∃ie z,P.info? e=some ie/\ie.zero=some z/\ie.size=sz/\ie.bytes=by_/\z.cells.size=sz/\0<sz/\sz<=1000/\by_<=10000
 bool:∀x,i.z=[.b x]->P.underlying t=some .bool
 str:i.z=[.s []]->P.underlying t=some .string
 er:i.z=[.er]->P.underlying t=some (.interface (P.methodsAt t))
 flat:i.flat=true->∃fs,P.underlying t=some (.struct fs)/\P.stoodInHeld t=false/\P.eqGuardType P.depth t=false/\fs.size=i.n/\∀(f:Nat) (fd:Field),fs.toList[f]?=some fd->fd.name ≠ "_" /\ fd.offset=f/\(∃k,P.underlying fd.type=some (.int k))/\(P.info? fd.type).map (·.size)=some 1
 ik:∀k,i.ik=some k->P.underlying t=some (.int k)
 mp:∀k e,i.mp=some (k,e)->P.underlying t=some (.map k e)/\P.underlying k=some (.int .i64)
 arr:∀len e,i.arr=some (len,e)->P.underlying t=some (.array len e)/\∃ie d,P.info? e=some ie/\ie.size=1/\P.underlying e=some d/\d.isRow=false
def tyB(P:Program)(t:Nat)(i:TyI):Bool :=
 match P.info? t,P.underlying t with
 |some it,some d =>
  it.size==i.n&&d.isRow==i.agg&&(i.agg||i.n==1) &&
  (i.z.length != i.n||match it.zero with
   |some z=>zli i.z z.cells.toList&&(match z with | .agg _=>i.agg|v => !i.agg&&v.oneCell')
   |none=>false) &&
  (i.offs.isEmpty||match d with
   |.struct fs=>decide (fs.toList.mapM (λf=>(P.info? f.type).map λi=>(f.offset,i.size))=some i.offs)&&i.offs.all λp=>decide (0<p.2)
   |_=>false) &&
  (match i.el with
   |none=>true
   |some (e,sz,by_)=>match d with
    |.slice e'=>e==e'&&match P.info? e with
     |some ie=>ie.size==sz&&ie.bytes==by_&&decide (0<sz)&&decide (sz<=1000)&&decide (by_<=10000)&&match ie.zero with
      |some z=>z.cells.size==sz
      |none=>false
     |none=>false
    |_=>false) &&
  (match i.z with
   | [.b _]=>match d with
    |.bool=>true
    |_=>false
   | [.s []]=>match d with
    |.string=>true
    |_=>false
   | [.er]=>match d with
    |.interface _=>true
    |_=>false
   |_=>true) &&
  (!i.flat||match d with
   |.struct fs => !P.stoodInHeld t && !P.eqGuardType P.depth t&&fs.size==i.n&&(fs.toList.zipIdx.all λp=>p.1.name != "_" && p.1.offset==p.2&&(match P.underlying p.1.type with
    |some (.int _)=>true
    |_=>false)&&decide ((P.info? p.1.type).map (·.size)=some 1))
   |_=>false) &&
  (match i.ik with
   |none=>true
   |some k=>match d with
    |.int k'=>decide (k=k')
    |_=>false) &&
  (match i.arr with
   |none=>true
   |some (len,e)=>match d with
    |.array len' e'=>len==len'&&e==e'&&match P.info? e,P.underlying e with
     |some ie,some de=>ie.size==1 && !de.isRow
     |_,_=>false
    |_=>false) &&
  (match i.mp with
   |none=>true
   |some (k,e)=>match d with
    |.map k' e'=>k==k'&&e==e'&&match P.underlying k with
     |some (.int .i64)=>true
     |_=>false
    |_=>false)
 |_,_=>false
theorem z0c9{P:Program}{t:Nat}{i:TyI}(h:tyB P t i=true):TyOk P t i:=by
 unfold tyB at h;split at h
 ·rename_i it d hi hu;simp only[zY0e]at h;obtain⟨⟨⟨⟨⟨⟨⟨⟨⟨⟨h1,h2⟩,h3⟩,h4⟩,h5⟩,h6⟩,h7⟩,h8⟩,h9⟩,h10⟩,h11⟩:=h;refine⟨⟨it,hi,by simpa using h1⟩,⟨d,hu,by simpa using h2⟩,λha=>?_,λhz=>?_,λit' z hi' hz' hzn=>?_,λho=>?_,λe sz by_ he=>?_,λx hx=>?_,λhx=>?_,λhx=>?_,λhf=>?_,λk hk=>?_,λk e ha=>?_,λlen e ha=>?_⟩
  ·rw[ha]at h3;simpa using h3
  ·rw[hz]at h4;simp only[bne_self_eq_false,zY38]at h4;split at h4
   ·rename_i z hz';simp only[zY0e]at h4;exact⟨it,z,hi,hz',h4.1⟩
   ·cases h4
  ·rw[hi]at hi';injection hi' with hi';subst hi';rw[hzn,hz']at h4;simp only[bne_self_eq_false,zY38,zY0e]at h4;obtain⟨_,h4⟩:=h4;split at h4
   ·rw[zP h4];exact⟨_,rfl⟩
   ·simp only[zY0e,zY2u]at h4;rw[zN (by rw[h4.1];decide)];exact h4.2
  ·simp only[zY3d,List.isEmpty_iff]at h5;rcases h5 with h5|h5
   ·exact absurd h5 ho
   ·split at h5
    ·rename_i fs;simp only[zY0e,decide_eq_true_eq]at h5;exact⟨fs,hu,h5.1,λp hp=>by simpa using zY1j.1 h5.2 p hp⟩
    ·cases h5
  ·rw[he]at h6;simp only at h6;split at h6
   ·rename_i e';simp only[zY0e,beq_iff_eq]at h6;obtain⟨rfl,h6⟩:=h6;refine⟨hu,?_⟩;split at h6
    ·rename_i ie hie;simp only[zY0e,beq_iff_eq,decide_eq_true_eq]at h6;obtain⟨⟨⟨⟨⟨a1,a2⟩,a3⟩,a4⟩,a5⟩,a6⟩:=h6;split at a6
     ·rename_i z hz;exact⟨ie,z,hie,hz,a1,a2,by simpa using a6,a3,a4,a5⟩
     ·cases a6
    ·cases h6
   ·cases h6
  ·rw[hx]at h7;simp only at h7;split at h7
   ·exact hu
   ·cases h7
  ·rw[hx]at h7;simp only at h7;split at h7
   ·exact hu
   ·cases h7
  ·rw[hx]at h7;simp only at h7;split at h7
   ·rename_i ms;rw[hu];simp[Program.methodsAt,hu]
   ·cases h7
  ·rw[hf]at h8;simp only[zY3e,zY38]at h8;split at h8
   ·rename_i fs;simp only[zY0e,zY2u,beq_iff_eq]at h8;obtain⟨⟨⟨a1,a2⟩,a3⟩,a4⟩:=h8;refine⟨fs,hu,a1,a2,a3,λf fd hfd=>?_⟩;have:=zY1j.1 a4 (fd,f) (by rw[List.mem_iff_getElem?];exact⟨f,by simp[List.getElem?_zipIdx,hfd]⟩)
    simp only[zY0e,bne_iff_ne,ne_eq,beq_iff_eq,decide_eq_true_eq]at this;obtain⟨⟨⟨b1,b2⟩,b3⟩,b4⟩:=this;refine⟨b1,b2,?_,b4⟩;split at b3
    ·rename_i k hk;exact⟨k,hk⟩
    ·cases b3
   ·cases h8
  ·rw[hk]at h9;simp only at h9;split at h9
   ·rename_i k';rw[hu,of_decide_eq_true h9]
   ·cases h9
  ·rw[ha]at h11;simp only at h11;split at h11
   ·simp only[zY0e,beq_iff_eq]at h11;obtain⟨⟨rfl,rfl⟩,h11⟩:=h11;refine⟨hu,?_⟩;split at h11
    ·assumption
    ·cases h11
   ·cases h11
  ·rw[ha]at h10;simp only at h10;split at h10
   ·rename_i len' e';simp only[zY0e,beq_iff_eq]at h10;obtain⟨⟨rfl,rfl⟩,h10⟩:=h10;refine⟨hu,?_⟩;split at h10
    ·rename_i ie de hie hde;simp only[zY0e,beq_iff_eq,zY2u]at h10;exact⟨ie,de,hie,h10.1,hde,h10.2⟩
    ·cases h10
   ·cases h10
 ·cases h
def tabB(P:Program)(tab:zld):Bool:=tab.all λp=>tyB P p.1 p.2
theorem zoi{l:List (Nat×β)}{v:β}(h:l.lookup k=some v):(k,v)∈l:=by
 induction l with
 |nil=>cases h
 |cons p l ih =>
  obtain⟨a,b⟩:=p;rw[List.lookup_cons]at h;split at h
  ·rename_i he;simp only[beq_iff_eq]at he;injection h with h;subst he;subst h;exact zY0i ..
  ·exact zY0h _ (ih h)
theorem z0et{P:Program}{tab:zld}(h:tabB P tab=true){t:Nat}{i:TyI}(ht:tab.lookup t=some i):TyOk P t i :=
 z0c9 (zY1j.1 h (t,i) (zoi ht))
section
variable {P:Program} {t:Nat} {i:TyI} {W:World}
theorem TyOk.loadAgg(h:TyOk P t i)(ha:i.agg=true){cs:List Value}(hl:cs.length=i.n)(hv:W.rangeAt b o cs):(loadVar t ⟨b,o,none⟩).run P W=.ok (.agg cs.toArray) W:=by obtain⟨d,hu,hd⟩:=h.row;obtain⟨it,hi,hn⟩:=h.info;exact run_loadVar_mid W b o t cs d hv hu (by rw[hd,ha]) (by rw[hi,hl,<- hn];rfl)
theorem TyOk.loadOne(h:TyOk P t i)(ha:i.agg=false){v:Value}(hv:W.cell? p=some v):(loadVar t p).run P W=.ok v W:=by
 obtain⟨d,hu,hd⟩:=h.row;have hagg:(isAgg t).run P W=.ok false W:=by unfold isAgg;rw[Sem.run_bind,run_underlying hu W];rw[ha]at hd;cases d<;>simp_all
 simp[loadVar,Sem.run_bind,hagg,hv]
theorem TyOk.store(h:TyOk P t i){v:Value}{cs:List Value}(hc:v.cells=cs.toArray)(hv:v=.agg cs.toArray\/v.oneCell'=true)(hl:cs.length=i.n)(ht:W.there b o cs.length)(h1:∀u∈cs,u.oneCell'=true) :
  (storeVar t ⟨b,o,none⟩ v).run P W=.ok () (W.setCells b o cs):=by
 obtain⟨it,hi,hn⟩:=h.info;have:=run_storeVar_mid (P:=P) W b o t cs.toArray zX13 (by rw[hi];simp[hn,hl]) (by simp only[List.all_toArray,zY1j];exact h1);have e:storeVar t ⟨b,o,none⟩ v=storeVar t ⟨b,o,none⟩ (.agg cs.toArray):=by unfold storeVar;rw[hc];rfl
 rw[e,this]
theorem TyOk.zeroRun(h:TyOk P t i)(hz:i.z.length=i.n):∃z:Value,(∀W,(zeroValue t).run P W=.ok z W)/\zli i.z z.cells.toList=true:=by obtain⟨it,z,hi,hz',hl⟩:=h.zero hz;exact⟨z,λW=>by simp[zeroValue,typeInfo,hi,hz'],hl⟩
theorem z01j{α β:Type}{g:α->Option β}:∀ {l:List α} {r:List β},l.mapM g=some r->∀ {j:Nat} {y:β},r[j]?=some y->∃x,l[j]?=some x/\g x=some y
 | [],r,h,j,y,hy=>by simp at h;subst h;cases hy
 |x::l,r,h,j,y,hy=>by
  simp only[List.mapM_cons,zY0a,zY1e]at h;cases hx:g x with
  |none=>simp[hx]at h
  |some q =>
   cases hl:l.mapM g with
   |none=>simp[hx,hl]at h
   |some r' =>
    simp[hx,hl]at h;subst h;cases j with
    |zero=>simp at hy;subst hy;exact⟨x,rfl,hx⟩
    |succ j=>simpa using z01j hl (j:=j) zXu
theorem TyOk.fieldAt(h:TyOk P t i){fz:Nat}(hf:i.offs[f]?=some (off,fz))(b o:Nat):(Instr.fieldAt t (.pointer (some ⟨b,o,none⟩)) f).run P W=.ok (.pointer (some ⟨b,o+off,none⟩)) W:=by
 obtain⟨fs,hu,hm,hp⟩:=h.flds (by intro e;rw[e]at hf;cases hf);obtain⟨fd,hfd,he⟩:=z01j hm hf;have hpos:=hp _ (zY06 hf);cases hj:P.info? fd.type with
 |none=>rw[hj]at he;cases he
 |some j =>
  rw[hj]at he;simp only[zY1i,zY00,zY19]at he;obtain⟨h1,h2⟩:=he;have hfd':fs[f]?=some fd:=by simpa using hfd
  have hne:¬j.size=0:=by simp only at hpos;omega
  simp[Instr.fieldAt,run_underlying hu,hfd',Instr.sureAddr,fieldPlace,sizeOf,typeInfo,hj,hne,h1,Addr.add_mid]
theorem TyOk.indexAt(h:TyOk P t i)(he:i.el=some (e,sz,by_)){k:IntKind}{x:Int}(h0:0<=x)(h1:x<n) :
  (Instr.indexAt t (.slice (some ⟨b,o,none⟩) n c) (.int k x)).run P W=.ok (.pointer (some ⟨b,o+x.toNat*sz,none⟩)) W:=by
 obtain⟨hu,ie,z,hie,_,hs,_⟩:=h.el e sz by_ he;have:(0<=x/\x<n):=⟨h0,h1⟩
 simp[Instr.indexAt,asIntOf,run_underlying hu,sizeOf,typeInfo,hie,hs,this,Addr.add_mid]
theorem TyOk.indexArr(h:TyOk P t i){len:Nat}(he:i.arr=some (len,e)){k:IntKind}{x:Int}(h0:0<=x)(h1:x<len) :
  (Instr.indexAt t (.pointer (some ⟨b,o,none⟩)) (.int k x)).run P W=.ok (.pointer (some ⟨b,o+x.toNat,none⟩)) W:=by
 obtain⟨hu,ie,d,hie,hs,_⟩:=h.arr len e he;have:(0<=x/\x<len):=⟨h0,h1⟩
 simp[Instr.indexAt,asIntOf,run_underlying hu,sizeOf,typeInfo,hie,hs,this,Addr.add_mid,Instr.sureAddr]
end
theorem z0ca(a:Act)(dst:Option Nat)(v:Value)(t:Nat):(a.put dst v).tmps.getD t undef=if dst=some t/\t<a.tmps.size then v else a.tmps.getD t undef:=by
 cases dst with
 |none=>simp[Act.put]
 |some d =>
  simp only[Act.put,zY0s,zY20,zY00];by_cases h:d=t
  ·subst h;by_cases h2:d<a.tmps.size
   ·simp[h2]
   ·simp[h2]
  ·simp[h]
theorem z098(a:Act)(dst:Option Nat)(v:Value):(a.put dst v).tmps.size=a.tmps.size:=by cases dst<;>simp[Act.put]
theorem z030(a:Act)(dst:Option Nat)(v:Value):(a.put dst v).defers=a.defers:=by cases dst<;>rfl
theorem z1f(τ:List SV)(ω:List (Option Ob))(a b:List Wr):wr τ ω (a++b)=wr (wr τ ω a).1 (wr τ ω a).2 b:=by
 induction a generalizing τ ω with
 |nil=>rfl
 |cons x a ih=>cases x<;>exact ih _ _
def upd(ρ:Nat->Value)(k:Nat)(v:Value):Nat->Value:=λj=>if j=k then v else ρ j
theorem z1g(ρ:Nat->Value)(k:Nat)(v:Value):upd ρ k v k=v:=by simp[upd]
theorem zgf(ρ:Nat->Value)(v:Value)(h:j≠k):upd ρ k v j=ρ j:=by simp[upd,h]
theorem z2t(g:Nat):∀(us:List Value) (o:Nat) (W:World) (b:Nat),b≠g->(W.setCells g o us).heap[b]?=W.heap[b]?
 | [],_,_,_,_=>rfl
 |v::us,o,W,b,hb=>by rw[World.setCells,z2t g us _ _ b hb];exact Below.heap_setCell _ _ _ _ hb
theorem z4d(g:Nat):∀(us:List Value) (o:Nat) (W:World),(W.setCells g o us).os=W.os/\(W.setCells g o us).tape=W.tape/\(W.setCells g o us).output=W.output/\(W.setCells g o us).heap.size=W.heap.size
 | [],_,_=>⟨rfl,rfl,rfl,rfl⟩
 |v::us,o,W=>by rw[World.setCells];obtain⟨h1,h2,h3,h4⟩:=z4d g us (o+1) (W.setCell ⟨g,o,none⟩ v);exact⟨h1,h2,h3,by rw[h4];simp[World.setCell]⟩
theorem z2k{g t:Nat}:∀(us:List Value) (o:Nat) (W:World) (vs:List Value),W.heap[g]?=some (.cells vs.toArray t (0,0))->(W.setCells g o us).heap[g]?=some (.cells (z2c vs o us).toArray t (0,0))
 | [],_,_,_,h=>h
 |v::us,o,W,vs,h=>by rw[World.setCells,z2c];refine z2k us (o+1) _ _ ?_;simp[World.setCell,zY2l,h]
theorem ze9{W:World}{B:Nat}{us:List Value}(hB:B<=g):Below B W (W.setCells g o us):=by obtain⟨h1,h2,h3,h4⟩:=z4d g us o W;exact⟨h1,h2,h3,by omega,λk hk=>z2t g us o W k zX0⟩
theorem z2g:∀(us vs:List Value) (o:Nat),(z2c vs o us).length=vs.length
 | [],_,_=>rfl
 |_::us,vs,o=>by rw[z2c,z2g us];simp
theorem zja{W:World}{vs:List Value}{fr:Nat×Nat}(h:W.heap[g]?=some (.cells vs.toArray t (0,0)))(hn:o+n<=vs.length):W.there g o n:=by intro j hj;refine⟨?_,frozen_of_row W g (o+j) _ t h⟩;rw[cell_of_row W g (o+j) _ t (0,0) h];simp[show o+j<vs.length by omega]
theorem zhd{xs:List (List Dt)}(h:∀x∈xs,x.length=sz){i:Nat}{x:List Dt}{d:Dt}(hx:xs[i]?=some x)(hd:x[j]?=some d):xs.flatten[i*sz+j]?=some d:=by
 induction xs generalizing i with
 |nil=>cases hx
 |cons y xs ih =>
  have hy:=h y (zY0i ..);cases i with
  |zero =>simp at hx;subst hx;have:=(zY02.1 hd).1;rw[zY1q,zY3s,zY0z,zY0l this];exact hd
  |succ i =>rw[zY1q,zY0q (by rw[hy,zY21];omega),hy,show(i+1)*sz+j-sz=i*sz+j by rw[zY21];omega];exact ih (λz hz=>h z (zY0h _ hz)) zXo
theorem zlj{W:World}{v:Value}{xs:List (List Dt)}{vs:List Value}(h1:∀x∈xs,x.length=sz)(h2:W.ownsRow base e sz v xs.length vs)(h3:Reps W F xs.flatten vs)
  (hF:∀b,F b->F' b) (hg:∀g,v.ownBlock=some g->F' g):Rep W F' (.l sz xs) v:=by
 rcases h2.2 with⟨rfl,h0⟩|⟨g,cap,cur,rfl,hb,hh,hnc,hcm,hcs,ht⟩
 ·have:xs=[]:=zY0c h0;subst this;exact .l sz [] none 0 0 0 0 (λ_ _=>undef) rfl zX4 zX0 zX4 zX4 zX4 zX4
 ·have key:∀i j x d,xs[i]?=some x->x[j]?=some d->∃u,vs[i*sz+j]?=some u/\Rep W F d u:=λi j x d hx hd=>h3.get (zhd h1 hx hd);refine .l sz xs _ _ cap g 0 (λi j=>vs.getD (i*sz+j) undef) rfl hnc (by unfold maxLen at hcm;omega) h1 (λ_=>⟨rfl,hg g rfl⟩) (λi j x d hx hd=>?_) (λi j x d hx hd=>?_)
  ·obtain⟨u,hu,_⟩:=key i j x d hx hd;have hlt:i*sz+j<vs.length:=(zY02.1 hu).1;rw[cell_of_row W g _ cur e (0,0) hh,zY0z];have:(cur.toList.take (xs.length*sz))[i*sz+j]?=some u:=by rw[ht];exact hu
   rw[zY17]at this;split at this
   ·simp only[zY0r,hu,zY1f];simpa using this
   ·cases this
  ·obtain⟨u,hu,hr⟩:=key i j x d hx hd;simp only[zY0r,hu,zY1f];exact hr.mono (λ_ _=>rfl) hF
section
variable {w0 W W':World} {F0:Bk} {E:Env} {τ:List SV} {ω:List (Option Ob)} {a:Act} {ρ:Nat->Value}
theorem Sim.dst(h:Sim w0 F0 E τ ω a W ρ)(o:Oper){sv:SV}{v:Value}(hr:SVR (ctx w0 F0 E ω ρ W) sv v):Sim w0 F0 E (wr τ ω (z07 o sv)).1 (wr τ ω (z07 o sv)).2 (a.put o.dst v) W ρ:=by
 unfold z07;cases hd:o.dst with
 |none=>simpa[wr,Act.put]using h
 |some d =>
  refine⟨h.below,h.low,h.held,by rw[z030];exact h.defers,by rw[z098];simpa[wr]using h.size,λt sv' ht=>?_,h.objs,h.dj⟩;simp only[wr]at ht;rw[z0ca];rw[zY2e]at ht;by_cases e:d=t
  ·subst e;rw[zP rfl]at ht;split at ht
   ·rename_i hlt;injection ht with ht;subst ht;rw[zP ⟨rfl,by rw[h.size];exact hlt⟩];exact hr
   ·cases ht
  ·rw[zN e]at ht;rw[zN (by simp[e])];exact h.tmps t sv' ht
theorem Sim.env(h:Sim w0 F0 E τ ω a W ρ){E':Env}(hE:∀x d,Atom.val E x=some d->Atom.val E' x=some d):Sim w0 F0 E' τ ω a W ρ:=by
 have hle:(ctx w0 F0 E ω ρ W).Le (ctx w0 F0 E' ω ρ W):=⟨λ_ _=>rfl,λ_ x=>x,hE,λk hk=>⟨hk,rfl⟩⟩
 exact⟨h.below,h.low,h.held.mono hle,h.defers,h.size,λt sv ht=>(h.tmps t sv ht).mono hle,λk o ho=>(h.objs k o ho).mono hle ⟨o,ho⟩ (λ_ _=>rfl),h.dj⟩
theorem Sim.belows(h:Sim w0 F0 E τ ω a W ρ)(hb:Below W.heap.size W W'):Sim w0 F0 E τ ω a W' ρ :=
 h.gen [] (hb.mono h.bsz) h.defers h.size (λ_ _=>rfl) (λ_ hk=>⟨hk,rfl⟩) (λb hlt _=>hb.block b hlt) (λ_ hk=>by cases hk) (λ_ hk=>by cases hk) (λ_ _ _ hk=>by cases hk) (λ_ _ t sv ht=>.inl ⟨ht,rfl⟩)
theorem Sim.drew(h:Sim w0 F0 E τ ω a W ρ):Sim w0 F0 E τ ω a { W with drawn:=W.drawn+1 } ρ:=h.belows ⟨rfl,rfl,rfl,zY0k _,λ_ _=>rfl⟩
theorem z6h{ω:List (Option Ob)}{o:Ob}(hk:k<ω.length)(h:live ω j):live (ω.set k (some o)) j:=by
 obtain⟨q,hq⟩:=h;by_cases e:k=j
 ·subst e;exact⟨o,by simp[hk]⟩
 ·exact⟨q,by rw[zY0j e];exact hq⟩
theorem Sim.new(h:Sim w0 F0 E τ ω a W ρ)(hk:ω[k]?=some none)(hg:Below W.heap.size W W')(o:Ob)(v:Value)(hown:∀b,own o v=some b->W.heap.size<=b)
  (hob:(ctx w0 F0 E ω ρ W).Le (ctx w0 F0 E (ω.set k (some o)) (upd ρ k v) W')->ObR (ctx w0 F0 E (ω.set k (some o)) (upd ρ k v) W') w0.heap.size k o) :
  Sim w0 F0 E τ (ω.set k (some o)) a W' (upd ρ k v):=by
 have hlt:=(zY02.1 hk).1;have hne:∀j,live ω j->j≠k:=λj ⟨q,hq⟩ e=>by subst e;rw[hk]at hq;cases hq
 refine h.gen [k] (hg.mono h.bsz) h.defers h.size (λj hj=>zY0j (by simpa using λe=>hj (by simp[e]))) (λj hj=>⟨z6h hlt hj,zgf _ _ (hne j hj)⟩) (λb hb _=>hg.block b hb) ?_ ?_ ?_ (λ_ _ t sv ht=>.inl ⟨ht,rfl⟩)
 ·intro j hj o' ho' b hb;simp only[zY12]at hj;subst hj;rw[zY0f hlt]at ho';simp only[zY00]at ho';subst ho';rw[z1g]at hb;exact .inr (hown b hb)
 ·intro j hj j' hj' _ _ _ _ _ _ _;simp only[zY12]at hj hj';rw[hj,hj']
 ·intro hle _ j hj o' ho';simp only[zY12]at hj;subst hj;rw[zY0f hlt]at ho';simp only[zY00]at ho';subst ho';exact hob hle
theorem Sim.alloc(h:Sim w0 F0 E τ ω a W ρ)(hk:ω[k]?=some none)(t:Nat){cs:List C1}{vs:List Value}(hc:C1Rs (ctx w0 F0 E ω ρ W) cs vs) :
  Sim w0 F0 E τ (ω.set k (some (.box t cs))) a (W.alloc (.cells vs.toArray t)) (upd ρ k (.pointer (some ⟨W.heap.size,0,none⟩))) :=
 h.new hk ((Below.refl _ _).alloc (zY0k _) _) _ _ (λb hb=>by simp only[own,zY00]at hb;omega)
  (λhle=>⟨W.heap.size,vs,z1g _ _ _,h.bsz,heap_alloc_new W _,hc.mono hle⟩)
theorem Sim.sameBlock(h:Sim w0 F0 E τ ω a W ρ){o o':Ob}(hk:ω[k]?=some (some o))(hb:Below w0.heap.size W W')(hheap:∀b,own o (ρ k)≠some b->W'.heap[b]?=W.heap[b]?)(hown:∀b,own o' (ρ k)=some b->own o (ρ k)=some b)
  (hob:(ctx w0 F0 E ω ρ W).Le (ctx w0 F0 E (ω.set k (some o')) ρ W')->(∀b,own o (ρ k)=some b->own o' (ρ k)≠some b->Frr w0 F0 (ω.set k (some o')) ρ W' b)->ObR (ctx w0 F0 E (ω.set k (some o')) ρ W') w0.heap.size k o') :
  Sim w0 F0 E τ (ω.set k (some o')) a W' ρ:=by
 have hlt:=(zY02.1 hk).1;refine h.gen [k] hb h.defers h.size (λj hj=>zY0j (by simpa using λe=>hj (by simp[e]))) (λj hj=>⟨z6h hlt hj,rfl⟩) (λb _ hno=>hheap b (hno k zX4 o hk)) ?_ ?_ ?_ (λ_ _ t sv ht=>.inl ⟨ht,rfl⟩)
 ·intro j hj q hq b hb';simp only[zY12]at hj;subst hj;rw[zY0f hlt]at hq;simp only[zY00]at hq;subst hq;exact .inl ⟨j,by simp,o,hk,hown b hb'⟩
 ·intro j hj j' hj' _ _ _ _ _ _ _;simp only[zY12]at hj hj';rw[hj,hj']
 ·intro hle hfree j hj q hq;simp only[zY12]at hj;subst hj;rw[zY0f hlt]at hq;simp only[zY00]at hq;subst hq;refine hob hle λb h1 h2=>hfree b ⟨j,by simp,o,hk,h1⟩ ?_;intro i hi q hq;simp only[zY12]at hi;subst hi;rw[zY0f hlt]at hq;simp only[zY00]at hq;subst hq;exact h2
theorem Sim.freeze(h:Sim w0 F0 E τ ω a W ρ){x:Atom}(hk:ω[k]?=some (some (.row e sz x))) :
  Sim w0 F0 E τ (ω.set k (some (.frz x))) a W ρ/\(ctx w0 F0 E ω ρ W).Le (ctx w0 F0 E (ω.set k (some (.frz x))) ρ W):=by
 have hlt:=(zY02.1 hk).1;obtain⟨xs,vs,h1,h2,h3,h4⟩:=h.objs k _ hk;refine⟨h.sameBlock hk (Below.refl _ _) (λ_ _=>rfl) (λb hb=>by simp only[own]at hb;cases hb) λhle hfr=>?_,?_⟩
 ·exact⟨.l sz xs,h1,zlj h2 h3 h4 (λb hb=>hle.more b hb) (λg hg=>hfr g (by simpa[own,ctx]using hg) (by simp[own]))⟩
 ·refine⟨λ_ _=>rfl,λb hb=>⟨hb.1,?_⟩,λ_ _ x=>x,λj hj=>⟨z6h hlt hj,rfl⟩⟩;rintro⟨j,o,h5,h6⟩;by_cases e:k=j
  ·subst e;rw[zY0f hlt]at h5;simp only[zY00]at h5;subst h5;simp only[own]at h6;cases h6
  ·rw[zY0j e]at h5;exact hb.2 ⟨j,o,h5,h6⟩
theorem Sim.store(h:Sim w0 F0 E τ ω a W ρ){cs ys:List C1}{us:List Value}(hk:ω[k]?=some (some (.box t cs)))(hc:C1Rs (ctx w0 F0 E ω ρ W) ys us)(hg:ρ k=.pointer (some ⟨g,0,none⟩)) :
  Sim w0 F0 E τ (ω.set k (some (.box t (zqp cs off ys)))) a (W.setCells g off us) ρ:=by
 obtain⟨g',vs,h1,h2,h3,h4⟩:=h.objs k _ hk;have e:g'=g:=by simp only[ctx]at h1;rw[hg]at h1;simp only[Value.pointer.injEq,zY00,Addr.mk.injEq]at h1;exact h1.1.symm
 subst e;refine h.sameBlock hk (ze9 h2) (λb hb=>z2t _ _ _ _ _ (λe=>hb (by rw[hg,e];rfl))) (λb hb=>by rw[hg]at hb⊢;exact hb) λhle _=>?_;exact⟨g',z2c vs off us,hg,h2,z2k us off W vs h3,(h4.setAll off hc).mono hle⟩
end
theorem run_bind{α β:Type}(τ:List SV)(ω:List (Option Ob)):∀(m:Rd α) (f:α->Rd β),(m >>= f).run τ ω=(m.run τ ω).bind λx=>(f x).run τ ω
 |.pure a,f=>rfl
 |.fail,f=>rfl
 |.t i k,f=>by
  show(Rd.t i λx=>(k x).bind f).run τ ω=_;simp only[Rd.run];cases τ[i]? with
  |none=>rfl
  |some x=>exact run_bind τ ω (k x) f
 |.o i k,f=>by
  show(Rd.o i λx=>(k x).bind f).run τ ω=_;simp only[Rd.run];cases ω[i]? with
  |none=>rfl
  |some x=>exact run_bind τ ω (k x) f
section
variable {τ:List SV} {ω:List (Option Ob)}
theorem run_pure(x:α):(pure x:Rd α).run τ ω=some x:=rfl
theorem zvl(i:Nat):(rT i).run τ ω=τ[i]?:=by simp only[rT,Rd.run];cases τ[i]?<;>rfl
theorem z2y(i:Nat):(rO i).run τ ω=ω[i]?:=by simp only[rO,Rd.run];cases ω[i]?<;>rfl
theorem z0l(x:Option α):(ofO x).run τ ω=x:=by cases x<;>rfl
theorem run_ite(c:Prop)[Decidable c](x y:Rd α):(if c then x else y).run τ ω=if c then x.run τ ω else y.run τ ω:=by split<;>rfl
end
theorem z05h{v:Value}{l:Lit}(h:zvc sz v=some l)(W:World)(F:Nat->Prop):Rep W F l.dt v:=by
 unfold zvc at h;split at h
 ·split at h
  ·injection h with h;subst h;exact .i _ _ ‹_›
  ·cases h
 ·injection h with h;subst h;exact .b _
 ·rename_i s;split at h
  ·injection h with h;subst h;have e:s=⟨(s.data.toList).toArray⟩:=by obtain⟨⟨l⟩⟩:=s;rfl
   have hl:s.data.toList.length=s.size:=by rw[zY2h];rfl
   have hr:Rep W F (.s s.data.toList) (.string ⟨(s.data.toList).toArray⟩):=.s _ zX0;rw[<- e]at hr;exact hr
  ·cases h
 ·injection h with h;subst h;exact .l _ [] none 0 0 0 0 (λ_ _=>undef) rfl zX4 zX0 zX4 zX4 zX4 zX4
 ·injection h with h;subst h;exact .e0
 ·cases h
section
variable {P:Program} {w0 W:World} {F0:Bk} {E:Env} {τ:List SV} {ω:List (Option Ob)} {a:Act} {ρ:Nat->Value} {cx:Cx}
theorem z5h(h:Sim w0 F0 E τ ω a W ρ){x:Operand}{sv:SV}(hr:(evR cx ty x).run τ ω=some sv):SVR (ctx w0 F0 E ω ρ W) sv (a.eval x):=by
 unfold evR at hr;cases x with
 |tmp t=>simp only[zvl]at hr;exact h.tmps t sv hr
 |const v =>
  simp only[run_bind,z0l,run_pure,zY01,zY00]at hr;obtain⟨l,hl,rfl⟩:=hr;refine C1R.of_at (λz e=>?_) ⟨l.dt,rfl,z05h hl _ _⟩;injection e with e;subst e;unfold zvc at hl;split at hl
  ·split at hl<;>cases hl
  ·cases hl
  ·split at hl<;>cases hl
  ·rfl
  ·cases hl
  ·cases hl
 |func f =>simp only[run_pure,zY00]at hr;subst hr;exact⟨[],rfl,trivial⟩
 |global g=>cases hr
theorem z35(h:Sim w0 F0 E τ ω a W ρ){x:Operand}{c:C1}(hr:(evC cx ty x).run τ ω=some c):C1R (ctx w0 F0 E ω ρ W) c (a.eval x):=by
 unfold evC at hr;simp only[run_bind,zY01]at hr;obtain⟨sv,h1,h2⟩:=hr;have:=z5h h h1;cases sv with
 |one c'=>simp only[run_pure,zY00]at h2;subst h2;exact this
 |agg cs=>cases h2
 |tup ps=>cases h2
theorem z36(h:Sim w0 F0 E τ ω a W ρ){x:Operand}{c:Atom}(hr:(evA cx ty x).run τ ω=some c):∃d,c.val E=some d/\Rep W (Frr w0 F0 ω ρ W) d (a.eval x):=by
 unfold evA at hr;simp only[run_bind,zY01]at hr;obtain⟨sv,h1,h2⟩:=hr;have:=z35 h h1;cases sv with
 | «at» c'=>simp only[run_pure,zY00]at h2;subst h2;exact this.at_
 |_=>cases h2
def Facts(sp:Nat->zd)(E:Env)(n:Nat)(e:Eff):Prop:=(∀j x,e.xs[j]?=some x->∃d,denX sp E x=some d/\E[n+j]?=some d)/\∀x∈e.ck,denX sp E x=some (.b true)
def KnM(E:Env)(k:Nat)(b:Bool):Prop:=if k<knB then E[k]?=some (.b b)else ∃n:Int,E[(k/knB-1)/4096]?=some (.i .i64 n)/\E[k%knB]?=some (.b (decide (n=(((k/knB-1)%4096:Nat):Int))))
def KnOk(E:Env)(kn:List (Nat×Bool)):Prop:=∀v b,(v,b)∈kn->KnM E v b
theorem KnOk.at_{E:Env}(hk:KnOk E kn){v:Nat}{b:Bool}(h:kn.lookup v=some b)(hv:v<knB):E[v]?=some (.b b):=by
 have:=hk _ _ (zoi h);unfold KnM at this
 rwa [zP hv]at this
theorem zgg(hk:KnOk E kn){x:Atom}{b:Bool}(h:evB kn x=some b):x.val E=some (.b b):=by
 unfold evB at h;split at h
 ·injection h with h;subst h;rfl
 ·split at h
  ·cases h
  ·rename_i n hn;exact hk.at_ h (by rw[Nat.ble_eq]at hn;omega)
 ·cases h
theorem zmz{E:Env}{s:St}(hk:KnOk E s.kn){v:Nat}{b:Bool}(hb:E[v]?=some (.b b)):KnOk E (learn s v b).kn:=by
 unfold learn;simp only;split
 ·exact hk
 ·rename_i hn;intro v' b' hm;rcases zY0g.1 hm with h|h
  ·injection h with h1 h2;subst h1;subst h2;unfold KnM;rw[Nat.ble_eq]at hn;rw[zP zX0];exact hb
  ·exact hk v' b' h
theorem zvm{E:Env}{all:List (Nat×Bool)}(hk:KnOk E all){a m:Nat}{r:Bool}:∀ {l:List (Nat×Bool)},(∀p∈l,p∈all)->eqK all a m l=some r->∃n:Int,E[a]?=some (.i .i64 n)/\decide (n=(m:Int))=r
 | [],_,h=>by cases h
 |(k,q)::l,hl,h=>by
  have ih:=λh=>zvm hk (a:=a) (m:=m) (r:=r) (l:=l) (λp hp=>hl p (zY0h _ hp)) h;unfold eqK at h;split at h
  ·rename_i h1;split at h
   ·rename_i h2;have hkm:=hk k q (hl _ (zY0i ..));unfold KnM at hkm;rw[Nat.ble_eq]at h1;rw[zN zX0]at hkm;obtain⟨n,g1,g2⟩:=hkm;rw[zY11 h2]at g1;have hlt:k%knB<knB:=Nat.mod_lt _ zX9;split at h
    ·rename_i hlk;have:=hk.at_ hlk hlt;rw[g2]at this;simp only[zY00,Dt.b.injEq,decide_eq_true_eq]at this;injection h with h;refine⟨n,g1,?_⟩;rw[<- h,this];generalize(k/knB-1)%4096=z;by_cases e:z=m
     ·subst e;simp
     ·rw[decide_eq_false zX0];cases hb:Nat.beq z m with
      |true=>exact absurd (zY11 hb) e
      |false=>rfl
    ·rename_i hlk;split at h
     ·rename_i h3;have:=hk.at_ hlk hlt;rw[g2]at this;simp only[zY00,Dt.b.injEq,decide_eq_false_iff_not]at this;injection h with h;refine⟨n,g1,?_⟩;rw[<- h,<- zY11 h3,decide_eq_false this]
     ·exact ih h
    ·exact ih h
   ·exact ih h
  ·exact ih h
theorem z0cb{E:Env}(hk:KnOk E kn){op:BinOp}{a b:Atom}(h:eqKn kn op a b=some r){dx dy:Dt}(hx:a.val E=some dx)(hy:b.val E=some dy):zbn op dx dy=some (.b r):=by
 unfold eqKn at h;split at h
 ·rename_i av m;obtain⟨n,g1,g2⟩:=zvm hk (λ_ h=>h) h;simp only[Atom.val,Lit.dt,zY00]at hx hy;rw[g1]at hx;injection hx with hx;subst hx;subst hy;simp only[zbn,if_true,zmw];rw[<- g2];rfl
 ·rename_i av m;rw[zY0t]at h;obtain⟨q,h,rfl⟩:=h;obtain⟨n,g1,g2⟩:=zvm hk (λ_ h=>h) h;simp only[Atom.val,Lit.dt,zY00]at hx hy;rw[g1]at hx;injection hx with hx;subst hx;subst hy;simp only[zbn,if_true,zmw];rw[<- g2];rfl
 ·cases h
theorem z01k{E:Env}{sp:Nat->zd}{cx:Cx}{e:Eff}(hk:KnOk E kn)(hf:Facts sp E n e):KnOk E (zqr cx n e.xs kn):=by
 unfold zqr;split
 ·split
  ·rename_i a m hxs;split
   ·exact hk
   ·rename_i hn;simp only[not_or,Nat.ble_eq]at hn;obtain⟨d,h1,h2⟩:=hf.1 0 _ (by rw[hxs];rfl);rw[zY28]at h2;simp only[denX,zY0a,zY01]at h1;obtain⟨dx,hx,dy,hy,hd⟩:=h1;simp only[Atom.val,Lit.dt,zY00]at hx hy;subst hy;intro v' b' hm;rcases zY0g.1 hm with h|h
    ·injection h with h3 h4;subst h3;subst h4;have e1:(((a*4096+m)+1)*knB+n)/knB=(a*4096+m)+1:=by rw[Nat.add_comm,Nat.add_mul_div_right _ _ zX9,Nat.div_eq_of_lt zX0,zY0z]
     have e2:(((a*4096+m)+1)*knB+n)%knB=n:=by rw[Nat.add_comm,Nat.add_mul_mod_self_right,Nat.mod_eq_of_lt zX0]
     show KnM E (((a*4096+m)+1)*knB+n) true;unfold KnM;rw[zN (by have:knB<=((a*4096+m)+1)*knB:=Nat.le_mul_of_pos_left _ zX0;omega),e1,e2,zY30,show(a*4096+m)/4096=a by omega,show(a*4096+m)%4096=m by omega];cases dx with
     |i k z =>
      simp only[zbn]at hd;split at hd
      ·rename_i hkk;subst hkk;simp only[zmw,zY00]at hd;subst hd;exact⟨z,hx,h2⟩
      ·cases hd
     |_=>cases hd
    ·exact hk v' b' h
  ·exact hk
 ·exact hk
theorem z3n{W:World}{k:IntKind}{n:Int}{v:Value}(h:Rep W F (.i k n) v):v=.int k n/\k.wrap n=n:=by cases h;exact⟨rfl,‹_›⟩
theorem z82{W:World}{x:Bool}{v:Value}(h:Rep W F (.b x) v):v=.bool x:=by cases h;rfl
theorem zoj{W:World}{x:List UInt8}{v:Value}(h:Rep W F (.s x) v):v=.string ⟨x.toArray⟩/\x.length<=9223372036854775807:=by cases h;exact⟨rfl,‹_›⟩
theorem z2z{x:Option Dt}{n:Int}(h:asI x=some n):x=some (.i .i64 n):=by
 unfold asI at h;split at h
 ·injection h with h;subst h;rfl
 ·cases h
theorem zr{o:Oper}{v:Value}{K:Act->World->Prop}{Q:Exit->Act->World->Prop}(hr:(execOp a.eval o).run P W=.ok (.value v) W')(hk:K (a.put o.dst v) W'):o.wp P a W K Q:=by unfold Oper.wp;rw[hr];exact hk
theorem zhe{o:Oper}{K:Act->World->Prop}{Q:Exit->Act->World->Prop}(hr:(execOp a.eval o).run P W=.ok .skip W')(hk:K (a.put o.dst undef) W'):o.wp P a W K Q:=by unfold Oper.wp;rw[hr];exact hk
def z2h(w0:World)(F0:Bk)(E:Env)(τ:List SV)(ω:List (Option Ob))(ws:List Wr)(a':Act)(W':World):Prop:=∃ρ',Sim w0 F0 E (wr τ ω ws).1 (wr τ ω ws).2 a' W' ρ'
theorem Sim.goes(h:Sim w0 F0 E τ ω a W ρ)(o:Oper){sv:SV}{v:Value}(hr:SVR (ctx w0 F0 E ω ρ W) sv v):z2h w0 F0 E τ ω (z07 o sv) (a.put o.dst v) W:=⟨ρ,h.dst o hr⟩
end
theorem zdg(k:IntKind)(n:Int):k.wrap (k.wrap n)=k.wrap n:=by unfold IntKind.wrap;cases k<;>simp only[IntKind.bits,IntKind.signed,zY39,zY3o,zY0x,if_false,ge_iff_le,decide_eq_true_eq]<;>(try split)<;>(try split)<;>omega
theorem z0cc(k:IntKind){x:Int}(y:Int)(h:k.wrap x=x):k.wrap (x.tmod y)=x.tmod y:=by
 have h0:(x.tmod y).natAbs<=x.natAbs:=by rw[Int.natAbs_tmod];exact Nat.mod_le _ _
 have h1:0<=x->0<=x.tmod y/\x.tmod y<=x:=λhx=>by have:=zY3u y hx;omega
 have h2:x<=0->x<=x.tmod y/\x.tmod y<=0:=λhx=>by
  have e:x.tmod y= -((-x).tmod y):=by rw[Int.neg_tmod];omega
  have a1:=zY3u y (show 0 <= -x by omega);omega
 clear h0;generalize x.tmod y=z at *;unfold IntKind.wrap at *;cases k<;>simp only[IntKind.bits,IntKind.signed,zY39,zY3o,zY0x,if_false,ge_iff_le,decide_eq_true_eq]at * <;> (try split at h)<;>(try split)<;>omega
theorem zvn{P:Program}{W:World}{op:BinOp}{t:TypeId}{x y:Dt}{u v:Value}{d:Dt}(hx:Rep W F x u)(hy:Rep W F y v)(h:zbn op x y=some d):∃z,(binOp op t u v).run P W=.ok z W/\Rep W F d z:=by
 unfold zbn at h;split at h
 ·rename_i k n k' m;obtain⟨rfl,hn⟩:=z3n hx;obtain⟨rfl,hm⟩:=z3n hy;split at h
  ·rename_i hk;subst hk;unfold zmw at h;cases op<;>simp only[reduceCtorEq]at h<;>first
    |(injection h with h;subst h;exact⟨_,by simp[binOp,Op.intArith,Op.intCmp],.i _ _ (zdg _ _)⟩)
    |(injection h with h;subst h;exact⟨_,by simp[binOp,Op.intArith,Op.intCmp];rfl,.b _⟩)
    |(injection h with h;subst h;refine⟨.bool _,?_,.b _⟩;simp[binOp,Op.intArith,Op.intCmp];try rfl)
    |(split at h;cases h;rename_i hz;injection h with h;subst h;first|exact⟨_,by simp[binOp,Op.intDiv,hz],.i _ _ (zdg _ _)⟩|exact⟨_,by simp[binOp,Op.intDiv,hz],.i _ _ (z0cc _ _ hn)⟩)
    |(split at h;cases h;rename_i hz;split at h;(rename_i hw;injection h with h;subst h;exact⟨_,by simp[binOp,Op.shift,hz],.i _ _ hw⟩);cases h)
  ·cases h
 ·rename_i s r;obtain⟨rfl,hs⟩:=zoj hx;obtain⟨rfl,hr⟩:=zoj hy;have e1:∀l:List UInt8,(⟨l.toArray⟩:ByteArray).toList=l:=λl=>by rw[ByteArray.toList_eq]
  have e2:(s==r)=decide (s=r):=by rw[Bool.eq_iff_iff];simp
  cases op<;>simp only[reduceCtorEq]at h
  ·split at h
   ·rename_i hl;injection h with h;subst h;have e3:(⟨s.toArray⟩++⟨r.toArray⟩:ByteArray)=⟨(s++r).toArray⟩:=by apply ByteArray.ext;simp
    refine⟨.string ⟨(s++r).toArray⟩,?_,.s _ zXa⟩;have hn:¬((((⟨s.toArray⟩:ByteArray).size+(⟨r.toArray⟩:ByteArray).size:Nat):Int)>IntKind.i64.max):=by simp only[ByteArray.size,zY2n,IntKind.max,IntKind.bits,IntKind.signed];omega
    simp only[binOp,Op.stringOp,zN hn,e3];rfl
   ·cases h
  ·injection h with h;subst h;exact⟨_,by simp only[binOp,Op.stringOp,e1,e2];rfl,.b _⟩
  ·injection h with h;subst h;exact⟨_,by simp only[binOp,Op.stringOp,e1,e2];rfl,.b _⟩
 ·cases h
section
variable {P:Program} {w0 W:World} {F0:Bk} {E:Env} {τ:List SV} {ω:List (Option Ob)} {a:Act} {ρ:Nat->Value} {cx:Cx} {o:Oper} {e:Eff} {sp:Nat->zd} {n nt kb:Nat} {kn:List (Nat×Bool)} {Q:Exit->Act->World->Prop}
theorem Facts.one{x:X}{ck:List X}{ws:List Wr}(hf:Facts sp E n ⟨[x],ck,ws⟩):∃d,denX sp E x=some d/\E[n]?=some d:=hf.1 0 x rfl
theorem z01l{x:Operand}(h:Sim w0 F0 E τ ω a W ρ)(ho:o.op=.move x\/o.op=.assign x)(hr:(zt cx kb n nt kn o).run τ ω=some e):o.wp P a W (z2h w0 F0 E τ ω e.ws) Q:=by
 have hr':(evR cx o.type x >>= λsv=>z2s o sv).run τ ω=some e:=by unfold zt at hr;rcases ho with ho|ho<;>(rw[ho]at hr;exact hr)
 simp only[run_bind,z2s,run_pure,zY01,zY00]at hr';obtain⟨sv,h1,rfl⟩:=hr';refine zr (v:=a.eval x) (W':=W) ?_ (h.goes o (z5h h h1));unfold execOp;rcases ho with ho|ho<;>(rw[ho];rfl)
theorem z0cd{c x y:Operand}(h:Sim w0 F0 E τ ω a W ρ)(ho:o.op=.pick c x y)(hr:(zt cx kb n nt kn o).run τ ω=some e)(hf:Facts sp E n e)(hk:KnOk E kn):o.wp P a W (z2h w0 F0 E τ ω e.ws) Q:=by
 unfold zt at hr;rw[ho]at hr;simp only[run_bind,zY01]at hr;obtain⟨ca,h1,h2⟩:=hr;obtain⟨d,hd,hrep⟩:=z36 h h1;have hrun:∀b v,a.eval c=.bool b->v=(if b then a.eval x else a.eval y)->(execOp a.eval o).run P W=.ok (.value v) W:=by intro b v hb hv;unfold execOp;simp only[ho,Sem.run_bind,hb,hv];cases b<;>rfl
 split at h2
 ·rename_i hb;rw[zgg hk hb]at hd;injection hd with hd;subst hd;simp only[run_bind,z2s,run_pure,zY01,zY00]at h2;obtain⟨sv,h3,rfl⟩:=h2;exact zr (hrun true _ (z82 hrep) rfl) (h.goes o (z5h h h3))
 ·rename_i hb;rw[zgg hk hb]at hd;injection hd with hd;subst hd;simp only[run_bind,z2s,run_pure,zY01,zY00]at h2;obtain⟨sv,h3,rfl⟩:=h2;exact zr (hrun false _ (z82 hrep) rfl) (h.goes o (z5h h h3))
 ·simp only[run_bind,run_pure,zY01,zY00]at h2;obtain⟨xa,h3,ya,h4,rfl⟩:=h2;obtain⟨d',hd',hn⟩:=hf.one;simp only[denX,hd]at hd';split at hd'
  ·rename_i z b hz;injection hz with hz;subst hz;obtain⟨dx,hdx,hrx⟩:=z36 h h3;obtain⟨dy,hdy,hry⟩:=z36 h h4;refine zr (hrun b _ (z82 hrep) rfl) (h.goes o ⟨d',hn,?_⟩);cases b
   ·simp only[zY0x,if_false]at hd' ⊢;rw[hdy]at hd';injection hd' with hd';subst hd';exact hry
   ·simp only[if_true]at hd' ⊢;rw[hdx]at hd';injection hd' with hd';subst hd';exact hrx
  ·cases hd'
theorem zvo{x:Operand}(h:Sim w0 F0 E τ ω a W ρ)(ho:o.op=.fieldAddr t x f)(hr:(zt cx kb n nt kn o).run τ ω=some e)(hty:∀t i,cx.ti t=some i->TyOk P t i):o.wp P a W (z2h w0 F0 E τ ω e.ws) Q:=by
 unfold zt at hr;rw[ho]at hr;simp only[run_bind,z0l,zY01]at hr;obtain⟨ti,h1,⟨off,fz⟩,h2,c,h3,h4⟩:=hr;have hc:=z35 h h3;have ht:=hty t ti h1;have hrun:∀b q,a.eval x=.pointer (some ⟨b,q,none⟩)->(execOp a.eval o).run P W=.ok (.value (.pointer (some ⟨b,q+off,none⟩))) W:=by intro b q hx;unfold execOp;simp only[ho,hx,Sem.run_bind,ht.fieldAt h2,Result.andThen_ok,Sem.run_pure]
 cases c with
 |bp k q =>simp only[z2s,run_pure,zY00]at h4;subst h4;obtain⟨hl,g,q',hρ,hv⟩:=hc;refine zr (hrun g _ hv) (h.goes o ⟨hl,g,q',hρ,?_⟩);simp only[zY33]
 |ep xa i q =>simp only[z2s,run_pure,zY00]at h4;subst h4;obtain⟨sz,xs,m,b,q',y,vs,c1,c2,c3,c4,c5,c6,c7,c8⟩:=hc;refine zr (hrun b _ c6) (h.goes o ⟨sz,xs,m,b,q',y,vs,c1,c2,c3,c4,c5,?_,c7,c8⟩);simp only[zY33]
 |rp k i sz q =>simp only[z2s,run_pure,zY00]at h4;subst h4;obtain⟨hl,m,g,len,cap,c1,c2,c3,c4,c5⟩:=hc;refine zr (hrun g _ c5) (h.goes o ⟨hl,m,g,len,cap,c1,c2,c3,c4,?_⟩);simp only[zY33]
 |_=>cases h4
theorem zjb{W:World}:∀(fs:List Field) (j:Nat) (xs ys:List Int) (kx ky:List IntKind) (us vs:List Value),(∀(f:Nat) (fd:Field),fs[f]?=some fd->fd.name ≠ "_" /\ fd.offset=j+f/\(∃k,P.underlying fd.type=some (.int k))/\(P.info? fd.type).map (·.size)=some 1) ->
  us.length=j+fs.length->vs.length=j+fs.length->xs.length=fs.length->ys.length=fs.length->(∀f,f<fs.length->∃k x y,xs[f]?=some x/\ys[f]?=some y/\us[j+f]?=some (.int k x)/\vs[j+f]?=some (.int k y)) ->
  (Op.eqFields 9999 us.toArray vs.toArray fs).run P W = .ok (decide (xs=ys)) W
 | [],j,xs,ys,kx,ky,us,vs,_,_,_,hx,hy,_=>by have e1:xs=[]:=zY0c hx;have e2:ys=[]:=zY0c hy;subst e1;subst e2;simp[Op.eqFields]
 |fd::fs,j,xs,ys,kx,ky,us,vs,hfs,hu,hv,hx,hy,hc=>by
  obtain⟨k,x,y,h1,h2,h3,h4⟩:=hc 0 zX4;obtain⟨hn,hoff,⟨k',hk'⟩,hsz⟩:=hfs 0 fd rfl
  match xs,ys,h1,h2 with
  |x'::xs,y'::ys,h1,h2 =>
   simp only[zY05,zY00]at h1 h2;subst h1;subst h2;rw[zY28]at h3 h4 hoff;have ih:=zjb (W:=W) fs (j+1) xs ys kx ky us vs (λf fd' hf=>by
     obtain⟨a1,a2,a3,a4⟩:=hfs (f+1) fd' (by simpa using hf);exact⟨a1,by omega,a3,a4⟩) (by simp only[zY08]at hu;omega) (by simp only[zY08]at hv;omega) zXo zXu
    (λf hf=>by obtain⟨k,x,y,a1,a2,a3,a4⟩:=hc (f+1) zX1e;exact⟨k,x,y,by simpa using a1,by simpa using a2,by rw[<- a3];congr 1;omega,by rw[<- a4];congr 1;omega⟩)
   obtain⟨it,hit,hsz'⟩:=zY0t.1 hsz;have hp:∀(ls:List Value) (v:Value),ls[j]?=some v->(part fd.type ls.toArray fd.offset).run P W = .ok v W:=by intro ls v hl;simp[part,isAgg,run_underlying hk',hoff,hl]
   rw[Op.eqFields,zP hn];simp only[Sem.run_bind,hp us _ h3,hp vs _ h4,Result.andThen_ok,run_equalIn_int W 9998 fd.type k k' x' y' hk',Sem.run_ite,Sem.run_pure,ih];by_cases hxy:x'=y'
   ·subst hxy;simp
   ·simp[hxy]
theorem zvp:∀ {xs ys:List C1} {ps:List (Atom×Atom)},pairs xs ys=some ps->∀ {c:Ctx} {us vs:List Value} {r:Bool},C1Rs c xs us->C1Rs c ys vs->eqsD c.E ps=some r ->
  ∃(is js:List Int),is.length=xs.length/\js.length=xs.length/\us.length=xs.length/\vs.length=xs.length/\r=decide (is=js)/\∀f,f<xs.length->∃k x y,is[f]?=some x/\js[f]?=some y/\us[f]?=some (.int k x)/\vs[f]?=some (.int k y)
 | [],[],ps,h,c,us,vs,r,hu,hv,hr=>by simp only[pairs,zY00]at h;subst h;simp only[eqsD,zY00]at hr;subst hr;have:=hu.len;have:=hv.len;exact⟨[],[],rfl,rfl,by simp_all,by simp_all,by simp,by simp⟩
 |.at a::xs,.at b::ys,ps,h,c,u::us,v::vs,r,hu,hv,hr=>by
  simp only[pairs,zY0t]at h;obtain⟨qs,hq,rfl⟩:=h;simp only[eqsD,zY0a,zY01,zY1e,zY00]at hr;obtain⟨x,hx,y,hy,q,hxy,r',hr',rfl⟩:=hr;obtain⟨hu1,hu⟩:=hu;obtain⟨hv1,hv⟩:=hv;obtain⟨d,hd,hrep⟩:=hu1.at_;obtain⟨d',hd',hrep'⟩:=hv1.at_;rw[hx]at hd;injection hd with hd;subst hd;rw[hy]at hd';injection hd' with hd';subst hd';unfold eqD at hxy;split at hxy
  ·rename_i k m k' m';split at hxy
   ·rename_i hk;subst hk;injection hxy with hxy;subst hxy;obtain⟨rfl,_⟩:=z3n hrep;obtain⟨rfl,_⟩:=z3n hrep';obtain⟨is,js,h1,h2,h3,h4,h5,h6⟩:=zvp hq hu hv hr';refine⟨m::is,m'::js,by simp[h1],by simp[h2],by simp[h3],by simp[h4],?_,λf hf=>?_⟩
    ·rw[h5];by_cases e:m=m'<;>simp[e]
    ·cases f with
     |zero=>exact⟨k,m,m',rfl,rfl,rfl,rfl⟩
     |succ f=>simpa using h6 f (by simpa using hf)
   ·cases hxy
  ·cases hxy
theorem z05i{W:World}{i:TyI}(ht:TyOk P t i)(hfl:i.flat=true){us vs:List Value}{is js:List Int}(h1:is.length=i.n)(h2:js.length=i.n)(h3:us.length=i.n)(h4:vs.length=i.n)
  (h5:∀f,f<i.n->∃k x y,is[f]?=some x/\js[f]?=some y/\us[f]?=some (.int k x)/\vs[f]?=some (.int k y)) (x y:Operand) :
  (eqGuard .eql t x y (.agg us.toArray) (.agg vs.toArray)).run P W=.ok () W/\(eqGuard .neq t x y (.agg us.toArray) (.agg vs.toArray)).run P W=.ok () W /\
  (binOp .eql t (.agg us.toArray) (.agg vs.toArray)).run P W=.ok (.bool (decide (is=js))) W/\(binOp .neq t (.agg us.toArray) (.agg vs.toArray)).run P W=.ok (.bool (!decide (is=js))) W:=by
 obtain⟨fs,hu,hs,hg,hsz,hfs⟩:=ht.flat hfl;have hu':P.underlying t=some (.struct (P.fieldsOf t)):=by unfold Program.fieldsOf;rw[hu]
 have hf':P.fieldsOf t=fs:=by unfold Program.fieldsOf;rw[hu]
 have he:(Op.equalIn 10000 t (.agg us.toArray) (.agg vs.toArray)).run P W=.ok (decide (is=js)) W:=by
  rw[show(10000:Nat)=9999+1 from rfl,run_equalIn_struct W 9999 t _ _ hu' hs,hf'];have hl:fs.toList.length=i.n:=by simpa using hsz
  refine zjb fs.toList 0 is js [] [] us vs (λf fd hf=>?_) zX0 zX0 zX0 zX0 (λf hf=>by simpa using h5 f zX0);obtain⟨a1,a2,a3,a4⟩:=hfs f fd hf;exact⟨a1,by omega,a3,a4⟩
 refine⟨run_eqGuard_agg W .eql t x y _ _ hg,run_eqGuard_agg W .neq t x y _ _ hg,?_,?_⟩
 ·rw[run_eql_struct,he];rfl
 ·rw[run_neq_struct,he];rfl
theorem zzb{W:World}{d d':Dt}{u v:Value}(hu:Rep W F d u)(hv:Rep W F d' v)(op:BinOp)(t:TypeId)(x y:Operand)(hne:∀b,d ≠ .e b):(eqGuard op t x y u v).run P W' = .ok () W':=by unfold eqGuard;cases op<;>(try rfl)<;>(cases hu<;>first|(exact absurd rfl (hne _))|(cases hv<;>rfl))
theorem z099{op:BinOp}{a b:Atom}(h:z02u op a b=some r){E:Env}{dx dy:Dt}(hx:a.val E=some dx)(hy:b.val E=some dy):zbn op dx dy=some (.b r):=by
 unfold z02u at h;split at h
 ·rename_i k m k' n;simp only[Atom.val,Lit.dt,zY00]at hx hy;subst hx;subst hy;split at h
  ·rename_i hk;subst hk;split at h
   ·injection h with h;subst h;simp[zbn,zmw]
   ·injection h with h;subst h;simp[zbn,zmw]
   ·cases h
  ·cases h
 ·cases h
theorem zvq{op:BinOp}{a b:Atom}{E:Env}{kn:List (Nat×Bool)}(hk:KnOk E kn)(h:zvd kn op a b=some r){dx dy:Dt}(hx:a.val E=some dx)(hy:b.val E=some dy):zbn op dx dy=some (.b r):=by
 unfold zvd at h;split at h
 ·rename_i q hq;injection h with h;subst h;exact z099 hq hx hy
 ·exact z0cb hk h hx hy
theorem z0eu{op:BinOp}{t':Nat}{x y:Operand}(h:Sim w0 F0 E τ ω a W ρ)(ho:o.op=.binOp op t x y t')(hk:zvj y=true)(hr:(z02v cx n o op t x).run τ ω=some e)(hf:Facts sp E n e)(hty:∀t i,cx.ti t=some i->TyOk P t i):o.wp P a W (z2h w0 F0 E τ ω e.ws) Q:=by
 unfold z02v at hr;simp only[run_ite]at hr;split at hr
 ·cases hr
 rename_i hce;simp only[run_bind,zY01]at hr;obtain⟨xa,h1,h3⟩:=hr;obtain⟨dx,hdx,hrx⟩:=z36 h h1;have hy:y=.const .nilIface:=by
  unfold zvj at hk;split at hk
  ·rfl
  ·cases hk
 subst hy;have hui:P.underlying t=some (.interface (P.methodsAt t)):=by
  simp only[zY2v]at hce;unfold Cx.isErr at hce;split at hce
  ·rename_i i hi;split at hce
   ·rename_i hz;exact(hty t i hi).er hz
   ·cases hce
  ·cases hce
 have hrun:∀z,(eqGuard op t x (.const .nilIface) (a.eval x) .nilIface).run P W=.ok () W->(binOp op t (a.eval x) .nilIface).run P W=.ok z W->(execOp a.eval o).run P W=.ok (.value z) W:=by intro z hg hb;unfold execOp;have he:a.eval (.const .nilIface)=.nilIface:=rfl;simp only[ho,Sem.run_bind,he,hg,hb,Result.andThen_ok,Sem.run_pure]
 have key:∀neg,(∃d,denX sp E (.ise neg xa)=some d/\E[n]?=some d)->∃b,dx=.e b/\E[n]?=some (.b (b==neg)):=by
  rintro neg ⟨d,hd,hn⟩;simp only[denX]at hd;rw[hdx]at hd;split at hd
  ·rename_i b hb;injection hb with hb;injection hd with hd;subst hd;exact⟨b,hb,hn⟩
  ·cases hd
 split at h3
 ·simp only[run_pure,zY00]at h3;subst h3;obtain⟨b,rfl,hn⟩:=key false hf.one;generalize hv:a.eval x=v at hrx hrun;refine zr (hrun (.bool (b==false)) ?_ ?_) (h.goes o ⟨_,hn,.b _⟩)
  ·cases hrx<;>(cases x<;>rfl)
  ·cases hrx
   ·exact run_eql_nil_nil W t hui
   ·exact run_eql_held_nil W t _ _ hui
 ·simp only[run_pure,zY00]at h3;subst h3;obtain⟨b,rfl,hn⟩:=key true hf.one;generalize hv:a.eval x=v at hrx hrun;refine zr (hrun (.bool (b==true)) ?_ ?_) (h.goes o ⟨_,hn,.b _⟩)
  ·cases hrx<;>(cases x<;>rfl)
  ·cases hrx
   ·exact run_neq_nil_nil W t hui
   ·exact run_neq_held_nil W t _ _ hui
 ·cases h3
theorem z09a{op:BinOp}{t':Nat}{x y:Operand}(h:Sim w0 F0 E τ ω a W ρ)(ho:o.op=.binOp op t x y t')(hr:(zt cx kb n nt kn o).run τ ω=some e)(hf:Facts sp E n e)(hk:KnOk E kn)(hty:∀t i,cx.ti t=some i->TyOk P t i):o.wp P a W (z2h w0 F0 E τ ω e.ws) Q:=by
 unfold zt at hr;rw[ho]at hr;simp only[run_ite]at hr;split at hr
 ·exact z0eu h ho ‹_› hr hf hty
 simp only[run_bind,zY01]at hr;obtain⟨sx,h1,sy,h2,h3⟩:=hr;have hx:=z5h h h1;have hy:=z5h h h2;have hrun:∀z,(eqGuard op t x y (a.eval x) (a.eval y)).run P W=.ok () W->(binOp op t (a.eval x) (a.eval y)).run P W=.ok z W->(execOp a.eval o).run P W=.ok (.value z) W:=by intro z hg hb;unfold execOp;simp only[ho,Sem.run_bind,hg,hb,Result.andThen_ok,Sem.run_pure]
 split at h3
 ·rename_i xa ya;obtain⟨dx,hdx,hrx⟩:=C1R.at_ hx;obtain⟨dy,hdy,hry⟩:=C1R.at_ hy;have hg:=zzb (P:=P) (W':=W) hrx hry op t x y;simp only[run_ite]at h3;split at h3
  ·rename_i hb;have hub:P.underlying t=some .bool:=by
    unfold Cx.isBool at hb;split at hb
    ·rename_i i hi;split at hb
     ·rename_i b hz;exact(hty t i hi).bool b hz
     ·cases hb
    ·cases hb
   have hbool:∀neg,(∃d,denX sp E (.beq neg xa ya)=some d/\E[n]?=some d)->∃p q,a.eval x=.bool p/\a.eval y=.bool q/\E[n]?=some (.b (decide (p=q)!=neg)):=by
    rintro neg ⟨d,hd,hn⟩;simp only[denX]at hd;simp only[ctx]at hdx hdy;rw[hdx,hdy]at hd;split at hd
    ·rename_i p q hp hq;injection hp with hp;injection hq with hq;subst hp;subst hq;injection hd with hd;exact⟨p,q,z82 hrx,z82 hry,by rw[hn,hd]⟩
    ·cases hd
   have heq:∀p q:Bool,(p==q)=decide (p=q):=zX9;split at h3
   ·simp only[run_pure,zY00]at h3;subst h3;obtain⟨p,q,hp,hq,hn⟩:=hbool false hf.one;refine zr (hrun (.bool (decide (p=q))) (hg λb e=>by rw[e,hp]at hrx;cases hrx) ?_) (h.goes o ⟨_,hn,?_⟩)
    ·rw[hp,hq];simp[binOp,run_equal_bool W t p q hub,heq]
    ·have:(decide (p=q)!=false)=decide (p=q):=by cases decide (p=q)<;>rfl
     rw[this];exact .b _
   ·simp only[run_pure,zY00]at h3;subst h3;obtain⟨p,q,hp,hq,hn⟩:=hbool true hf.one;refine zr (hrun (.bool (!decide (p=q))) (hg λb e=>by rw[e,hp]at hrx;cases hrx) ?_) (h.goes o ⟨_,hn,?_⟩)
    ·rw[hp,hq];simp[binOp,run_equal_bool W t p q hub,heq]
    ·have:(decide (p=q)!=true)= !decide (p=q):=by cases decide (p=q)<;>rfl
     rw[this];exact .b _
   ·cases h3
  ·cases hfo:zvd kn op xa ya with
   |some r =>rw[hfo]at h3;simp only[z2s,run_pure,zY00]at h3;subst h3;simp only[ctx]at hdx hdy;obtain⟨z,hz,hrz⟩:=zvn (P:=P) (W:=W) (t:=t) hrx hry (zvq hk hfo hdx hdy);exact zr (hrun z (hg λb e=>by have h9:=zvq hk hfo hdx hdy;rw[e]at h9;simp[zbn]at h9) hz) (h.goes o ⟨.b r,rfl,hrz⟩)
   |none =>rw[hfo]at h3;simp only[run_pure,zY00]at h3;subst h3;obtain⟨d,hd,hn⟩:=hf.one;simp only[denX,zY0a,zY01]at hd;obtain⟨dx',hx',dy',hy',hd⟩:=hd;simp only[ctx]at hdx hdy;rw[hdx]at hx';injection hx' with hx';subst hx';rw[hdy]at hy';injection hy' with hy';subst hy';obtain⟨z,hz,hrz⟩:=zvn (P:=P) (W:=W) (t:=t) hrx hry hd;exact zr (hrun z (hg λb e=>by rw[e]at hd;simp[zbn]at hd) hz) (h.goes o ⟨d,hn,hrz⟩)
 ·rename_i xs ys;obtain⟨us,hus,hcu⟩:=hx;obtain⟨vs,hvs,hcv⟩:=hy;simp only[run_bind,z0l,run_ite,zY01]at h3;obtain⟨ti,hti,h3⟩:=h3;split at h3
  ·cases h3
  ·rename_i hnot;simp only[not_or,zY2v,ne_eq,zY0u]at hnot;obtain⟨hfl,hlen⟩:=hnot;simp only[run_bind,z0l,zY01]at h3;obtain⟨ps,hps,h3⟩:=h3;have key:∀neg,(∃d,denX sp E (.eqs neg ps)=some d/\E[n]?=some d)->∃is js:List Int,E[n]?=some (.b (decide (is=js)!=neg))/\(eqGuard .eql t x y (.agg us.toArray) (.agg vs.toArray)).run P W=.ok () W/\(eqGuard .neq t x y (.agg us.toArray) (.agg vs.toArray)).run P W=.ok () W /\
     (binOp .eql t (.agg us.toArray) (.agg vs.toArray)).run P W=.ok (.bool (decide (is=js))) W/\(binOp .neq t (.agg us.toArray) (.agg vs.toArray)).run P W=.ok (.bool (!decide (is=js))) W:=by
    rintro neg ⟨d,hd,hn⟩;simp only[denX,zY0a,zY01,zY1e,zY00]at hd;obtain⟨r,hr,rfl⟩:=hd;obtain⟨is,js,g1,g2,g3,g4,g5,g6⟩:=zvp hps hcu hcv hr;obtain⟨r1,r2,r3,r4⟩:=z05i (W:=W) (hty t ti hti) hfl (us:=us) (vs:=vs) (is:=is) (js:=js) zX0 zX0 zX0 zX0 (λf hf=>g6 f zX0) x y;exact⟨is,js,by rw[hn,g5],r1,r2,r3,r4⟩
   split at h3
   ·simp only[run_pure,zY00]at h3;subst h3;obtain⟨is,js,hn,r1,r2,r3,r4⟩:=key false hf.one;refine zr (hrun (.bool (decide (is=js))) (by rw[hus,hvs];exact r1) (by rw[hus,hvs];exact r3)) (h.goes o ⟨_,hn,?_⟩);have:(decide (is=js)!=false)=decide (is=js):=by cases decide (is=js)<;>rfl
    rw[this];exact .b _
   ·simp only[run_pure,zY00]at h3;subst h3;obtain⟨is,js,hn,r1,r2,r3,r4⟩:=key true hf.one;refine zr (hrun (.bool (!decide (is=js))) (by rw[hus,hvs];exact r2) (by rw[hus,hvs];exact r4)) (h.goes o ⟨_,hn,?_⟩);have:(decide (is=js)!=true)= !decide (is=js):=by cases decide (is=js)<;>rfl
    rw[this];exact .b _
   ·cases h3
 ·cases h3
theorem z0ev{x:Operand}(h:Sim w0 F0 E τ ω a W ρ)(ho:o.op=.unOp .not t x)(hr:(zt cx kb n nt kn o).run τ ω=some e)(hf:Facts sp E n e)(hk:KnOk E kn):o.wp P a W (z2h w0 F0 E τ ω e.ws) Q:=by
 unfold zt at hr;rw[ho]at hr;simp only[run_bind,zY01]at hr;obtain⟨xa,h1,hr⟩:=hr;obtain⟨d,hd,hrep⟩:=z36 h h1;cases hev:evB kn xa with
 |some b =>
  rw[hev]at hr;simp only[z2s,run_pure,zY00]at hr;subst hr;have hdb:d=.b b:=by have:=zgg hk hev;rw[hd]at this;injection this
  subst hdb;refine zr (v:=.bool (!b)) (W':=W) ?_ (h.goes o ⟨.b !b,rfl,.b _⟩);unfold execOp;simp only[ho,z82 hrep,Op.unary,Sem.run_bind,Sem.run_pure,Result.andThen_ok]
 |none =>
  rw[hev]at hr;simp only[run_pure,zY00]at hr;subst hr;obtain⟨d',hd',hn⟩:=hf.one;simp only[denX,hd]at hd';split at hd'
  ·rename_i z b hz;injection hz with hz;subst hz;injection hd' with hd';subst hd';refine zr (v:=.bool (!b)) (W':=W) ?_ (h.goes o ⟨_,hn,.b _⟩);unfold execOp;simp only[ho,z82 hrep,Op.unary,Sem.run_bind,Sem.run_pure,Result.andThen_ok]
  ·cases hd'
theorem z0ew{x:Operand}(h:Sim w0 F0 E τ ω a W ρ)(ho:o.op=.unOp .neg t x)(hr:(zt cx kb n nt kn o).run τ ω=some e)(hf:Facts sp E n e):o.wp P a W (z2h w0 F0 E τ ω e.ws) Q:=by
 unfold zt at hr;rw[ho]at hr;simp only[run_bind,run_pure,zY01,zY00]at hr;obtain⟨xa,h1,rfl⟩:=hr;obtain⟨d,hd,hrep⟩:=z36 h h1;obtain⟨d',hd',hn⟩:=hf.one;simp only[denX,hd]at hd';split at hd'
 ·rename_i z k m hz;injection hz with hz;subst hz;injection hd' with hd';subst hd';refine zr (v:=.int k (k.wrap (0-m))) (W':=W) ?_ (h.goes o ⟨_,hn,.i _ _ (zdg _ _)⟩);unfold execOp;simp only[ho,(z3n hrep).1,Op.unary,Op.intArith,Sem.run_bind,Sem.run_pure,Result.andThen_ok]
 ·cases hd'
theorem z031{src dst:Nat}{x:Operand}(h:Sim w0 F0 E τ ω a W ρ)(ho:o.op=.convert src dst x)(hr:(zt cx kb n nt kn o).run τ ω=some e)(hf:Facts sp E n e)(hty:∀t i,cx.ti t=some i->TyOk P t i):o.wp P a W (z2h w0 F0 E τ ω e.ws) Q:=by
 unfold zt at hr;rw[ho]at hr;simp only[run_bind,z0l,run_pure,zY01,zY00]at hr;obtain⟨ts,hts,ti,hti,k,hk,xa,h1,rfl⟩:=hr;obtain⟨d,hd,hrep⟩:=z36 h h1;obtain⟨d',hd',hn⟩:=hf.one;obtain⟨ds,hus,_⟩:=(hty src ts hts).row;have hud:=(hty dst ti hti).ik k hk;simp only[denX,hd]at hd';split at hd'
 ·rename_i z k' m hz;injection hz with hz;subst hz;injection hd' with hd';subst hd';refine zr (v:=.int k (k.wrap m)) (W':=W) ?_ (h.goes o ⟨_,hn,.i _ _ (zdg _ _)⟩);unfold execOp;simp only[ho,(z3n hrep).1,convert,Sem.run_bind,run_underlying hus,run_underlying hud,Conv.intToInt,Sem.run_pure,Result.andThen_ok]
 ·cases hd'
theorem zgh{g:Bool}{cs:List C1}{sv:SV}(h:(zbp g cs).run τ ω=some sv){c:Ctx}{v:Value}(hp:PR c (g,cs) v):SVR c sv v:=by
 unfold zbp at h;unfold PR at hp;cases g
 ·simp only[zY0x,if_false]at h hp;obtain⟨x,rfl,hx⟩:=hp;simp only[run_pure,zY00]at h;subst h;exact hx
 ·simp only[if_true]at h hp;simp only[run_pure,zY00]at h;subst h;exact hp
theorem z032{x:Operand}(h:Sim w0 F0 E τ ω a W ρ)(ho:o.op=.extract x j)(hr:(zt cx kb n nt kn o).run τ ω=some e):o.wp P a W (z2h w0 F0 E τ ω e.ws) Q:=by
 unfold zt at hr;rw[ho]at hr;simp only[run_bind,zY01]at hr;obtain⟨sv,h1,h2⟩:=hr;have hx:=z5h h h1;cases sv with
 |tup ps =>simp only[run_bind,z0l,z2s,run_pure,zY01,zY00]at h2;obtain⟨⟨g,cs⟩,h3,sv,h4,rfl⟩:=h2;obtain⟨us,hu,hps⟩:=hx;obtain⟨v,hv,hp⟩:=hps.get h3;refine zr (v:=v) (W':=W) ?_ (h.goes o (zgh h4 hp));unfold execOp;simp[ho,hu,Instr.extract,hv]
 |one c=>cases h2
 |agg cs=>cases h2
theorem zzc{x:Operand}(h:Sim w0 F0 E τ ω a W ρ)(ho:o.op=.nilCheck x)(hr:(zt cx kb n nt kn o).run τ ω=some e):o.wp P a W (z2h w0 F0 E τ ω e.ws) Q:=by
 unfold zt at hr;rw[ho]at hr;simp only[run_bind,zY01]at hr;obtain⟨c,h1,h2⟩:=hr;have hx:=z35 h h1;cases c with
 |bp k q =>simp only[z2s,run_pure,zY00]at h2;subst h2;obtain⟨hl,g,q',hρ,hv⟩:=hx;refine zr (v:=a.eval x) (W':=W) ?_ (h.goes o ⟨hl,g,q',hρ,hv⟩);unfold execOp;simp only[ho,hv];rfl
 |fn f caps =>simp only[z2s,run_pure,zY00]at h2;subst h2;obtain⟨vs,hv,hcs⟩:=hx;refine zr (v:=a.eval x) (W':=W) ?_ (h.goes o ⟨vs,hv,hcs⟩);unfold execOp;simp only[ho,hv];rfl
 |_=>cases h2
theorem zf7(h:Sim w0 F0 E τ ω a W ρ):∀ {xs:List Operand} {ts:List Nat} {vs:List SV},(zcm cx xs ts).run τ ω=some vs->vs.length=xs.length/\∀(j:Nat) (sv:SV) (x:Operand),vs[j]?=some sv->xs[j]?=some x->SVR (ctx w0 F0 E ω ρ W) sv (a.eval x)
 | [],ts,vs,hr=>by simp only[zcm,run_pure,zY00]at hr;subst hr;exact⟨rfl,by simp⟩
 |x::xs,ts,vs,hr=>by
  simp only[zcm,run_bind,run_pure,zY01,zY00]at hr;obtain⟨v,h1,us,h2,rfl⟩:=hr;obtain⟨hl,hj⟩:=zf7 h h2;refine⟨by simp[hl],λj sv y hs hy=>?_⟩;cases j with
  |zero =>simp only[zY05,zY00]at hs hy;subst hs;subst hy;exact z5h h h1
  |succ j=>exact hj j sv y zX1f zXu
theorem zvr{c:Ctx}:∀ {vs:List SV} {ps:List (Nat×Nat)},zog vs=some ps->∀ {us:List Value},us.length=vs.length->(∀(j:Nat) (sv:SV) (u:Value),vs[j]?=some sv->us[j]?=some u->SVR c sv u)->CapRs c ps us
 | [],ps,h,us,hl,hj=>by simp only[zog,zY00]at h;subst h;have:us=[]:=zY0c zXf;subst this;trivial
 |.one (.bp k off)::r,ps,h,u::us,hl,hj=>by simp only[zog,zY0t]at h;obtain⟨qs,h1,rfl⟩:=h;exact⟨hj 0 _ u rfl rfl,zvr h1 zXf λj sv v hs hv=>hj (j+1) sv v zX1f (by simpa using hv)⟩
theorem zzd{first captured:Array Operand}(h:Sim w0 F0 E τ ω a W ρ)(ho:o.op=.makeFunc (.func f) first captured)(hr:(zt cx kb n nt kn o).run τ ω=some e):o.wp P a W (z2h w0 F0 E τ ω e.ws) Q:=by
 unfold zt at hr;rw[ho]at hr;simp only[run_ite]at hr;split at hr
 ·cases hr
 ·rename_i hfst;have hfst:first=#[]:=zY3c (by simpa using hfst)
  subst hfst;simp only[run_bind,z0l,z2s,run_pure,zY01,zY00]at hr;obtain⟨vs,h1,bs,h2,rfl⟩:=hr;obtain⟨hl,hj⟩:=zf7 h h1;refine zr (v:=.func (.func f) #[] (captured.map a.eval)) (W':=W) ?_ (h.goes o ⟨(captured.map a.eval).toList,by rw[zY1r],zvr h2 (by simp[hl]) λj sv u hs hu=>?_⟩)
  ·unfold execOp;have:(captured.map a.eval).toList=captured.toList.map a.eval:=zX4;simp only[ho,Instr.makeFunc,Array.map_empty,Sem.run_bind,Sem.run_pure,Result.andThen_ok]
  ·simp only[zY3p,zY0m,zY0t]at hu;obtain⟨x,hx,rfl⟩:=hu;exact hj j sv x hs hx
theorem z70(hr:(z9h kb o).run τ ω=some k):(∃d,o.dst=some d/\k=kb+d)/\ω[k]?=some none:=by
 unfold z9h at hr;cases hd:o.dst with
 |none=>rw[hd]at hr;cases hr
 |some d =>
  rw[hd]at hr;simp only[run_bind,z2y,zY01]at hr;obtain⟨x,hx,h2⟩:=hr;cases x with
  |none=>simp only[run_pure,zY00]at h2;subst h2;exact⟨⟨d,rfl,rfl⟩,hx⟩
  |some y=>cases h2
theorem zdh{sv:SV}{cs:List C1}(h:z8u sv=some cs){c:Ctx}{v:Value}(hv:SVR c sv v):∃us:List Value,(v=.agg us.toArray\/us=[v])/\C1Rs c cs us:=by
 cases sv with
 |one x =>simp only[z8u,zY00]at h;subst h;exact⟨[v],.inr rfl,hv,trivial⟩
 |agg xs =>simp only[z8u,zY00]at h;subst h;obtain⟨us,h1,h2⟩:=hv;exact⟨us,.inl h1,h2⟩
 |tup ps=>cases h
theorem z05j{c:Ctx}(hl:c.L k)(hρ:c.ρ k=.pointer (some ⟨g,0,none⟩)):C1R c (.bp k 0) (.pointer (some ⟨g,0,none⟩)):=⟨hl,g,0,hρ,rfl⟩
theorem z09b(h:Sim w0 F0 E τ ω a W ρ)(ho:o.op=.alloc t)(hr:(zt cx kb n nt kn o).run τ ω=some e)(hty:∀t i,cx.ti t=some i->TyOk P t i):o.wp P a W (z2h w0 F0 E τ ω e.ws) Q:=by
 unfold zt at hr;rw[ho]at hr;simp only[run_bind,z0l,run_ite,zY01]at hr;obtain⟨ti,hti,hr⟩:=hr;split at hr
 ·cases hr
 ·rename_i hz;simp only[ne_eq,zY0u]at hz;simp only[run_bind,run_pure,zY01,zY00]at hr;obtain⟨k,hk,rfl⟩:=hr;obtain⟨hd,hk⟩:=z70 hk;obtain⟨z,hz1,hz2⟩:=(hty t ti hti).zeroRun hz;have hc:=z6z hz2 (ctx w0 F0 E ω ρ W);have h1:=h.alloc hk t hc;have hlt:=(zY02.1 hk).1;refine zr (v:=.pointer (some ⟨W.heap.size,0,none⟩)) (W':=W.alloc (.cells z.cells t)) ?_ ⟨_,h1.dst o (sv:=.one (.bp k 0)) (z05j ⟨_,zY0f hlt⟩ (z1g _ _ _))⟩;unfold execOp;simp only[ho,Instr.alloc,newVar,newRow,Sem.run_bind,run_newObj_alloc,Result.andThen_ok,Sem.run_pure,hz1]
theorem z0ex{x:Operand}(h:Sim w0 F0 E τ ω a W ρ)(ho:o.op=.box t x)(hr:(zt cx kb n nt kn o).run τ ω=some e):o.wp P a W (z2h w0 F0 E τ ω e.ws) Q:=by
 unfold zt at hr;rw[ho]at hr;simp only[run_bind,z0l,run_ite,zY01]at hr;obtain⟨sv,h1,cs,h2,hr⟩:=hr;split at hr
 ·cases hr
 rename_i hok;simp only[run_bind,z0l,run_pure,zY01,zY00]at hr;obtain⟨k,hk,rfl⟩:=hr;obtain⟨hd,hk⟩:=z70 hk;obtain⟨us,hu,hc⟩:=zdh h2 (z5h h h1);have hcells:(a.eval x).cells=us.toArray:=by
  rcases hu with hu|hu
  ·rw[hu];rfl
  ·have h1c:=hc.one (by simpa using hok);rw[hu]at h1c⊢;exact zan (h1c _ zX4)
 have h1:=h.alloc hk t hc;have hlt:=(zY02.1 hk).1;refine zr (v:=.pointer (some ⟨W.heap.size,0,none⟩)) (W':=W.alloc (.cells us.toArray t)) ?_ ⟨_,h1.dst o (sv:=.one (.bp k 0)) (z05j ⟨_,zY0f hlt⟩ (z1g _ _ _))⟩;unfold execOp;simp only[ho,Instr.box,newVar,newRow,Sem.run_bind,run_newObj_alloc,Result.andThen_ok,Sem.run_pure,hcells]
end
section
variable {P:Program} {w0 W:World} {F0:Bk} {E:Env} {τ:List SV} {ω:List (Option Ob)} {a:Act} {ρ:Nat->Value} {cx:Cx} {o:Oper} {e:Eff} {sp:Nat->zd} {n nt kb:Nat} {kn:List (Nat×Bool)} {Q:Exit->Act->World->Prop}
theorem z37{f:Nat->α}{u:α}(h:((List.range m).map f)[j]?=some u):j<m/\u=f j:=by
 have hlt:j<m:=by have:=(zY02.1 h).1;simpa using this
 refine⟨hlt,?_⟩;rw[zY0m,List.getElem?_range hlt]at h;injection h with h;exact h.symm
theorem z033{n:Nat}(h:j<m):(z4c n m)[j]?=some (.at (.v (n+j))):=by simp[z4c,h]
theorem zok(n m:Nat):(z4c n m).length=m:=by simp[z4c]
theorem za8{c:Ctx}{n:Nat}{us:List Value}(hl:us.length=m)(h:∀j u,us[j]?=some u->∃d,c.E[n+j]?=some d/\Rep c.W c.F d u):C1Rs c (z4c n m) us:=by
 refine C1Rs.of (by rw[zok,hl]) λj x v hx hv=>?_;have hj:j<m:=by
  have:=(zY02.1 hx).1
  rwa [zok]at this
 rw[z033 hj]at hx;injection hx with hx;subst hx;exact h j v hv
theorem zbt{ti:TyI}(ht:TyOk P t ti){us:List Value}(hl:us.length=ti.n)(hc:W.rangeAt b q us){cs:List C1}{c:Ctx}(hcs:C1Rs c cs us){sv:SV}(hsv:(zbp ti.agg cs).run τ ω=some sv) :
  ∃v,(loadVar t ⟨b,q,none⟩).run P W=.ok v W/\SVR c sv v:=by
 cases hag:ti.agg with
 |true =>refine⟨_,ht.loadAgg hag hl hc,zgh hsv ?_⟩;simp only[PR,hag,if_true];exact⟨us,rfl,hcs⟩
 |false =>
  have h1:=ht.one hag
  match us,cs,hl,hcs with
  | [u],[x],hl,hcs =>refine⟨u,ht.loadOne hag (by simpa using hc 0 u rfl),zgh hsv ?_⟩;simp only[PR,hag,zY0x,if_false];exact⟨x,rfl,hcs.1⟩
  | [u],[],hl,hcs=>exact absurd hcs id
  | [u],_::_::_,hl,hcs=>exact absurd hcs.2 id
  | [],_,hl,_=>simp at hl;omega
  |_::_::_,_,hl,_=>simp at hl;omega
theorem zco{x:Operand}(ho:o.op=.load t x){v:Value}(hx:a.eval x=.pointer (some p))(hr:(loadVar t p).run P W=.ok v W):(execOp a.eval o).run P W=.ok (.value v) W:=by unfold execOp;simp only[ho,hx,Instr.loadAt,Instr.sureAddr,Sem.run_bind,Sem.run_pure,Result.andThen_ok,hr]
theorem zdi{vs:List Value}(h:W.rangeAt b q vs):W.rangeAt b (q+off) ((vs.drop off).take m):=by
 intro j v hj;rw[zY17]at hj;split at hj
 ·rw[zY1p]at hj;rw[zY33];exact h _ _ hj
 ·cases hj
theorem zjc{W:World}{vs:List Value}(h:W.heap[g]?=some (.cells vs.toArray t (0,0))):W.rangeAt g 0 vs:=by intro j v hj;rw[cell_of_row W g _ _ t (0,0) h,zY0z];simpa using hj
theorem zsh{x i:Atom}{ck:List X}{ws:List Wr}(hf:Facts sp E n ⟨(List.range m).map λj=>.idx x i (off+j),ck,ws⟩){xs:List (List Dt)}{k:Int}(hx:x.val E=some (.l sz xs))(hi:asI (i.val E)=some k)(h0:0<=k) :
  ∀j,j<m->∃y d,xs[k.toNat]?=some y/\y[off+j]?=some d/\E[n+j]?=some d:=by
 intro j hj;obtain⟨d,hd,hn⟩:=hf.1 j (.idx x i (off+j)) (by simp[hj]);simp only[denX,hx,hi,zP h0,zY01]at hd;obtain⟨y,hy,hd⟩:=hd;exact⟨y,d,hy,hd,hn⟩
theorem z09c{W:World}{e:Nat}{v:Value}{xs:List (List Dt)}{us:List Value}(h1:∀x∈xs,x.length=sz)(h2:W.ownsRow base e sz v xs.length us)(h3:Reps W F xs.flatten us){len:Nat}(hv:v=.slice (some ⟨g,0,none⟩) len cap){m:Int}(h0:0<=m)(hm:m<(len:Nat)) :
  ∃y,∃vs:Nat->Value,xs[m.toNat]?=some y/\y.length=sz/\∀j d,y[j]?=some d->W.cell? ⟨g,m.toNat*sz+j,none⟩=some (vs j)/\Rep W F d (vs j):=by
 rcases h2.2 with⟨hn,h0'⟩|⟨g',cap',cur,hv',hb,hh,hnc,hcm,hcs,ht⟩
 ·rw[hn]at hv;cases hv
 ·rw[hv']at hv;simp only[Value.slice.injEq,zY00,Addr.mk.injEq]at hv;obtain⟨⟨rfl,_⟩,rfl,rfl⟩:=hv;have hlt:m.toNat<xs.length:=zX0;refine⟨xs[m.toNat],λj=>us.getD (m.toNat*sz+j) undef,zY03 hlt,h1 _ (zY1y hlt),λj d hd=>?_⟩;obtain⟨u,hu,hr⟩:=h3.get (zhd h1 (zY03 hlt) hd);simp only[zY0r,hu,zY1f];refine⟨?_,hr⟩;rw[cell_of_row W g' _ cur e (0,0) hh];have:(cur.toList.take (xs.length*sz))[m.toNat*sz+j]?=some u:=by rw[ht];exact hu
  rw[zY17]at this;split at this
  ·simpa using this
  ·cases this
theorem zao{c:Ctx}:∀ {cs:List C1} {xs:List Atom} {us:List Value},z8v cs=some xs->C1Rs c cs us->∃ds,vals c.E xs=some ds/\Reps c.W c.F ds us
 | [],xs,[],h,hc=>by simp only[z8v,zY00]at h;subst h;exact⟨[],rfl,trivial⟩
 |.at x::cs,xs,u::us,h,hc=>by simp only[z8v,zY0t]at h;obtain⟨ys,h1,rfl⟩:=h;obtain⟨d,hd,hrep⟩:=C1R.at_ hc.1;obtain⟨ds,hds,hreps⟩:=zao h1 hc.2;exact⟨d::ds,by simp[vals,hd,hds],hrep,hreps⟩
theorem zqt{E:Env}:∀ {l:List Atom} {ds:List Dt},vals E l=some ds->∀ {q:Nat} {d:Dt},ds[q]?=some d->∃x,l[q]?=some x/\x.val E=some d
 | [],ds,h,q,d,hd=>by simp only[vals,zY00]at h;subst h;cases hd
 |x::l,ds,h,q,d,hd=>by
  simp only[vals,zY0a,zY01,zY1e,zY00]at h;obtain⟨y,hy,r,hr,rfl⟩:=h;cases q with
  |zero=>simp only[zY05,zY00]at hd;subst hd;exact⟨x,rfl,hy⟩
  |succ q=>simpa using zqt hr zX1c
theorem z01m{E:Env}:∀ {l:List Atom} {ds:List Dt},vals E l=some ds->ds.length=l.length
 | [],ds,h=>by simp only[vals,zY00]at h;subst h;rfl
 |x::l,ds,h=>by simp only[vals,zY0a,zY01,zY1e,zY00]at h;obtain⟨y,hy,r,hr,rfl⟩:=h;simp[z01m hr]
theorem z01n{l:List Atom}{i:Atom}{d:Dt}(h:denX sp E (.sel l i)=some d):∃m:Int,asI (i.val E)=some m/\0<=m/\∃x,l[m.toNat]?=some x/\x.val E=some d:=by
 simp only[denX]at h;split at h
 ·rename_i m ds hm hds;split at h
  ·rename_i h0;obtain⟨x,hx,hv⟩:=zqt hds h;exact⟨m,hm,h0,x,hx,hv⟩
  ·cases h
 ·cases h
theorem zsi{W:World}{e n len:Nat}{v:Value}{xs:List Value}(h:W.ownsRow base e sz v n xs)(hv:v=.slice (some ⟨g,0,none⟩) len cap\/v=.pointer (some ⟨g,0,none⟩)):v=.slice (some ⟨g,0,none⟩) len cap:=by
 rcases hv with hv|hv
 ·exact hv
 ·rcases h.2 with⟨hn,_⟩|⟨_,_,_,hn,_⟩<;>(rw[hn]at hv;cases hv)
theorem z0ce{x:Operand}(h:Sim w0 F0 E τ ω a W ρ)(ho:o.op=.load t x)(hr:(zvg cx n o t x).run τ ω=some e)(hf:Facts sp E n e)(hty:∀t i,cx.ti t=some i->TyOk P t i):o.wp P a W (z2h w0 F0 E τ ω e.ws) Q:=by
 unfold zvg at hr;simp only[run_bind,z0l,zY01]at hr;obtain⟨ti,hti,c,h1,h2⟩:=hr;have ht:=hty t ti hti;have hc:=z35 h h1;have boxes:∀(k off:Nat) (cs:List C1),CapR (ctx w0 F0 E ω ρ W) (k,off) (a.eval x)->off+ti.n<=cs.length->(∃g q vs,ρ k=.pointer (some ⟨g,q,none⟩)/\W.rangeAt g q vs/\C1Rs (ctx w0 F0 E ω ρ W) cs vs)->∀sv,(zbp ti.agg ((cs.drop off).take ti.n)).run τ ω=some sv->o.wp P a W (z2h w0 F0 E τ ω (z07 o sv)) Q:=by intro k off cs hp hle hob sv hsv;obtain⟨_,g,q,hρ,hv⟩:=hp;obtain⟨g',q',vs,hρ',hrg,hcs⟩:=hob;simp only[ctx]at hρ;rw[hρ']at hρ;simp only[Value.pointer.injEq,zY00,Addr.mk.injEq]at hρ;obtain⟨rfl,rfl,_⟩:=hρ;have hlen:=hcs.len;obtain⟨v,hv',hs⟩:=zbt ht (us:=(vs.drop off).take ti.n) (by rw[zY0d,zY0w];omega) (zdi hrg) (hcs.part off ti.n) hsv;exact zr (zco ho hv hv') (h.goes o hs)
 cases c with
 |bp k off =>
  simp only[run_bind,z2y,zY01]at h2;obtain⟨ob,hob,h2⟩:=h2;split at h2
  ·rename_i t' cs;simp only[run_ite]at h2;split at h2
   ·rename_i hle;simp only[run_bind,z2s,run_pure,zY01,zY00]at h2;obtain⟨sv,hsv,rfl⟩:=h2;obtain⟨g,vs,b1,b2,b3,b4⟩:=h.objs k _ hob;exact boxes k off cs hc hle ⟨g,0,vs,b1,zjc b3,b4⟩ sv hsv
   ·cases h2
  ·rename_i cs;simp only[run_ite]at h2;split at h2
   ·rename_i hle;simp only[run_bind,z2s,run_pure,zY01,zY00]at h2;obtain⟨sv,hsv,rfl⟩:=h2;obtain⟨g,q,vs,b1,b2,b3,b4⟩:=h.objs k _ hob;exact boxes k off cs hc hle ⟨g,q,vs,b1,b3,b4⟩ sv hsv
   ·cases h2
  ·cases h2
 |ep xa i off =>
  simp only[run_bind,run_pure,zY01,zY00]at h2;obtain⟨sv,hsv,rfl⟩:=h2;obtain⟨sz,xs,m,b,q,y,vs,c1,c2,c3,c4,c5,c6,c7,c8⟩:=hc;have hfx:=zsh hf c1 c2 c3;have hcell:∀j,j<ti.n->∃d,y[off+j]?=some d/\E[n+j]?=some d:=λj hj=>by obtain⟨y',d,h3,h4,h5⟩:=hfx j hj;rw[c4]at h3;injection h3 with h3;subst h3;exact⟨d,h4,h5⟩
  obtain⟨v,hv,hs⟩:=zbt (W:=W) (b:=b) (q:=q+off) (c:=ctx w0 F0 E ω ρ W) ht (us:=(List.range ti.n).map λj=>vs (off+j)) zX4 (λj u hu=>by
   obtain⟨hlt,rfl⟩:=z37 hu;obtain⟨d,h3,_⟩:=hcell j hlt;rw[zY33];exact(c8 _ _ h3).1) (za8 zX4 λj u hu=>by
   obtain⟨hlt,rfl⟩:=z37 hu;obtain⟨d,h3,h4⟩:=hcell j hlt;exact⟨d,h4,(c8 _ _ h3).2⟩) hsv
  exact zr (zco ho c6 hv) (h.goes o hs)
 |rp k i sz off =>
  simp only[run_bind,z2y,zY01]at h2;obtain⟨ob,hob,h2⟩:=h2;split at h2
  ·rename_i e' z xa;simp only[run_ite]at h2;split at h2
   ·rename_i hz;subst hz;simp only[run_bind,run_pure,zY01,zY00]at h2;obtain⟨sv,hsv,rfl⟩:=h2;obtain⟨_,m,g,len,cap,c1,c2,c3,c4,c5⟩:=hc;obtain⟨xs,vs,b1,b2,b3,b4⟩:=h.objs k _ hob;have c4:=zsi b3 c4;obtain⟨y,vs',d1,d2,d3⟩:=z09c b2 b3 b4 c4 c2 c3;have hfx:=zsh hf b1 c1 c2;have hcell:∀j,j<ti.n->∃d,y[off+j]?=some d/\E[n+j]?=some d:=λj hj=>by obtain⟨y',d,h3,h4,h5⟩:=hfx j hj;rw[d1]at h3;injection h3 with h3;subst h3;exact⟨d,h4,h5⟩
    obtain⟨v,hv,hs⟩:=zbt (W:=W) (b:=g) (q:=m.toNat*z+off) (c:=ctx w0 F0 E ω ρ W) ht (us:=(List.range ti.n).map λj=>vs' (off+j)) zX4 (λj u hu=>by
     obtain⟨hlt,rfl⟩:=z37 hu;obtain⟨d,h3,_⟩:=hcell j hlt;rw[zY33];exact(d3 _ _ h3).1) (za8 zX4 λj u hu=>by
     obtain⟨hlt,rfl⟩:=z37 hu;obtain⟨d,h3,h4⟩:=hcell j hlt;exact⟨d,h4,(d3 _ _ h3).2⟩) hsv
    exact zr (zco ho c5 hv) (h.goes o hs)
   ·cases h2
  ·rename_i t' cs;simp only[run_ite]at h2;split at h2
   ·rename_i hz;obtain⟨rfl,rfl,hn1⟩:=hz;simp only[run_bind,z0l,run_pure,zY01,zY00]at h2;obtain⟨as0,has,sv,hsv,rfl⟩:=h2;obtain⟨_,m,g,len,cap,c1,c2,c3,c4,c5⟩:=hc;obtain⟨g',vs,b1,b2,b3,b4⟩:=h.objs k _ hob;simp only[ctx]at c1 c4 b1 b3;rcases c4 with c4|c4
    ·rw[b1]at c4;cases c4
    rw[b1]at c4;simp only[Value.pointer.injEq,zY00,Addr.mk.injEq]at c4;obtain⟨rfl,-,-⟩:=c4;obtain⟨d,hd,hn⟩:=hf.one;obtain⟨ds,hds,hreps⟩:=zao has b4;have hds':vals E as0=some ds:=hds;simp only[denX,c1,hds',zP c2]at hd;obtain⟨u,hu,hru⟩:=hreps.get hd;obtain⟨v,hv,hs⟩:=zbt (W:=W) (b:=g') (q:=m.toNat) (c:=ctx w0 F0 E ω ρ W) ht (us:=[u]) (by simp[hn1]) (λj u' hu'=>by
     match j,hu' with
     |0,hu' =>simp only[zY05,zY00]at hu';subst hu';exact zjc b3 _ _ hu |> λh=>by simpa using h) (za8 rfl λj u' hu'=>by
     match j,hu' with
     |0,hu' =>simp only[zY05,zY00]at hu';subst hu';exact⟨d,hn,hru⟩) hsv
    exact zr (zco ho (by rw[c5,Nat.mul_one,zY28]) hv) (h.goes o hs)
   ·cases h2
  ·cases h2
 |_=>cases h2
theorem zvs{x y:Operand}(h:Sim w0 F0 E τ ω a W ρ)(ho:o.op=.indexAddr t x y)(hr:(zt cx kb n nt kn o).run τ ω=some e)(hf:Facts sp E n e)(hty:∀t i,cx.ti t=some i->TyOk P t i):o.wp P a W (z2h w0 F0 E τ ω e.ws) Q:=by
 unfold zt at hr;rw[ho]at hr;unfold zlw at hr;simp only[run_bind,z0l,zY01]at hr;obtain⟨ti,hti,hr⟩:=hr;have ht:=hty t ti hti;split at hr
 ·rename_i len et harr;simp only[zod,run_bind,zY01]at hr;obtain⟨i,hi,c,h1,h2⟩:=hr;obtain⟨di,hdi,hri⟩:=z36 h hi;have hc:=z35 h h1;cases c with
  |bp k off =>
   simp only[run_bind,z2y,zY01]at h2;obtain⟨ob,hob,h2⟩:=h2;split at h2
   ·rename_i t' cs;simp only[run_ite]at h2;split at h2
    ·rename_i hcond;obtain⟨rfl,hlen⟩:=hcond;simp only[run_pure,zY00]at h2;subst h2;obtain⟨g,vs,b1,b2,b3,b4⟩:=h.objs k _ hob;obtain⟨hlv,g',q,hρ,hv⟩:=hc;simp only[ctx]at hρ b1 b3;have hρ':=hρ;rw[b1]at hρ;simp only[Value.pointer.injEq,zY00,Addr.mk.injEq]at hρ;obtain⟨rfl,rfl,_⟩:=hρ;obtain⟨m,hm,hm0,xa,hxa,-⟩:=z01n (hf.2 _ (zY0i ..));have hlt:m.toNat<len:=by
      have:=(zY02.1 hxa).1
      rwa [zY25]at this
     have e1:=z2z hm;rw[hdi]at e1;injection e1 with e1;subst e1;have hey:=(z3n hri).1;refine zr (v:=.pointer (some ⟨g,0+m.toNat,none⟩)) ?_ (h.goes o ⟨hlv,m,g,len,0,hm,hm0,by omega,.inr hρ',by simp⟩);unfold execOp;simp only[ho,hv,hey,zY28,Sem.run_bind,ht.indexArr harr hm0 (show m<(len:Int)by omega),Result.andThen_ok,Sem.run_pure]
    ·cases h2
   ·cases h2
  |_=>cases h2
 simp only[run_bind,z0l,zY01]at hr;obtain⟨⟨et,sz,by_⟩,hel,i,hi,c,h1,h2⟩:=hr;obtain⟨di,hdi,hri⟩:=z36 h hi;have hc:=z35 h h1;have hexec:∀b q len cap (m:Int),a.eval x=.slice (some ⟨b,q,none⟩) len cap->a.eval y=.int .i64 m->0<=m->m<(len:Nat)->(execOp a.eval o).run P W=.ok (.value (.pointer (some ⟨b,q+m.toNat*sz,none⟩))) W:=by intro b q len cap m hx hy h0 h3;unfold execOp;simp only[ho,hx,hy,Sem.run_bind,ht.indexAt hel h0 h3,Result.andThen_ok,Sem.run_pure]
 have inr_ok:∀xa,X.inr sz xa i∈e.ck->∀ {z xs},xa.val E=some (.l z xs)->∃m:Int,asI (i.val E)=some m/\a.eval y=.int .i64 m/\z=sz/\0<=m/\m<xs.length:=by
  intro xa hm z xs hxa;have:=hf.2 _ hm;simp only[denX,hxa]at this;split at this
  ·rename_i z' xs' m hz hm';injection hz with hz;injection hz with hz1 hz2;subst hz1;subst hz2;split at this
   ·rename_i hzz;simp only[zY00,Dt.b.injEq,decide_eq_true_eq]at this;refine⟨m,hm',?_,hzz,this.1,this.2⟩;have e1:=z2z hm';rw[hdi]at e1;injection e1 with e1;subst e1;exact(z3n hri).1
   ·cases this
  ·cases this
 have plain:∀(xa:Atom) (d:Dt),xa.val E=some d->Rep W (Frr w0 F0 ω ρ W) d (a.eval x)->X.inr sz xa i∈e.ck->e.ws=z07 o (.one (.ep xa i 0))->o.wp P a W (z2h w0 F0 E τ ω e.ws) Q:=by
  intro xa d hd hrep hm hws
  match d,hrep with
  |.l z xs,hrep =>
   obtain⟨m,hm1,hm2,rfl,h0,hlt⟩:=inr_ok xa hm hd;generalize hgx:a.eval x=vx at hrep;cases hrep with
   |l _ _ A n' cp b q vs g0 g1 g2 g3 g4 g5 g6 =>have hpos:0<xs.length:=zX0;obtain⟨rfl,hF⟩:=g4 hpos;have hlt':m.toNat<xs.length:=zX0;rw[hws];refine zr (hexec b q n' cp m hgx hm2 h0 zX0) (h.goes o ⟨z,xs,m,b,q+m.toNat*z,xs[m.toNat],λj=>vs m.toNat j,hd,hm1,h0,zY03 hlt',g3 _ (zY1y hlt'),rfl,hF,λj d hj=>⟨g5 _ j _ d (zY03 hlt') hj,g6 _ j _ d (zY03 hlt') hj⟩⟩)
  |.i k m,hrep=>have:=hf.2 _ hm;simp only[denX,hd]at this;cases this
  |.b z,hrep=>have:=hf.2 _ hm;simp only[denX,hd]at this;cases this
  |.e z,hrep=>have:=hf.2 _ hm;simp only[denX,hd]at this;cases this
  |.s z,hrep=>have:=hf.2 _ hm;simp only[denX,hd]at this;cases this
 cases c with
 | «at» xa =>simp only[run_pure,zY00]at h2;subst h2;obtain⟨d,hd,hrep⟩:=C1R.at_ hc;exact plain xa d hd hrep zX4 rfl
 |row k =>
  simp only[run_bind,z2y,zY01]at h2;obtain⟨ob,hob,h2⟩:=h2;split at h2
  ·rename_i e' z xa;simp only[run_ite]at h2;split at h2
   ·rename_i hz;subst hz;simp only[run_pure,zY00]at h2;subst h2;obtain⟨xs,vs,b1,b2,b3,b4⟩:=h.objs k _ hob;obtain⟨m,hm1,hm2,_,h0,hlt⟩:=inr_ok xa zX4 b1;obtain⟨hlv,hcv,h1c⟩:=hc;simp only[ctx]at hcv b3;rcases b3.2 with⟨hn,h00⟩|⟨g,cap,cur,hv',hb,hh,hnc,hcm,hcs,ht'⟩
    ·omega
    ·refine zr (hexec g 0 xs.length cap m (by rw[hcv,hv']) hm2 h0 hlt) (h.goes o ⟨hlv,m,g,xs.length,cap,hm1,h0,hlt,.inl hv',by simp⟩)
   ·cases h2
  ·rename_i xa;simp only[run_pure,zY00]at h2;subst h2;obtain⟨d,hd,hrep⟩:=h.objs k _ hob;obtain⟨hlv,hcv,h1c⟩:=hc;simp only[ctx]at hcv hrep;rw[<- hcv]at hrep;exact plain xa d hd hrep zX4 rfl
  ·cases h2
 |_=>cases h2
end
def FrzRel(ω ω1:List (Option Ob)):Prop:=ω1.length=ω.length/\∀k:Nat,ω1[k]?=ω[k]?\/∃e sz x,ω[k]?=some (some (.row e sz x))/\ω1[k]?=some (some (.frz x))
theorem FrzRel.refl(ω:List (Option Ob)):FrzRel ω ω:=⟨rfl,λ_=>.inl rfl⟩
theorem zsj{l:List α}{x:α}(h:l[k]?=some x):l.set k x=l:=by
 apply zY2w;intro j;by_cases e:k=j
 ·subst e;rw[zY0f (zY02.1 h).1,h]
 ·rw[zY0j e]
theorem zhf{k:Nat}:∀(ws:List Wr) (τ:List SV) (ω:List (Option Ob)),(∀w∈ws,w.loc ≠ .o k)->(wr τ ω ws).2[k]?=ω[k]?
 | [],_,_,_=>rfl
 |.t i v::ws,τ,ω,h=>zhf ws _ _ λw hw=>h w (zY0h _ hw)
 |.o i v::ws,τ,ω,h=>by rw[wr,zhf ws _ _ λw hw=>h w (zY0h _ hw)];exact zY0j λe=>h (.o i v) (zY0i ..) zX1n
section
variable {P:Program} {w0 W:World} {F0:Bk} {E:Env} {τ:List SV} {ω ω1:List (Option Ob)} {a:Act} {ρ:Nat->Value} {cx:Cx} {o:Oper} {e:Eff} {sp:Nat->zd} {n nt kb:Nat} {kn:List (Nat×Bool)} {Q:Exit->Act->World->Prop}
structure Frz(w0 W:World)(F0:Bk)(E:Env)(τ:List SV)(ω ω1 ω2:List (Option Ob))(a:Act)(ρ:Nat->Value):Prop where
 sim:Sim w0 F0 E τ ω2 a W ρ
 rel:FrzRel ω ω2
 le:(ctx w0 F0 E ω1 ρ W).Le (ctx w0 F0 E ω2 ρ W)
theorem zol(hω:FrzRel ω ω1)(h:Sim w0 F0 E τ ω1 a W ρ){c:C1}{x:Atom}{ws:List Wr}(hr:(frA c).run τ ω=some (x,ws)){v:Value}(hc:C1R (ctx w0 F0 E ω1 ρ W) c v) :
  (wr τ ω1 ws).1=τ/\Frz w0 W F0 E τ ω ω1 (wr τ ω1 ws).2 a ρ/\∃d,x.val E=some d/\Rep W (Frr w0 F0 (wr τ ω1 ws).2 ρ W) d v:=by
 cases c with
 | «at» y =>simp only[frA,run_pure,zY00,zY19]at hr;obtain⟨rfl,rfl⟩:=hr;exact⟨rfl,⟨h,hω,Ctx.Le.refl _⟩,C1R.at_ hc⟩
 |row k =>
  simp only[frA,run_bind,z2y,zY01]at hr;obtain⟨ob,hob,hr⟩:=hr;obtain⟨_,hv,_⟩:=hc;simp only[ctx]at hv;split at hr
  ·rename_i e' sz y;simp only[run_pure,zY00,zY19]at hr;obtain⟨rfl,rfl⟩:=hr;simp only[wr];have hlt:=(zY02.1 hob).1;have hrel:FrzRel ω (ω1.set k (some (.frz y))):=by
    refine⟨by simp[hω.1],λj=>?_⟩;by_cases ej:k=j
    ·subst ej;exact .inr ⟨e',sz,y,hob,zY0f (by rw[hω.1];exact hlt)⟩
    ·rw[zY0j ej];exact hω.2 j
   rcases hω.2 k with h1|⟨e2,sz2,y2,h1,h2⟩
   ·rw[hob]at h1;obtain⟨h3,h4⟩:=h.freeze h1;refine⟨trivial,⟨h3,hrel,h4⟩,?_⟩;have:=h3.objs k _ (zY0f (zY02.1 h1).1);rw[hv];exact this
   ·rw[hob]at h1;simp only[zY00,Ob.row.injEq]at h1;obtain⟨_,_,rfl⟩:=h1;have e1:ω1.set k (some (.frz y))=ω1:=zsj h2;rw[e1]at hrel⊢;refine⟨trivial,⟨h,hrel,Ctx.Le.refl _⟩,?_⟩;rw[hv];exact h.objs k _ h2
  ·rename_i y;simp only[run_pure,zY00,zY19]at hr;obtain⟨rfl,rfl⟩:=hr;refine⟨rfl,⟨h,hω,Ctx.Le.refl _⟩,?_⟩;rcases hω.2 k with h1|⟨e2,sz2,y2,h1,h2⟩
   ·rw[hob]at h1;simp only[wr];rw[hv];exact h.objs k _ h1
   ·rw[hob]at h1;cases h1
  ·cases hr
 |_=>cases hr
theorem zbu:∀ {cs:List C1} {xs:List Atom} {ws:List Wr} {vs:List Value} {ω1:List (Option Ob)},FrzRel ω ω1->Sim w0 F0 E τ ω1 a W ρ->(zbo cs).run τ ω=some (xs,ws)->C1Rs (ctx w0 F0 E ω1 ρ W) cs vs ->
  (wr τ ω1 ws).1=τ/\Frz w0 W F0 E τ ω ω1 (wr τ ω1 ws).2 a ρ/\∃ds,vals E xs=some ds/\Reps W (Frr w0 F0 (wr τ ω1 ws).2 ρ W) ds vs
 | [],xs,ws,[],ω1,hω,h,hr,hc=>by simp only[zbo,run_pure,zY00,zY19]at hr;obtain⟨rfl,rfl⟩:=hr;exact⟨rfl,⟨h,hω,Ctx.Le.refl _⟩,[],rfl,trivial⟩
 |c::cs,xs,ws,v::vs,ω1,hω,h,hr,hc=>by simp only[zbo,run_bind,run_pure,zY01,zY00,zY19]at hr;obtain⟨⟨x,w⟩,h1,⟨ys,us⟩,h2,rfl,rfl⟩:=hr;obtain⟨g1,g2,d,g3,g4⟩:=zol hω h h1 hc.1;obtain⟨k1,k2,ds,k3,k4⟩:=zbu g2.rel g2.sim h2 (hc.2.mono g2.le);rw[z1f,g1];refine⟨k1,⟨k2.sim,k2.rel,⟨λ_ _=>rfl,λb hb=>k2.le.more b (g2.le.more b hb),λ_ _ y=>y,λj hj=>?_⟩⟩,d::ds,by simp[vals,g3,k3],g4.mono (λ_ _=>rfl) k2.le.more,k4⟩;exact⟨(k2.le.live j (g2.le.live j hj).1).1,rfl⟩
theorem z0ey(hω:FrzRel ω ω1)(h:Sim w0 F0 E τ ω1 a W ρ){c x:C1}{ws:List Wr}(hr:(frC c).run τ ω=some (x,ws)){v:Value}(hc:C1R (ctx w0 F0 E ω1 ρ W) c v) :
  (wr τ ω1 ws).1=τ/\Frz w0 W F0 E τ ω ω1 (wr τ ω1 ws).2 a ρ/\C1R (ctx w0 F0 E (wr τ ω1 ws).2 ρ W) x v:=by
 cases c with
 |row k =>
  simp only[frC,run_bind,zY01]at hr;obtain⟨⟨y,w⟩,h1,h2⟩:=hr;obtain⟨g1,g2,d,g3,g4⟩:=zol hω h h1 hc;cases y with
  |v m =>simp only[run_pure,zY00,zY19]at h2;obtain⟨rfl,rfl⟩:=h2;exact⟨g1,g2,d,g3,g4⟩
  |c l=>cases h2
 |_ =>simp only[frC,run_pure,zY00,zY19]at hr;obtain⟨rfl,rfl⟩:=hr;exact⟨rfl,⟨h,hω,Ctx.Le.refl _⟩,hc⟩
theorem z01o:∀ {cs xs:List C1} {ws:List Wr} {vs:List Value} {ω1:List (Option Ob)},FrzRel ω ω1->Sim w0 F0 E τ ω1 a W ρ->(zvh cs).run τ ω=some (xs,ws)->C1Rs (ctx w0 F0 E ω1 ρ W) cs vs ->
  (wr τ ω1 ws).1=τ/\Frz w0 W F0 E τ ω ω1 (wr τ ω1 ws).2 a ρ/\C1Rs (ctx w0 F0 E (wr τ ω1 ws).2 ρ W) xs vs
 | [],xs,ws,[],ω1,hω,h,hr,hc=>by simp only[zvh,run_pure,zY00,zY19]at hr;obtain⟨rfl,rfl⟩:=hr;exact⟨rfl,⟨h,hω,Ctx.Le.refl _⟩,trivial⟩
 |c::cs,xs,ws,v::vs,ω1,hω,h,hr,hc=>by simp only[zvh,run_bind,run_pure,zY01,zY00,zY19]at hr;obtain⟨⟨x,w⟩,h1,⟨ys,us⟩,h2,rfl,rfl⟩:=hr;obtain⟨g1,g2,g3⟩:=z0ey hω h h1 hc.1;obtain⟨k1,k2,k3⟩:=z01o g2.rel g2.sim h2 (hc.2.mono g2.le);rw[z1f,g1];refine⟨k1,⟨k2.sim,k2.rel,⟨λ_ _=>rfl,λb hb=>k2.le.more b (g2.le.more b hb),λ_ _ y=>y,λj hj=>?_⟩⟩,g3.mono k2.le,k3⟩;exact⟨(k2.le.live j (g2.le.live j hj).1).1,rfl⟩
theorem z09d{x:Operand}(h:Sim w0 F0 E τ ω a W ρ)(ho:o.op=.load t x)(hr:(zqq cx o t x).run τ ω=some e)(hty:∀t i,cx.ti t=some i->TyOk P t i):o.wp P a W (z2h w0 F0 E τ ω e.ws) Q:=by
 simp only[zqq,run_bind,z0l,zY01]at hr;obtain⟨ti,hti,c,h1,h2⟩:=hr;have ht:=hty t ti hti;have hc:=z35 h h1;cases c with
 |bp k off =>
  simp only[run_bind,z2y,zY01]at h2;obtain⟨ob,hob,h2⟩:=h2;split at h2
  ·rename_i t' cs;simp only[run_ite]at h2;split at h2
   ·rename_i hle;simp only[run_bind,run_pure,zY01,zY00]at h2;obtain⟨⟨xs,ws⟩,hfr,sv,hsv,rfl⟩:=h2;obtain⟨g,vs,b1,b2,b3,b4⟩:=h.objs k _ hob;obtain⟨_,g',q,hρ,hv⟩:=hc;simp only[ctx]at hρ b1;rw[b1]at hρ;simp only[Value.pointer.injEq,zY00,Addr.mk.injEq]at hρ;obtain⟨rfl,rfl,_⟩:=hρ;have hlen:=b4.len;obtain⟨g1,g2,g3⟩:=z01o (FrzRel.refl ω) h hfr (b4.part off ti.n);obtain⟨v,hv',hs⟩:=zbt ht (us:=(vs.drop off).take ti.n) (by rw[zY0d,zY0w];omega) (zdi (zjc b3)) g3 hsv;have hg:=g2.sim.goes o hs;refine zr (zco ho hv hv') ?_;unfold z2h at hg⊢;simp only[z1f,g1];exact hg
   ·cases h2
  ·cases h2
 |_=>cases h2
theorem zhg{x y:Operand}(ho:o.op=.store t x y){v:Value}(hx:a.eval x=.pointer (some p))(hy:a.eval y=v)(hr:(storeVar t p v).run P W=.ok () W'):(execOp a.eval o).run P W=.ok .skip W':=by unfold execOp;simp only[ho,hx,hy,Instr.storeAt,Instr.sureAddr,Sem.run_bind,Sem.run_pure,Result.andThen_ok,hr]
theorem zsk:∀(vs l:List Dt) (j:Nat),(z81 l j vs).length=l.length
 | [],_,_=>rfl
 |_::vs,l,j=>by rw[z81,zsk vs];simp
theorem zsl{xs:List (List Dt)}{sz:Nat}(h:∀x∈xs,x.length=sz){i:Nat}{y:List Dt}(hy:xs[i]?=some y):∀(ds:List Dt) (j:Nat) (z:List Dt),z.length=sz->j+ds.length<=sz->z81 (xs.set i z).flatten (i*sz+j) ds=(xs.set i (z81 z j ds)).flatten
 | [],j,z,_,_=>rfl
 |d::ds,j,z,hz,hj=>by
  simp only[zY08]at hj;rw[z81,z81];have hset:∀(xs:List (List Dt)) (i:Nat) (y:List Dt),(∀x∈xs,x.length=sz)->xs[i]?=some y->(xs.set i z).flatten.set (i*sz+j) d=(xs.set i (z.set j d)).flatten:=by
   intro xs;induction xs with
   |nil=>intro i y _ hy;cases hy
   |cons q qs ih =>
    intro i y hq hy;cases i with
    |zero =>simp only[zY0n,zY1q,zY3s,zY0z];rw[List.set_append_left _ _ zX0]
    |succ i =>simp only[zY0o,zY1q];have hql:=hq q (zY0i ..);rw[List.set_append_right _ _ (by rw[hql,zY21];omega),hql,show(i+1)*sz+j-sz=i*sz+j by rw[zY21];omega,ih i y (λx hx=>hq x (zY0h _ hx)) zXu]
  rw[hset xs i y h hy,zY33,zsl h hy ds (j+1) (z.set j d) (by simpa using hz) zX0]
theorem zsm{W:World}{F:Nat->Prop}:∀ {es:List Dt} {ws:List Value} {ds:List Dt} {vs:List Value} (j:Nat),Reps W F ds vs->Reps W F es ws->Reps W F (z81 ds j es) (z2c vs j ws)
 | [],[],_,_,_,h,_=>h
 |d::es,v::ws,ds,vs,j,h,k=>by
  rw[z81,z2c];refine zsm (j+1) ?_ k.2;refine Reps.of zX1i λi y u hy hu=>?_;by_cases ei:j=i
  ·subst ei;rw[zY2e]at hy hu;simp only[if_true]at hy hu;have hl:=h.len;split at hy
   ·rename_i hlt;rw[zP zX0]at hu;injection hy with hy;injection hu with hu;exact hy▸hu▸k.1
   ·cases hy
  ·rw[zY0j ei]at hy hu;obtain⟨w,hw,hr⟩:=h.get hy;rw[hw]at hu;injection hu with hu;exact hu▸hr
theorem zsn:∀(us vs:List Value) (j m:Nat),j+us.length<=m->(z2c vs j us).take m=z2c (vs.take m) j us
 | [],_,_,_,_=>rfl
 |u::us,vs,j,m,h=>by simp only[zY08]at h;rw[z2c,z2c,zsn us _ (j+1) m zX0,List.take_set]
theorem zn0{W:World}{e:Nat}{v:Value}{vs us:List Value}(h:W.ownsRow base e sz v m vs){len:Nat}(hv:v=.slice (some ⟨g,0,none⟩) len cap)(hj:j+us.length<=m*sz):(W.setCells g j us).ownsRow base e sz v m (z2c vs j us):=by
 refine⟨by rw[z2g];exact h.1,?_⟩;rcases h.2 with⟨hn,_⟩|⟨g',cap',cur,hv',hb,hh,hnc,hcm,hcs,ht⟩
 ·rw[hn]at hv;cases hv
 ·rw[hv']at hv;simp only[Value.slice.injEq,zY00,Addr.mk.injEq]at hv;obtain⟨⟨rfl,_⟩,rfl,rfl⟩:=hv;have hh':=z2k us j W cur.toList (by simpa using hh);refine .inr ⟨g',cap',(z2c cur.toList j us).toArray,hv',hb,hh',hnc,hcm,by simp[z2g,hcs],?_⟩;rw[zY34,zsn _ _ _ _ hj,ht]
theorem z09e{x y:Operand}(h:Sim w0 F0 E τ ω a W ρ)(ho:o.op=.store t x y)(hr:(zt cx kb n nt kn o).run τ ω=some e)(hf:Facts sp E n e)(hty:∀t i,cx.ti t=some i->TyOk P t i):o.wp P a W (z2h w0 F0 E τ ω e.ws) Q:=by
 unfold zt at hr;rw[ho]at hr;unfold z01g at hr;simp only[run_bind,z0l,run_ite,zY01]at hr;obtain⟨ti,hti,sv,h1,cs',h2,hr⟩:=hr;split at hr
 ·cases hr
 rename_i hnot;simp only[not_or,ne_eq,zY0u,zY2v]at hnot;obtain⟨hlen,hok⟩:=hnot;simp only[run_bind,zY01]at hr;obtain⟨c,h3,hr⟩:=hr;have ht:=hty t ti hti;obtain⟨us,hu,hcs⟩:=zdh h2 (z5h h h1);have hul:=hcs.len;have h1c:=hcs.one hok;have hcells:(a.eval y).cells=us.toArray:=by
  rcases hu with hu|hu
  ·rw[hu];rfl
  ·rw[hu]at h1c⊢;exact zan (h1c _ zX4)
 have hshape:a.eval y=.agg us.toArray\/(a.eval y).oneCell'=true:=by
  rcases hu with hu|hu
  ·exact .inl hu
  ·exact .inr (h1c _ (by rw[hu];simp))
 have hc:=z35 h h3;cases c with
 |bp k off =>
  simp only[run_bind,z2y,zY01]at hr;obtain⟨ob,hob,hr⟩:=hr;split at hr
  ·rename_i t' cs;simp only[run_ite]at hr;split at hr
   ·rename_i hle;simp only[run_pure,zY00]at hr;subst hr;obtain⟨g,vs,b1,b2,b3,b4⟩:=h.objs k _ hob;obtain⟨_,g',q,hρ,hv⟩:=hc;simp only[ctx]at hρ b1 b3;rw[b1]at hρ;simp only[Value.pointer.injEq,zY00,Addr.mk.injEq]at hρ;obtain⟨rfl,rfl,_⟩:=hρ;have hvl:=b4.len;have hs:=ht.store (W:=W) (b:=g) (o:=off) hcells hshape zX0 (zja b3 (fr:=(0,0)) zX0) h1c;have h4:=h.store (off:=off) hob hcs b1;refine zhe (zhg ho (by rw[hv,zY0z]) rfl hs) ⟨ρ,?_⟩;exact h4.dst o (sv:=.one .und) (v:=undef) rfl
   ·cases hr
  ·cases hr
 |rp k i sz off =>
  simp only[run_bind,z2y,zY01]at hr;obtain⟨ob,hob,hr⟩:=hr;split at hr
  ·rename_i e' z xa;simp only[run_ite]at hr;split at hr
   ·rename_i hz;subst hz;simp only[run_bind,run_ite,zY01]at hr;obtain⟨⟨as0,ws⟩,hfr,hr⟩:=hr;simp only at hr;split at hr
    ·cases hr
    rename_i hnk;simp only[run_pure,zY00]at hr;subst hr;obtain⟨g1,g2,ds,g3,g4⟩:=zbu (FrzRel.refl ω) h hfr hcs;obtain⟨d,hd,hn⟩:=hf.one;have hk2:(wr τ ω ws).2[k]?=some (some (.row e' z xa)):=by rw[zhf ws τ ω λw hw e=>hnk (zY36.2 ⟨w,hw,by simp[e]⟩)];exact hob
    obtain⟨_,m,g,len,cap,c1,c2,c3,c4,c5⟩:=hc;simp only[ctx]at c1 c4;obtain⟨xs,vs,b1,b2,b3,b4⟩:=g2.sim.objs k _ hk2;simp only[ctx]at b1 b3 b4;have c4:=zsi b3 c4;simp only[denX,b1,c1,g3]at hd;split at hd
    ·rename_i hcond;simp only[zY0t]at hd;obtain⟨yv,hy,rfl⟩:=hd;have hyl:=b2 yv (zY06 hy);have hlt:=(zY02.1 hy).1;have hdl:=g4.len;have hpos:m.toNat*z+z<=xs.length*z:=by
      have:=zY1s z (show m.toNat+1<=xs.length by omega)
      rwa [zY21]at this
     have hown:=zn0 (us:=us) b3 c4 (j:=m.toNat*z+off) zX0;have hgl:=z3p b3 (g:=g) (by rw[c4];rfl);have hthr:W.there g (m.toNat*z+off) us.length:=by
      rcases b3.2 with⟨hnn,_⟩|⟨g',cap',cur,hv',hb,hh,hnc,hcm,hcs',ht'⟩
      ·rw[hnn]at c4;cases c4
      ·rw[hv']at c4;simp only[Value.slice.injEq,zY00,Addr.mk.injEq]at c4;obtain⟨⟨rfl,_⟩,rfl,rfl⟩:=c4;have hcl:xs.length*z<=cur.size:=by rw[hcs'];exact zY1s _ hnc
       exact zja (vs:=cur.toList) (t:=e') (fr:=(0,0)) (by simpa using hh) zXa
     have hs:=ht.store (W:=W) (b:=g) (o:=m.toNat*z+off) hcells hshape zX0 hthr h1c;have h4:Sim w0 F0 E τ ((wr τ ω ws).2.set k (some (.row e' z (.v n)))) a (W.setCells g (m.toNat*z+off) us) ρ:=by
      refine g2.sim.sameBlock hk2 (ze9 hgl.1) (λb hb=>z2t _ _ _ _ _ (λe=>hb (by rw[e];simp only[own];rw[c4];rfl))) (λb hb=>hb) λhle _=>?_;refine⟨xs.set m.toNat (z81 yv off ds),z2c vs (m.toNat*z+off) us,hn,?_,by rw[zY2q];exact hown,?_⟩
      ·intro x hx;rcases List.mem_or_eq_of_mem_set hx with h'|h'
       ·exact b2 x h'
       ·rw[h',zsk];exact hyl
      ·rw[<- zsl b2 hy ds off yv hyl zX0];have e1:xs.set m.toNat yv=xs:=zsj hy;rw[e1];exact zsm _ (b4.mono hle.agree hle.more) (g4.mono hle.agree hle.more)
     have h5:=h4.dst o (sv:=.one .und) (v:=undef) rfl;refine zhe (zhg ho c5 rfl hs) ⟨ρ,?_⟩;simp only[z1f,g1];exact h5
    ·cases hd
   ·cases hr
  ·rename_i t' cs;simp only[run_ite]at hr;split at hr
   ·rename_i hz;obtain⟨rfl,rfl⟩:=hz;simp only[run_bind,z0l,run_ite,zY01]at hr;obtain⟨⟨bs,ws⟩,hfr,as0,has,hr⟩:=hr;simp only at hr;split at hr
    ·cases hr
    rename_i hnk;simp only[not_or,ne_eq,zY0u]at hnk;obtain⟨hbs,hne,hnk⟩:=hnk;simp only[run_pure,zY00]at hr;subst hr;obtain⟨g1,g2,ds,g3,g4⟩:=zbu (FrzRel.refl ω) h hfr hcs;have hk2:(wr τ ω ws).2[k]?=some (some (.box t' cs)):=by rw[zhf ws τ ω λw hw e=>hnk (zY36.2 ⟨w,hw,by simp[e]⟩)];exact hob
    obtain⟨_,m,g,len,cap,c1,c2,c3,c4,c5⟩:=hc;simp only[ctx]at c1 c4;obtain⟨g',vs,b1,b2,b3,b4⟩:=g2.sim.objs k _ hk2;have b1':ρ k=.pointer (some ⟨g',0,none⟩):=b1;have b3':W.heap[g']?=some (.cells vs.toArray t' (0,0)):=b3;rcases c4 with c4|c4
    ·rw[b1']at c4;cases c4
    rw[b1']at c4;simp only[Value.pointer.injEq,zY00,Addr.mk.injEq]at c4;obtain⟨rfl,-,-⟩:=c4;obtain⟨dl,hdl,hreps⟩:=zao has b4;have hdl':vals E as0=some dl:=hdl
    match bs,hbs,g3 with
    | [va],_,g3 =>
    simp only[vals,zY0a,zY01,zY1e,zY00]at g3;obtain⟨dv,hdv,_,rfl,rfl⟩:=g3
    match us,g4 with
    | [u],g4 =>
    have hal:as0.length=dl.length:=(z01m hdl').symm;have hdvl:=hreps.len;have sel:∀j,j<as0.length->∃d x,E[n+j]?=some d/\((List.replicate as0.length (as0.getD j va)).set j va)[m.toNat]?=some x/\x.val E=some d:=by intro j hj;obtain⟨d,hd,hn⟩:=hf.1 j (.sel ((List.replicate as0.length (as0.getD j va)).set j va) i) (by simp[z05a,hj]);obtain⟨m',hm',h0',x,hx,hv⟩:=z01n hd;rw[c1]at hm';injection hm' with hm';subst hm';exact⟨d,x,hn,hx,hv⟩
    have hmlt:m.toNat<as0.length:=by obtain⟨d,x,-,hx,-⟩:=sel 0 zX0;have:=(zY02.1 hx).1;simpa using this
    have hs:=ht.store (W:=W) (b:=g') (o:=m.toNat) hcells hshape zX0 (zja b3' (fr:=(0,0)) zXa) h1c;have h4:Sim w0 F0 E τ ((wr τ ω ws).2.set k (some (.box t' (z4c n as0.length)))) a (W.setCells g' m.toNat [u]) ρ:=by
     refine g2.sim.sameBlock hk2 (ze9 b2) (λb hb=>z2t _ _ _ _ _ (λe=>hb (by rw[e];simp only[own];rw[b1']))) (λb hb=>by rw[b1']at hb⊢;exact hb) λhle _=>?_;refine⟨g',z2c vs m.toNat [u],b1,b2,z2k [u] m.toNat W vs b3',?_⟩;refine za8 (by rw[z2g];omega) λj w hw=>?_;have hjl:j<as0.length:=by have:=(zY02.1 hw).1;rw[z2g]at this;omega
     obtain⟨d,x,hn,hx,hv⟩:=sel j hjl;refine⟨d,hn,?_⟩;have hset:z2c vs m.toNat [u]=vs.set m.toNat u:=rfl;rw[hset]at hw;by_cases hj:m.toNat=j
     ·subst hj;rw[zY0f (by simpa using hjl)]at hx;injection hx with hx;subst hx;rw[hdv]at hv;injection hv with hv;subst hv;rw[zY0f zX0]at hw;injection hw with hw;subst hw;exact g4.1.mono hle.agree hle.more
     ·rw[zY0j (λe=>hj e.symm)]at hx;rw[zY0j hj]at hw;have hx':as0.getD j va=x:=by rw[zY32,zP hmlt]at hx;injection hx
      have hgx:as0[j]?=some x:=by rw[<- hx',zY0r,zY03 hjl];rfl
      have hdj:dl[j]?=some d:=by
       obtain⟨d',hd'⟩:∃d',dl[j]?=some d':=⟨_,zY03 zX0⟩
       obtain⟨y,hy,hyv⟩:=zqt hdl' hd';rw[hgx]at hy;injection hy with hy;subst hy;rw[hv]at hyv;injection hyv with hyv;rw[hd',hyv]
      obtain⟨w',hw',hr'⟩:=hreps.get hdj;rw[hw]at hw';injection hw' with hw';subst hw';exact hr'.mono hle.agree hle.more
    have h5:=h4.dst o (sv:=.one .und) (v:=undef) rfl;refine zhe (zhg ho (by rw[c5,Nat.mul_one,zY28]) rfl hs) ⟨ρ,?_⟩;simp only[z1f,g1];exact h5
   ·cases hr
  ·cases hr
 |_=>cases hr
theorem z3j{i:Int}{y:Nat}{code:BoundsCode}{k:IntKind}(h0:0<=i)(h1:i<=y):(Instr.sliceBound (.int k i) y code).run P W=.ok i.toNat W:=by
 have:(0<=i/\i<=y):=⟨h0,h1⟩
 simp[Instr.sliceBound,asIntOf,this]
theorem zso(hu:P.underlying t=some (.slice et)){ie:TypeInfo}(hie:P.info? et=some ie){A:Option Addr}(hmc:m<=c){lo hi:Option Value}{l hh:Int}(hlo:(lo=none/\l=0)\/∃k,lo=some (.int k l))(hhi:(hi=none/\hh=m)\/∃k,hi=some (.int k hh))(h0:0<=l)(h1:l<=hh)(h2:hh<=m) :
  (Instr.sliceAt t (.slice A m c) lo hi none).run P W=.ok (.slice (if c=l.toNat then A else A.map (·.add (l.toNat*ie.size))) (hh.toNat-l.toNat) (c-l.toNat)) W:=by
 have e1:(Instr.sliceBounds true m c lo hi none).run P W=.ok (l.toNat,hh.toNat,c) W:=by
  unfold Instr.sliceBounds;rcases hlo with⟨rfl,rfl⟩|⟨k,rfl⟩<;>rcases hhi with⟨rfl,rfl⟩|⟨k',rfl⟩
  ·simp
  ·simp[z3j (P:=P) (W:=W) (i:=hh) (y:=c) zX0 zX0]
  ·simp[z3j (P:=P) (W:=W) (i:=l) (y:=m) zX0 zX0]
  ·simp[z3j (P:=P) (W:=W) (i:=hh) (y:=c) zX0 zX0,z3j (P:=P) (W:=W) (i:=l) (y:=hh.toNat) zX0 zX0]
 simp[Instr.sliceAt,Instr.slice,run_underlying hu,e1,sizeOf,typeInfo,hie]
theorem z01p{W:World}{xs:List (List Dt)}{A:Option Addr}(h:Rep W F (.l sz xs) (.slice A m c)){l hh:Nat}(h1:l<=hh)(h2:hh<=xs.length) :
  Rep W F (.l sz ((xs.take hh).drop l)) (.slice (if c=l then A else A.map (·.add (l*sz))) (hh-l) (c-l)):=by
 cases h with
 |l _ _ _ _ _ b o vs g0 g1 g2 g3 g4 g5 g6 =>
  have hlen:((xs.take hh).drop l).length=hh-l:=by rw[zY0w,zY0d];omega
  have hget:∀i x,((xs.take hh).drop l)[i]?=some x->xs[l+i]?=some x:=by
   intro i x hx;rw[zY1p,zY17]at hx;split at hx
   ·exact hx
   ·cases hx
  refine .l sz _ _ _ _ b (o+l*sz) (λi j=>vs (l+i) j) hlen.symm zX0 zX0 (λx hx=>?_) (λhp=>?_) (λi j x d hx hd=>?_) (λi j x d hx hd=>g6 _ j x d (hget i x hx) hd)
  ·exact g3 x (zY2f (zY2g hx))
  ·obtain⟨rfl,hF⟩:=g4 zX0;rw[zN zX0];exact⟨by simp[Addr.add_mid],hF⟩
  ·have:=g5 (l+i) j x d (hget i x hx) hd;rw[show o+l*sz+i*sz+j=o+(l+i)*sz+j by rw[Nat.add_mul];omega];exact this
theorem zze{W:World}{e:Nat}{A:Option Addr}{vs:List Value}(h:W.ownsRow base e sz (.slice A m cap) m vs)(hq:q<=m):W.ownsRow base e sz (.slice (if cap=0 then A else A.map (·.add (0*sz))) q cap) q (vs.take (q*sz)):=by
 have hle:q*sz<=m*sz:=zY1s _ hq;refine⟨by rw[zY0d,h.1];omega,?_⟩;rcases h.2 with⟨hn,h0⟩|⟨g,cap',cur,hv,hb,hh,hnc,hcm,hcs,ht⟩
 ·injection hn with h1 h2 h3;subst h1;subst h3;have:q=0:=zX0;subst this;exact .inl ⟨rfl,rfl⟩
 ·injection hv with h1 h2 h3;subst h1;subst h3;refine .inr ⟨g,cap,cur,?_,hb,hh,by omega,hcm,hcs,?_⟩
  ·split
   ·rfl
   ·simp[Addr.add_mid]
  ·rw[<- ht,zY3b,zY2b hle]
theorem z05k{xs:List (List Dt)}(h:∀x∈xs,x.length=sz)(q:Nat):(xs.take q).flatten=xs.flatten.take (q*sz):=by
 induction xs generalizing q with
 |nil=>simp
 |cons y ys ih =>
  cases q with
  |zero=>simp
  |succ q =>have hy:=h y (zY0i ..);rw[zY35,zY1q,zY1q,ih (λz hz=>h z (zY0h _ hz)) q,zY21,List.take_append,show q*sz+sz-y.length=q*sz by omega];have e:y.take (q*sz+sz)=y:=zY0v zX0;rw[e]
theorem z05l(h:Sim w0 F0 E τ ω a W ρ){y:Option Operand}{r:Option Atom}(hyr:(evO cx y).run τ ω=some r):(y=none/\r=none)\/∃y' r',y=some y'/\r=some r'/\(∀q,asI (r'.val E)=some q->a.eval y' = .int .i64 q):=by
 cases y with
 |none=>simp only[evO,run_pure,zY00]at hyr;exact .inl ⟨rfl,hyr.symm⟩
 |some y' =>simp only[evO,run_bind,run_pure,zY01,zY00]at hyr;obtain⟨r',h1,rfl⟩:=hyr;refine .inr ⟨y',r',rfl,rfl,λq hq=>?_⟩;obtain⟨dd,hdd,hrr⟩:=z36 h h1;rw[z2z hq]at hdd;injection hdd with hdd;subst hdd;exact(z3n hrr).1
theorem z0ez{x:Operand}{lo hi:Option Operand}{l hh:Option Atom}{ie:TypeInfo}(h:Sim w0 F0 E τ ω a W ρ)(ho:o.op=.slice t x lo hi none)(hr:(z02r cx kb n o t x l hh et sz).run τ ω=some e)(hf:Facts sp E n e)(hu:P.underlying t=some (.slice et))(hie:P.info? et=some ie)(hsz:ie.size=sz)(hl:(evO cx lo).run τ ω=some l)(hhh:(evO cx hi).run τ ω=some hh):o.wp P a W (z2h w0 F0 E τ ω e.ws) Q:=by
 simp only[z02r,run_bind,zY01]at hr;obtain⟨k,hk,c,hc,hr⟩:=hr;obtain⟨hd,hk⟩:=z70 hk;have hcx:=z35 h hc;split at hr
 ·rename_i k0;simp only[run_bind,z2y,zY01]at hr;obtain⟨ob,hob,hr⟩:=hr;split at hr
  ·rename_i e' z xa;simp only[run_ite]at hr;split at hr
   ·rename_i hcond;obtain⟨rfl,rfl⟩:=hcond;simp only[run_pure,zY00]at hr;subst hr;obtain⟨xs,vs,b1,b2,b3,b4⟩:=h.objs k0 _ hob;obtain⟨d,hd',hn⟩:=hf.one;simp only[ctx]at b1 b3 b4;simp only[denX,b1,zY0a,zY01,bndI,zY00]at hd';obtain⟨lv,hlv,hv,hhv,hd'⟩:=hd';have hlv:lv=0:=hlv.symm;subst hlv;split at hd'
    ·rename_i hcond;obtain⟨_,_,c1,c2⟩:=hcond;injection hd' with hd';subst hd';obtain⟨_,hxv,_⟩:=hcx;simp only[ctx]at hxv;have hlo:lo=none:=by
      rcases z05l h hl with⟨h1,_⟩|⟨_,_,_,h2,_⟩
      ·exact h1
      ·cases h2
     subst hlo;have hshape:∃A cap,ρ k0=.slice A xs.length cap/\xs.length<=cap:=by
      rcases b3.2 with⟨hn0,h0⟩|⟨g,cap,cur,hv',hb,hh',hnc,hcm,hcs,ht⟩
      ·exact⟨none,0,by rw[hn0,h0],by omega⟩
      ·exact⟨_,cap,hv',hnc⟩
     obtain⟨A,cap,hA,hcap⟩:=hshape;have hhi:((hi.map a.eval)=none/\hv=(xs.length:Int))\/∃k,hi.map a.eval=some (.int k hv):=by
      rcases z05l h hhh with⟨rfl,rfl⟩|⟨y',r',rfl,rfl,hq⟩
      ·simp only[bndI,zY00]at hhv;exact .inl ⟨rfl,hhv.symm⟩
      ·exact .inr ⟨.i64,by rw[zY1i,hq _ hhv]⟩
     have hrun:=zso (P:=P) (W:=W) hu hie (A:=A) (m:=xs.length) (c:=cap) hcap (lo:=none) (l:=0) (.inl ⟨rfl,rfl⟩) hhi zX0 c1 zX0;rw[hsz]at hrun;have hq:hv.toNat<=xs.length:=zX0;rw[hA]at b3;have hrow:=zze b3 hq;have hv0:(0:Int).toNat=0:=rfl;simp only[hv0,Nat.sub_zero]at hrun;generalize hvv:Value.slice (if cap=0 then A else A.map (·.add (0*z))) hv.toNat cap=vv at hrun hrow;have hblk:∀g,vv.ownBlock=some g->(ρ k0).ownBlock=some g:=by
      intro g hg;rw[<- hvv]at hg;rw[hA];cases A with
      |none=>split at hg<;>cases hg
      |some ad=>split at hg<;>simpa[Value.ownBlock,Addr.add]using hg
     have hb3:∀g,(ρ k0).ownBlock=some g->w0.heap.size<=g/\g<W.heap.size:=λg hg=>by rw[hA]at hg;exact z3p b3 hg
     have hlt:=(zY02.1 hk).1;have hkk:k≠k0:=λe=>by rw[e]at hk;rw[hk]at hob;cases hob
     have hlt0:=(zY02.1 hob).1;have hgk:∀o',((ω.set k0 (some .dead)).set k (some (.row e' z (.v n))))[k0]?=some (some o')->o' = .dead:=by intro o' h1;rw[zY0j hkk,zY0f hlt0]at h1;simp only[zY00]at h1;exact h1.symm
     have hgd:∀o',((ω.set k0 (some .dead)).set k (some (.row e' z (.v n))))[k]?=some (some o')->o' = .row e' z (.v n):=by intro o' h1;rw[zY0f zXi]at h1;simp only[zY00]at h1;exact h1.symm
     have hnew:Sim w0 F0 E τ ((ω.set k0 (some .dead)).set k (some (.row e' z (.v n)))) a W (upd ρ k vv):=by
      refine h.gen [k0,k] (Below.refl _ _) h.defers h.size (λj hj=>?_) (λj hj=>?_) (λb hb hno=>rfl) (λj hj o' ho' b hb=>?_) (λj hj j' hj' o1 o2 g h1 h2 h3 h4=>?_) (λhle _ j hj o' ho'=>?_) (λ_ _ t sv ht=>.inl ⟨ht,rfl⟩)
      ·simp only[zY0g,zY1k,or_false,not_or]at hj;rw[zY0j (Ne.symm hj.2),zY0j (Ne.symm hj.1)]
      ·refine⟨z6h zXi (z6h hlt0 hj),zgf _ _ λe=>?_⟩;obtain⟨q,hq⟩:=hj;rw[e,hk]at hq;cases hq
      ·simp only[zY0g,zY1k,or_false]at hj;rcases hj with rfl|rfl
       ·rw[hgk o' ho']at hb;simp only[own]at hb;cases hb
       ·rw[hgd o' ho',z1g]at hb;simp only[own]at hb;exact .inl ⟨k0,by simp,_,hob,by simp only[own];exact hblk b hb⟩
      ·simp only[zY0g,zY1k,or_false]at hj hj';rcases hj with rfl|rfl
       ·rw[hgk o1 h1]at h3;simp only[own]at h3;cases h3
       ·rcases hj' with rfl|rfl
        ·rw[hgk o2 h2]at h4;simp only[own]at h4;cases h4
        ·rfl
      ·simp only[zY0g,zY1k,or_false]at hj;rcases hj with rfl|rfl
       ·rw[hgk o' ho'];trivial
       ·rw[hgd o' ho'];have hdrop:(xs.take hv.toNat).drop (0:Int).toNat=xs.take hv.toNat:=zX4;rw[hdrop]at hn;refine⟨xs.take hv.toNat,vs.take (hv.toNat*z),hn,λx hx=>b2 x (zY2f hx),?_,?_⟩
        ·rw[show(ctx w0 F0 E ((ω.set k0 (some .dead)).set j (some (.row e' z (.v n)))) (upd ρ j vv) W).ρ j=vv from z1g _ _ _,zY0d,zY2b hq];exact hrow
        ·rw[z05k b2];exact(b4.mono hle.agree hle.more).take _
     refine zr (v:=vv) (W':=W) ?_ ⟨upd ρ k vv,?_⟩
     ·unfold execOp;simp only[ho,zY3v,hxv,hA,Sem.run_bind,hrun,Result.andThen_ok,Sem.run_pure]
     ·exact hnew.dst o (sv:=.one (.row k)) ⟨⟨_,zY0f zXi⟩,(z1g _ _ _).symm,by rw[<- hvv];rfl⟩
    ·cases hd'
   ·cases hr
  ·cases hr
 ·cases hr
theorem z05m(h:Sim w0 F0 E τ ω a W ρ){y:Option Operand}{r:Option Atom}(hyr:(evO cx y).run τ ω=some r) :
  (y=none/\r=none)\/∃y' r',y=some y'/\r=some r'/\(∀q,asI (r'.val E)=some q->a.eval y' = .int .i64 q):=by
 cases y with
 |none=>simp only[evO,run_pure,zY00]at hyr;exact .inl ⟨rfl,hyr.symm⟩
 |some y' =>simp only[evO,run_bind,run_pure,zY01,zY00]at hyr;obtain⟨r',h1,rfl⟩:=hyr;refine .inr ⟨y',r',rfl,rfl,λq hq=>?_⟩;obtain⟨dd,hdd,hrr⟩:=z36 h h1;rw[z2z hq]at hdd;injection hdd with hdd;subst hdd;exact(z3n hrr).1
theorem zvt(h:Sim w0 F0 E τ ω a W ρ){y:Option Operand}{r:Option Atom}(hyr:(evO cx y).run τ ω=some r){d v:Int}(hv:bndI E d r=some v):((y.map a.eval)=none/\v=d)\/∃k,y.map a.eval=some (.int k v):=by
 rcases z05m h hyr with⟨rfl,rfl⟩|⟨y',r',rfl,rfl,hq⟩
 ·simp only[bndI,zY00]at hv;exact .inl ⟨rfl,hv.symm⟩
 ·exact .inr ⟨.i64,by rw[zY1i,hq _ hv]⟩
theorem z034(hu:P.underlying t=some .string){s:ByteArray}{lo hi:Option Value}{l hh:Int}(hlo:(lo=none/\l=0)\/∃k,lo=some (.int k l))(hhi:(hi=none/\hh=s.size)\/∃k,hi=some (.int k hh))(h0:0<=l)(h1:l<=hh)(h2:hh<=s.size) :
  (Instr.sliceAt t (.string s) lo hi none).run P W=.ok (.string (s.extract l.toNat hh.toNat)) W:=by
 have e1:(Instr.sliceBounds false s.size s.size lo hi none).run P W=.ok (l.toNat,hh.toNat,s.size) W:=by
  unfold Instr.sliceBounds;rcases hlo with⟨rfl,rfl⟩|⟨k,rfl⟩<;>rcases hhi with⟨rfl,rfl⟩|⟨k',rfl⟩
  ·simp
  ·simp[z3j (P:=P) (W:=W) (i:=hh) (y:=s.size) zX0 zX0]
  ·simp[z3j (P:=P) (W:=W) (i:=l) (y:=s.size) zX0 zX0]
  ·simp[z3j (P:=P) (W:=W) (i:=hh) (y:=s.size) zX0 zX0,z3j (P:=P) (W:=W) (i:=l) (y:=hh.toNat) zX0 zX0]
 simp[Instr.sliceAt,Instr.slice,run_underlying hu,e1]
theorem z0cf{x:Operand}{lo hi:Option Operand}(h:Sim w0 F0 E τ ω a W ρ)(ho:o.op=.slice t x lo hi none)(hu:P.underlying t=some .string)(hr:(z02s cx n o t x lo hi).run τ ω=some e)(hf:Facts sp E n e):o.wp P a W (z2h w0 F0 E τ ω e.ws) Q:=by
 simp only[z02s,run_bind,run_pure,zY01,zY00]at hr;obtain⟨l,hl,hh,hhh,xa,hxa,rfl⟩:=hr;obtain⟨d0,hd0,hrep⟩:=z36 h hxa;obtain⟨d,hd,hn⟩:=hf.one;simp only[denX,hd0]at hd
 match d0,hrep with
 |.s xs,hrep =>
  simp only[zY0a,zY01]at hd;obtain⟨lv,hlv,hv,hhv,hd⟩:=hd;split at hd
  ·rename_i hcond;obtain⟨c0,c1,c2⟩:=hcond;injection hd with hd;subst hd;obtain⟨hx,hlen⟩:=zoj hrep;have hsz:(ByteArray.mk xs.toArray).size=xs.length:=by simp[ByteArray.size]
   have hrun:=z034 (P:=P) (W:=W) hu (s:=⟨xs.toArray⟩) (zvt h hl hlv) (by rw[hsz];exact zvt h hhh hhv) c0 c1 (by rw[hsz];exact c2);refine zr (v:=.string ⟨((xs.take hv.toNat).drop lv.toNat).toArray⟩) (W':=W) ?_ (h.goes o ⟨_,hn,.s _ (by rw[zY0w,zY0d];omega)⟩);unfold execOp;simp only[ho,zY3v,hx,Sem.run_bind,hrun,Result.andThen_ok,Sem.run_pure];rw[ByteArray.extract_mk,List.drop_take]
  ·cases hd
 |.l z xs,_=>cases hd
 |.i k m,_=>cases hd
 |.b z,_=>cases hd
 |.e z,_=>cases hd
theorem z09f{x:Operand}{lo hi:Option Operand}(h:Sim w0 F0 E τ ω a W ρ)(ho:o.op=.slice t x lo hi none)(hr:(zt cx kb n nt kn o).run τ ω=some e)(hf:Facts sp E n e)(hty:∀t i,cx.ti t=some i->TyOk P t i):o.wp P a W (z2h w0 F0 E τ ω e.ws) Q:=by
 unfold zt at hr;rw[ho]at hr;simp only[z01i,run_bind,z0l,run_ite,zY01]at hr;obtain⟨ti,hti,hr⟩:=hr;have ht:=hty t ti hti;split at hr
 ·rename_i hzs;exact z0cf h ho (ht.str hzs) hr hf
 simp only[run_bind,z0l,run_ite,zY01]at hr;obtain⟨⟨et,sz,by_⟩,hel,l,hl,hh,hhh,hr⟩:=hr;obtain⟨hu,ie,z,hie,_,hsz,_⟩:=ht.el _ _ _ hel;split at hr
 ·exact z0ez h ho hr hf hu hie hsz hl hhh
 simp only[run_bind,run_pure,zY01,zY00]at hr;obtain⟨c,hc,⟨xa,ws⟩,hfr,rfl⟩:=hr;obtain⟨g1,g2,d0,g3,g4⟩:=zol (FrzRel.refl ω) h hfr (z35 h hc);obtain⟨d,hd,hn⟩:=hf.one;have bnd:∀(y:Option Operand) (r:Option Atom),(evO cx y).run τ ω=some r ->
   (y=none/\r=none)\/∃y' r',y=some y'/\r=some r'/\(∀q,asI (r'.val E)=some q->a.eval y' = .int .i64 q):=by
  intro y r hyr;cases y with
  |none=>simp only[evO,run_pure,zY00]at hyr;exact .inl ⟨rfl,hyr.symm⟩
  |some y' =>simp only[evO,run_bind,run_pure,zY01,zY00]at hyr;obtain⟨r',h1,rfl⟩:=hyr;refine .inr ⟨y',r',rfl,rfl,λq hq=>?_⟩;obtain⟨dd,hdd,hrr⟩:=z36 h h1;rw[z2z hq]at hdd;injection hdd with hdd;subst hdd;exact(z3n hrr).1
 have b1:=bnd lo l hl;have b2:=bnd hi hh hhh;simp only[denX,g3]at hd
 match d0,g4 with
 |.l z0 xs,g4 =>
  simp only[zY0a,zY01]at hd;obtain⟨lv,hlv,hv,hhv,hd⟩:=hd;split at hd
  ·rename_i hcond;obtain⟨rfl,c0,c1,c2⟩:=hcond;injection hd with hd;subst hd;generalize hgx:a.eval x=vx at g4;have g4':=g4;cases g4' with
   |l _ _ A m cp b q vs k0 k1 k2 k3 k4 k5 k6 =>
    have hlo:((lo.map a.eval)=none/\lv=0)\/∃k,lo.map a.eval=some (.int k lv):=by
     rcases b1 with⟨rfl,rfl⟩|⟨y',r',rfl,rfl,hq⟩
     ·simp only[bndI,zY00]at hlv;exact .inl ⟨rfl,hlv.symm⟩
     ·exact .inr ⟨.i64,by rw[zY1i,hq _ hlv]⟩
    have hhi:((hi.map a.eval)=none/\hv=(m:Int))\/∃k,hi.map a.eval=some (.int k hv):=by
     rcases b2 with⟨rfl,rfl⟩|⟨y',r',rfl,rfl,hq⟩
     ·simp only[bndI,zY00]at hhv;exact .inl ⟨rfl,by rw[<- hhv,k0]⟩
     ·exact .inr ⟨.i64,by rw[zY1i,hq _ hhv]⟩
    have hrun:=zso (P:=P) (W:=W) hu hie (A:=A) (m:=m) (c:=cp) zX0 hlo hhi c0 c1 zX0;have hrep:=z01p g4 (l:=lv.toNat) (hh:=hv.toNat) zX0 zX0;rw[hsz]at hrun;refine zr (v:=.slice (if cp=lv.toNat then A else A.map (·.add (lv.toNat*z0))) (hv.toNat-lv.toNat) (cp-lv.toNat)) (W':=W) ?_ ⟨ρ,?_⟩
    ·unfold execOp;simp only[ho,zY3v,hgx,Sem.run_bind,hrun,Result.andThen_ok,Sem.run_pure]
    ·simp only[z1f,g1];exact g2.sim.dst o (sv:=.one (.at (.v n))) ⟨_,hn,hrep⟩
  ·cases hd
 |.s xs,g4=>cases hd
 |.i k m,g4=>cases hd
 |.b z,g4=>cases hd
 |.e z,g4=>cases hd
end
theorem zn1(h:m<=9223372036854775807):IntKind.i64.wrap (m:Int)=m:=by unfold IntKind.wrap;simp only[IntKind.bits,IntKind.signed,zY39,ge_iff_le,decide_eq_true_eq];split<;>omega
theorem zom(off:Nat):∀(us:List Value) (s:Nat) (vs:List Value),(us.zipIdx s).foldl (λ(cs:Array Value) (x:Value×Nat)=>cs.setIfInBounds (off+x.2) x.1) vs.toArray=(z2c vs (off+s) us).toArray
 | [],_,_=>rfl
 |u::us,s,vs=>by rw[List.zipIdx_cons,List.foldl_cons,z2c,zY09,zom off us (s+1)];rfl
theorem zsp{place:Nat->Option (Nat×Nat)}{i:Nat}{v:Value}{us vs:List Value}{rest:List (Nat×Value)}(hp:place i=some (off,us.length))(hv:v.cells=us.toArray)(hl:off+us.length<=vs.length) :
  Instr.fill place vs.toArray ((i,v)::rest)=Instr.fill place (z2c vs off us).toArray rest:=by
 have h1:v.cells.size=us.length:=by rw[hv];simp
 rw[Instr.fill];simp only[hp];rw[zN (by simp[h1];omega)];congr 1;rw[hv,<- Array.foldl_toList,Array.toList_zipIdx,zY34];exact zom off us 0 vs
def zon(c:Ctx):List (Nat×List C1)->List (Nat×Value)->Prop
 | [],[]=>True
 |(i,cs)::ps,(j,v)::vs=>i=j/\(∃us:List Value,v.cells=us.toArray/\C1Rs c cs us/\∀u∈us,u.oneCell'=true)/\zon c ps vs
 |_,_=>False
theorem zqu{place:Nat->Option (Nat×Nat)}{c:Ctx}:∀ {ps:List (Nat×List C1)} {cells cells':List C1} {parts:List (Nat×Value)} {vs:List Value},zbq place cells ps=some cells'->zon c ps parts->C1Rs c cells vs ->
  ∃vs':List Value,Instr.fill place vs.toArray parts=some vs'.toArray/\C1Rs c cells' vs'
 | [],cells,cells',[],vs,h,_,hc=>by simp only[zbq,zY00]at h;subst h;exact⟨vs,rfl,hc⟩
 |(i,cs)::ps,cells,cells',(j,v)::parts,vs,h,hp,hc=>by
  obtain⟨rfl,⟨us,h1,h2,_⟩,h3⟩:=hp;unfold zbq at h;split at h
  ·cases h
  ·rename_i off n hpl;split at h
   ·rename_i hcond;have hl:=h2.len;have hvl:=hc.len;rw[zsp (us:=us) (by rw[hpl,<- hcond.1,hl]) h1 zX0];exact zqu h h3 (hc.setAll off h2)
   ·cases h
section
variable {P:Program} {w0 W:World} {F0:Bk} {E:Env} {τ:List SV} {ω:List (Option Ob)} {a:Act} {ρ:Nat->Value} {cx:Cx} {o:Oper} {e:Eff} {sp:Nat->zd} {n nt kb:Nat} {kn:List (Nat×Bool)} {Q:Exit->Act->World->Prop}
theorem zdj(h:Sim w0 F0 E τ ω a W ρ):∀ {parts:List (Nat×Operand)} {ps:List (Nat×List C1)},(zdx cx parts).run τ ω=some ps->zon (ctx w0 F0 E ω ρ W) ps (parts.map λp=>(p.1,a.eval p.2))/\ps.length=parts.length
 | [],ps,hr=>by simp only[zdx,run_pure,zY00]at hr;subst hr;exact⟨trivial,rfl⟩
 |(i,x)::parts,ps,hr=>by
  simp only[zdx,run_bind,z0l,run_ite,zY01]at hr;obtain⟨sv,h1,cs,h2,r,h3,hr⟩:=hr;split at hr
  ·cases hr
  rename_i hok;simp only[run_pure,zY00]at hr;subst hr;obtain⟨us,hu,hc⟩:=zdh h2 (z5h h h1);have hone:=hc.one (by simpa using hok);have hcells:(a.eval x).cells=us.toArray:=by
   rcases hu with hu|hu
   ·rw[hu];rfl
   ·rw[hu]at hone⊢;exact zan (hone _ zX4)
  obtain⟨k1,k2⟩:=zdj h h3;exact⟨⟨rfl,⟨us,hcells,hc,hone⟩,k1⟩,by simp[k2]⟩
theorem z09g{parts:Array (Nat×Operand)}(h:Sim w0 F0 E τ ω a W ρ)(ho:o.op=.build t parts)(hr:(zt cx kb n nt kn o).run τ ω=some e)(hty:∀t i,cx.ti t=some i->TyOk P t i):o.wp P a W (z2h w0 F0 E τ ω e.ws) Q:=by
 unfold zt at hr;rw[ho]at hr;simp only[run_bind,z0l,run_ite,zY01]at hr;obtain⟨ti,hti,ps,hps,hr⟩:=hr;split at hr
 ·cases hr
 rename_i hnot;simp only[not_or,not_and,ne_eq,zY0u]at hnot;have ht:=hty t ti hti;split at hr
 ·rename_i hsome;obtain⟨⟨len,et⟩,harr⟩:=zY2z.1 hsome;simp only[run_bind,z0l,z2s,run_pure,zY01,zY00]at hr;obtain⟨cs,hcs,rfl⟩:=hr;obtain⟨hp,_⟩:=zdj h hps;obtain⟨it,z,hi,hz,hzl⟩:=ht.zero hnot.1;obtain⟨hu,ie,de,hie,hsz,_⟩:=ht.arr _ _ harr;obtain⟨vs',hf,hc⟩:=zqu hcs hp (z6z hzl (ctx w0 F0 E ω ρ W));have hb:P.built t (parts.map λp=>(p.1,a.eval p.2)).toList=some vs'.toArray:=by unfold Program.built;simp only[hi,hu,hz,hie,hsz];rw[zY3p,<- hf]
  refine zr (v:=.agg vs'.toArray) (W':=W) ?_ (h.goes o ⟨vs',rfl,hc⟩);unfold execOp;have:=run_build (P:=P) W t (parts.map λp=>(p.1,a.eval p.2)) _ hb;simp only[ho,Sem.run_bind];rw[show(parts.map λx=>match x with|(i,x)=>(i,a.eval x))=parts.map λp=>(p.1,a.eval p.2)from rfl,this];rfl
 rename_i hnone;simp only[run_bind,z0l,z2s,run_pure,zY01,zY00]at hr;obtain⟨cs,hcs,rfl⟩:=hr;obtain⟨hp,_⟩:=zdj h hps;obtain⟨it,z,hi,hz,hzl⟩:=ht.zero hnot.1;obtain⟨fs,hu,hm,_⟩:=ht.flds (λho=>hnone (by cases ha:ti.arr with|none=>exact absurd ha (hnot.2 ho)|some _=>rfl));obtain⟨vs',hf,hc⟩:=zqu hcs hp (z6z hzl (ctx w0 F0 E ω ρ W));have hb:P.built t (parts.map λp=>(p.1,a.eval p.2)).toList=some vs'.toArray:=by unfold Program.built;simp only[hi,hu,hz,hm];rw[zY3p,<- hf];simp only[zY1r,List.getElem?_toArray]
 refine zr (v:=.agg vs'.toArray) (W':=W) ?_ (h.goes o ⟨vs',rfl,hc⟩);unfold execOp;have:=run_build (P:=P) W t (parts.map λp=>(p.1,a.eval p.2)) _ hb;simp only[ho,Sem.run_bind];rw[show(parts.map λx=>match x with|(i,x)=>(i,a.eval x))=parts.map λp=>(p.1,a.eval p.2)from rfl,this];rfl
theorem zlx{E:Env}{sz:Nat}:∀ {m:Nat} {as0:List Atom} {r:List (List Dt)},as0.length=m*sz->valss E (zj8 sz m as0)=some r->vals E as0=some r.flatten/\r.length=m
 |0,as0,r,hl,h=>by simp only[zj8,valss,zY00]at h;subst h;have:as0=[]:=zY0c zXf;subst this;exact⟨rfl,rfl⟩
 |m+1,as0,r,hl,h=>by
  simp only[zj8,valss,zY0a,zY01,zY1e,zY00]at h;obtain⟨d,hd,ds,hds,rfl⟩:=h;rw[zY21]at hl;obtain⟨h1,h2⟩:=zlx (m:=m) (by rw[zY0w,hl];omega) hds;refine⟨?_,by simp[h2]⟩;have key:∀(xs ys:List Atom) (d1 d2:List Dt),vals E xs=some d1->vals E ys=some d2->vals E (xs++ys)=some (d1++d2):=by
   intro xs;induction xs with
   |nil=>intro ys d1 d2 h1 h2;simp only[vals,zY00]at h1;subst h1;exact h2
   |cons x xs ih =>intro ys d1 d2 h1 h2;simp only[vals,zY0a,zY01,zY1e,zY00]at h1;obtain⟨dx,hx,dxs,hxs,rfl⟩:=h1;simp[vals,hx,ih ys dxs d2 hxs h2]
  rw[<- zY10 sz as0,zY1q];exact key _ _ _ _ hd h1
theorem zea{E:Env}:∀ {as0:List Atom} {ds:List Dt},vals E as0=some ds->ds.length=as0.length
 | [],ds,h=>by simp only[vals,zY00]at h;subst h;rfl
 |a::as0,ds,h=>by simp only[vals,zY0a,zY01,zY1e,zY00]at h;obtain⟨d,_,ds',h2,rfl⟩:=h;simp[zea h2]
theorem zn2:∀(us pre mid post:List Value),us.length=mid.length->z2c (pre++mid++post) pre.length us=pre++us++post
 | [],pre,mid,post,h=>by have:mid=[]:=zY0c h.symm;subst this;simp[z2c]
 |u::us,pre,m::mid,post,h=>by
  rw[z2c];have e1:(pre++m::mid++post).set pre.length u=(pre++[u])++mid++post:=by simp[List.set_append_right]
  rw[e1,show pre.length+1=(pre++[u]).length by simp,zn2 us (pre++[u]) mid post zXt];simp
theorem zly{c:Ctx}{sz:Nat}:∀ {ps:List (Nat×List C1)} {i0:Nat} {parts:List (Nat×Value)} {pre junk:List Value},zle sz i0 ps=true->zon c ps parts->pre.length=i0*sz->junk.length=ps.length*sz ->
  ∃us:List Value,Instr.fill (λi=>some (i*sz,sz)) (pre++junk).toArray parts=some (pre++us).toArray/\C1Rs c (ps.flatMap (·.2)) us/\us.length=ps.length*sz/\∀u∈us,u.oneCell'=true
 | [],i0,[],pre,junk,_,_,_,hj=>by have:junk=[]:=zY0c zX14;subst this;exact⟨[],rfl,trivial,by simp,by simp⟩
 |(i,cs)::ps,i0,(j,v)::parts,pre,junk,ho,hp,hpre,hj=>by
  simp only[zle,zY0e,beq_iff_eq]at ho;obtain⟨⟨rfl,hcs⟩,ho⟩:=ho;obtain⟨rfl,⟨us,h1,h2,h3⟩,h4⟩:=hp;have hl:=h2.len;simp only[zY08,zY21]at hj;have hful:(pre++junk).length=pre.length+junk.length:=zY04;rw[zsp (us:=us) (by rw[<- hl,hcs]) h1 (by rw[hful];omega)];have e1:z2c (pre++junk) (i*sz) us=(pre++us)++junk.drop sz:=by have:=zn2 us pre (junk.take sz) (junk.drop sz) zXv;rw[zY1a,zY10,hpre]at this;exact this
  rw[e1];obtain⟨us',g1,g2,g3,g4⟩:=zly (pre:=pre++us) (junk:=junk.drop sz) ho h4 (by rw[zY04,zY21];omega) (by rw[zY0w];omega);refine⟨us++us',by rw[g1,zY1a],?_,by rw[zY04,zY08,zY21];omega,λu hu=>?_⟩
  ·rw[zY1x];exact h2.append g2
  ·rcases zY13.1 hu with h'|h'
   ·exact h3 u h'
   ·exact g4 u h'
theorem zn3{ω ω1:List (Option Ob)}(h:FrzRel ω ω1)(hk:ω[k]?=some none):ω1[k]?=some none:=by
 rcases h.2 k with h1|⟨_,_,_,h1,_⟩
 ·rw[h1];exact hk
 ·rw[hk]at h1;cases h1
theorem zvu:∀ {cs:List C1} {xs:List Atom} {ws:List Wr},(zbo cs).run τ ω=some (xs,ws)->xs.length=cs.length
 | [],xs,ws,hr=>by simp only[zbo,run_pure,zY00,zY19]at hr;obtain⟨rfl,rfl⟩:=hr;rfl
 |c::cs,xs,ws,hr=>by simp only[zbo,run_bind,run_pure,zY01,zY00,zY19]at hr;obtain⟨⟨x,w⟩,h1,⟨ys,us⟩,h2,rfl,rfl⟩:=hr;simp[zvu h2]
theorem zuf{len:Nat}{parts:Array (Nat×Operand)}(h:Sim w0 F0 E τ ω a W ρ)(ho:o.op=.buildSlice t len parts)(hr:(zt cx kb n nt kn o).run τ ω=some e)(hf:Facts sp E n e)(hty:∀t i,cx.ti t=some i->TyOk P t i):o.wp P a W (z2h w0 F0 E τ ω e.ws) Q:=by
 unfold zt at hr;rw[ho]at hr;simp only[run_bind,z0l,run_ite,zY01]at hr;obtain⟨ti,hti,⟨et,sz,by_⟩,hel,ps,hps,hr⟩:=hr;simp only at hr;split at hr
 ·cases hr
 rename_i hnot;simp only[not_or,ne_eq,zY0u,zY2v,Nat.not_lt]at hnot;obtain⟨hlen,hord,hmax⟩:=hnot;simp only[run_bind,run_pure,zY01,zY00]at hr;obtain⟨⟨as0,ws⟩,hfr,k,hk,rfl⟩:=hr;have ht:=hty t ti hti;obtain⟨hu,ie,z,hie,hz,hsz,hby,hzs,hpos,hsz2,_⟩:=ht.el _ _ _ hel;obtain⟨hd,hk⟩:=z70 hk;obtain⟨hp,hpl⟩:=zdj h hps;subst hlen;obtain⟨us,g1,g2,g3,g4⟩:=zly (pre:=[]) (junk:=((Array.range (ps.length*ie.size)).map (z.cells[· % z.cells.size]!)).toList) hord hp zX4 (by simp[hsz]);simp only[zY16,zY1r]at g1;obtain⟨q1,q2,ds,q3,q4⟩:=zbu (FrzRel.refl ω) h hfr g2;have hasl:=zvu hfr;have hal:as0.length=ps.length*sz:=by rw[hasl,g2.len,g3]
 obtain⟨d,hd0,hn⟩:=hf.one;simp only[denX,zY0a,zY01]at hd0;obtain⟨r,hr1,hd0⟩:=hd0;split at hd0
 ·rename_i hcond;obtain⟨hc1,hc2⟩:=hcond;injection hd0 with hd0;subst hd0;obtain⟨v1,v2⟩:=zlx hal hr1;rw[q3]at v1;injection v1 with v1;subst v1;have hrl:∀x∈r,x.length=sz:=λx hx=>by simpa using zY1j.1 hc1 x hx
  have hk2:=zn3 q2.rel hk;have hlt:=(zY02.1 hk2).1;have hnew:=q2.sim.new (W':=W.alloc (.cells us.toArray et)) hk2 ((Below.refl _ _).alloc (zY0k _) _) (.row et sz (.v n)) (.slice (some ⟨W.heap.size,0,none⟩) ps.length ps.length) (λb hb=>by simp only[own,Value.ownBlock,zY00]at hb;omega) (λhle=>?_)
  ·have hexec:(execOp a.eval o).run P W=.ok (.value (.slice (some ⟨W.heap.size,0,none⟩) ps.length ps.length)) (W.alloc (.cells us.toArray et)):=by
    have hsub:(Instr.buildSlice t ps.length (parts.map λp=>(p.1,a.eval p.2))).run P W=.ok (.slice (some ⟨W.heap.size,0,none⟩) ps.length ps.length) (W.alloc (.cells us.toArray et)):=by
     have hg1:Instr.fill (λi=>some (i*ie.size,ie.size)) ((Array.range (ps.length*ie.size)).map (z.cells[· % z.cells.size]!)) (parts.map λp=>(p.1,a.eval p.2)).toList=some us.toArray:=by rw[zY3p];simpa[hsz]using g1
     by_cases h0:ps.length*ie.size=0
     ·have hpn:ps.length=0:=by
       rcases Nat.mul_eq_zero.1 h0 with h|h
       ·exact h
       ·omega
      have hparts:parts=#[]:=zY3c (by rw[<- zY2h,<- hpl,hpn]);have hun:us=[]:=zY0c (by rw[g3,hpn];simp);subst hparts;subst hun;simp[Instr.buildSlice,run_underlying hu,sizeOf,typeInfo,hie,hpn,Instr.fill,newRow];congr 2;exact zY3c zX4
     ·refine run_buildSlice W t et ps.length _ us.toArray ie z hu hie hz ?_ h0 hg1;have:=Nat.mul_le_mul hmax (show ie.size<=1000 by omega);omega
    unfold execOp;simp only[ho,Sem.run_bind];rw[show(parts.map λx=>match x with|(i,x)=>(i,a.eval x))=parts.map λp=>(p.1,a.eval p.2)from rfl,hsub];rfl
   refine zr hexec ⟨upd ρ k (.slice (some ⟨W.heap.size,0,none⟩) ps.length ps.length),?_⟩;simp only[z1f,q1];exact hnew.dst o (sv:=.one (.row k)) ⟨⟨_,zY0f hlt⟩,(z1g _ _ _).symm,rfl⟩
  ·refine⟨r,us,hn,hrl,?_,q4.mono hle.agree hle.more⟩;rw[show(ctx w0 F0 E ((wr τ ω ws).2.set k (some (.row et sz (.v n)))) (upd ρ k (.slice (some ⟨W.heap.size,0,none⟩) ps.length ps.length)) (W.alloc (.cells us.toArray et))).ρ k=.slice (some ⟨W.heap.size,0,none⟩) ps.length ps.length from z1g _ _ _,v2];refine⟨g3,.inr ⟨W.heap.size,ps.length,us.toArray,rfl,h.bsz,heap_alloc_new W _,zY0k _,by unfold maxLen;omega,by simp[g3],?_⟩⟩;rw[zY34,zY0v zX0]
 ·cases hd0
theorem zvv(h:Sim w0 F0 E τ ω a W ρ){c:C1}{x:Atom}(hr:(slA c).run τ ω=some x){v:Value}(hc:C1R (ctx w0 F0 E ω ρ W) c v):∃d,x.val E=some d/\Rep W (Lt W.heap.size) d v:=by
 have hF:∀b,Frr w0 F0 ω ρ W b->Lt W.heap.size b:=λb hb=>h.frLt hb;cases c with
 | «at» y =>simp only[slA,run_pure,zY00]at hr;subst hr;obtain⟨d,h1,h2⟩:=C1R.at_ hc;exact⟨d,h1,h2.mono (λ_ _=>rfl) hF⟩
 |row k =>
  simp only[slA,run_bind,z2y,zY01]at hr;obtain⟨ob,hob,hr⟩:=hr;obtain⟨_,hv,_⟩:=hc;simp only[ctx]at hv;split at hr
  ·rename_i e' sz y;simp only[run_pure,zY00]at hr;subst hr;obtain⟨xs,vs,b1,b2,b3,b4⟩:=h.objs k _ hob;refine⟨_,b1,?_⟩;rw[hv];exact zlj b2 b3 b4 (λb hb=>hF b hb) (λg hg=>(z3p b3 hg).2)
  ·rename_i y;simp only[run_pure,zY00]at hr;subst hr;obtain⟨d,b1,b2⟩:=h.objs k _ hob;exact⟨d,b1,by rw[hv];exact b2.mono (λ_ _=>rfl) hF⟩
  ·cases hr
 |_=>cases hr
theorem z09h{W:World}{xs:List (List Dt)}{A:Option Addr}(h:Rep W F (.l sz xs) (.slice A m c))(hpos:0<sz) :
  m=xs.length/\∃news:List Value,news.length=xs.length*sz/\Reps W F xs.flatten news/\(0<xs.length->∃b q,A=some ⟨b,q,none⟩/\∀(j:Nat) (u:Value),news[j]?=some u->W.cell? ⟨b,q+j,none⟩=some u):=by
 cases h with
 |l _ _ _ _ _ b q vs g0 g1 g2 g3 g4 g5 g6 =>
  have hlen:∀(ys:List (List Dt)),(∀y∈ys,y.length=sz)->ys.flatten.length=ys.length*sz:=by
   intro ys;induction ys with
   |nil=>intro _;simp
   |cons y ys ih =>intro hy;rw[zY1q,zY04,hy y (zY0i ..),ih λz hz=>hy z (zY0h _ hz),zY08,zY21];omega
  have hfl:=hlen xs g3;have hget:∀j,j<xs.length*sz->∃x d,xs[j/sz]?=some x/\x[j%sz]?=some d/\xs.flatten[j]?=some d:=by
   intro j hj;have h1:j/sz<xs.length:=(Nat.div_lt_iff_lt_mul hpos).2 hj;have h2:j%sz<xs[j/sz].length:=by rw[g3 _ (zY1y h1)];exact Nat.mod_lt _ hpos
   refine⟨xs[j/sz],xs[j/sz][j%sz],zY03 h1,zY03 h2,?_⟩;have:=zhd g3 (zY03 h1) (zY03 h2);rw[Nat.mul_comm,Nat.div_add_mod]at this;exact this
  refine⟨g0,(List.range (xs.length*sz)).map λj=>vs (j/sz) (j%sz),by simp,Reps.of (by simp[hfl]) λj d v hd hv=>?_,λhp=>⟨b,q,(g4 hp).1,λj u hu=>?_⟩⟩
  ·obtain⟨hj,rfl⟩:=z37 hv;obtain⟨x,d',h1,h2,h3⟩:=hget j hj;rw[h3]at hd;injection hd with hd;subst hd;exact g6 _ _ _ _ h1 h2
  ·obtain⟨hj,rfl⟩:=z37 hu;obtain⟨x,d',h1,h2,h3⟩:=hget j hj;have:=g5 _ _ _ _ h1 h2;rw[zY33,Nat.mul_comm (j/sz),Nat.div_add_mod]at this;exact this
theorem z0cg(h:Sim w0 F0 E τ ω a W ρ){c:C1}{x:Atom}(hr:(lenA c).run τ ω=some x){v:Value}(hc:C1R (ctx w0 F0 E ω ρ W) c v):∃d,x.val E=some d/\(Rep W (Lt W.heap.size) d v\/∃sz xs A cap,d=.l sz xs/\v=.slice A xs.length cap/\xs.length<=140737488355328):=by
 have key:∀c:C1,(slA c).run τ ω=some x->C1R (ctx w0 F0 E ω ρ W) c v->∃d,x.val E=some d/\(Rep W (Lt W.heap.size) d v\/∃sz xs A cap,d=.l sz xs/\v=.slice A xs.length cap/\xs.length<=140737488355328):=λc h1 h2 =>
  let⟨d,h3,h4⟩:=zvv h h1 h2
  ⟨d,h3,.inl h4⟩
 cases c with
 |row k =>
  simp only[lenA,run_bind,z2y,zY01]at hr;obtain⟨ob,hob,hr⟩:=hr;split at hr
  ·rename_i y;simp only[run_pure,zY00]at hr;subst hr;obtain⟨sz,xs,A,cap,h1,h2,h3⟩:=h.objs k _ hob;obtain⟨_,hv,_⟩:=hc;exact⟨_,h1,.inr ⟨sz,xs,A,cap,rfl,hv.trans h2,h3⟩⟩
  ·exact key _ hr hc
 |_ =>simp only[lenA]at hr;exact key _ hr hc
theorem z0f0{c:Call}(h:Sim w0 F0 E τ ω a W ρ)(ho:o.op=.call c)(hcl:c.callee=.builtin .len)(hr:(zt cx kb n nt kn o).run τ ω=some e)(hf:Facts sp E n e)(hty:∀t i,cx.ti t=some i->TyOk P t i):o.wp P a W (z2h w0 F0 E τ ω e.ws) Q:=by
 unfold zt at hr;rw[ho]at hr;simp only[ze5,hcl]at hr;split at hr
 ·rename_i x t hx htt;simp only[run_bind,z0l,run_ite,zY01]at hr;obtain⟨ti,hti,cc,h1,xa,h2,hr⟩:=hr;have ht:=hty t ti hti;obtain⟨d,hd,hrep⟩:=z0cg h h2 (z35 h h1);have hexec:∀m:Nat,(Builtin.len_ #[t] o.type #[a.eval x]).run P W=.ok (.int .i64 m) W->(execOp a.eval o).run P W=.ok (.value (.int .i64 m)) W:=by
   intro m hm;have e1:c.args=#[x]:=by rw[<- zY1r (xs:=c.args),hx]
   have e2:c.argTypes=#[t]:=by rw[<- zY1r (xs:=c.argTypes),htt]
   unfold execOp;simp only[ho,resolve,hcl,e1,e2,invoke,builtin,Sem.run_bind,Sem.run_pure,Result.andThen_ok,zY3f,zY1n,zY2o,hm]
  split at hr
  ·rename_i hel;simp only[run_pure,zY00]at hr;subst hr;obtain⟨⟨et,sz,by_⟩,hel⟩:=zY2z.1 hel;obtain⟨hu,_⟩:=ht.el _ _ _ hel;obtain⟨d',hd',hn⟩:=hf.one;simp only[denX,hd]at hd';split at hd'
   ·rename_i zz sz' xs hz;injection hz with hz;subst hz;injection hd' with hd';subst hd';have he:P.elem t=et:=by simp[Program.elem,hu]
    rcases hrep with hrep|⟨sz2,xs2,A2,cap2,e2,hgx,hle⟩
    rotate_left
    ·injection e2 with e2 e3;subst e3;refine zr (hexec xs.length (by rw[hgx];exact run_len_slice (P:=P) W t o.type A2 xs.length cap2 (by rw[he];exact hu))) (h.goes o ⟨_,hn,?_⟩);exact .i _ _ (zn1 zX0)
    generalize hgx:a.eval x=vx at hrep;cases hrep with
    |l _ _ A m cp b q vs g0 g1 g2 g3 g4 g5 g6 =>refine zr (hexec m (by rw[hgx];exact run_len_slice (P:=P) W t o.type A m cp (by rw[he];exact hu))) (h.goes o ⟨_,hn,?_⟩);rw[g0];exact .i _ _ (zn1 zX0)
   ·cases hd'
  ·split at hr
   ·rename_i hzs;simp only[run_pure,zY00]at hr;subst hr;have hu:=ht.str hzs;obtain⟨d',hd',hn⟩:=hf.one;simp only[denX,hd]at hd';split at hd'
    ·rename_i zz xs hz;injection hz with hz;subst hz;injection hd' with hd';subst hd';rcases hrep with hrep|⟨_,_,_,_,e2,_⟩
     rotate_left
     ·cases e2
     obtain⟨hv,hle⟩:=zoj hrep;refine zr (hexec xs.length (by rw[hv];exact run_len_string (P:=P) W t o.type _ hu)) (h.goes o ⟨_,hn,.i _ _ (zn1 hle)⟩)
    ·cases hd'
   ·cases hr
 ·cases hr
def NewsR(W:World)(F:Nat->Prop)(sz:Nat)(ys:List (List Dt))(vy:Value):Prop :=
 ∃A c,∃news:List Value,vy=.slice A ys.length c/\news.length=ys.length*sz/\Reps W F ys.flatten news/\(0<ys.length->∃b q,A=some ⟨b,q,none⟩/\∀(j:Nat) (u:Value),news[j]?=some u->W.cell? ⟨b,q+j,none⟩=some u)
theorem zsq{W:World}{ys:List (List Dt)}{vy:Value}(hr:Rep W F (.l sz ys) vy)(hpos:0<sz):NewsR W F sz ys vy:=by
 generalize hd:Dt.l sz ys=d at hr;have hr':=hr;cases hr' with
 |l sz' ys' A c cp b q vs g0 g1 g2 g3 g4 g5 g6 =>injection hd with e1 e2;subst e1;subst e2;obtain⟨hm,news,hn1,hn2,hn3⟩:=z09h hr hpos;exact⟨A,cp,news,by rw[hm],hn1,hn2,hn3⟩
 |_=>cases hd
theorem zvw(h:Sim w0 F0 E τ ω a W ρ){c:C1}{x:Atom}(hr:(slA c).run τ ω=some x){v:Value}(hc:C1R (ctx w0 F0 E ω ρ W) c v){ys:List (List Dt)}(hx:x.val E=some (.l sz ys))(hpos:0<sz):NewsR W (Frr w0 F0 ω ρ W) sz ys v:=by
 cases c with
 | «at» y =>simp only[slA,run_pure,zY00]at hr;subst hr;obtain⟨d,h1,h2⟩:=C1R.at_ hc;simp only[ctx]at h1;rw[hx]at h1;injection h1 with h1;subst h1;exact zsq h2 hpos
 |row k =>
  simp only[slA,run_bind,z2y,zY01]at hr;obtain⟨ob,hob,hr⟩:=hr;obtain⟨_,hv,_⟩:=hc;simp only[ctx]at hv;split at hr
  ·rename_i e' sz' y;simp only[run_pure,zY00]at hr;subst hr;obtain⟨xs,vs,b1,b2,b3,b4⟩:=h.objs k _ hob;simp only[ctx]at b1 b3 b4;rw[hx]at b1;injection b1 with b1;injection b1 with b1 b1';subst b1;subst b1';rw[hv];rcases b3.2 with⟨hn,h0⟩|⟨g,cap,cur,hv',hb,hh,hnc,hcm,hcs,ht⟩
   ·refine⟨none,0,vs,by rw[hn,h0],b3.1,b4,λhp=>by omega⟩
   ·refine⟨_,cap,vs,hv',b3.1,b4,λhp=>⟨g,0,rfl,λj u hj=>?_⟩⟩;rw[cell_of_row W g _ cur e' (0,0) hh,zY0z];have:(cur.toList.take (ys.length*sz))[j]?=some u:=by rw[ht];exact hj
    rw[zY17]at this;split at this
    ·simpa using this
    ·cases this
  ·rename_i y;simp only[run_pure,zY00]at hr;subst hr;obtain⟨d,b1,b2⟩:=h.objs k _ hob;simp only[ctx]at b1 b2;rw[hx]at b1;injection b1 with b1;subst b1;rw[hv];exact zsq b2 hpos
  ·cases hr
 |_=>cases hr
theorem zjd{W:World}(base:Nat)(t ty e:TypeId)(i:TypeInfo)(size:Nat)(ht:P.underlying t=some (.slice e))(hi:P.info? e=some i)
  (v:Value) (n:Nat) (xs:List Value) (hown:W.ownsRow base e size v n xs) (c:Nat):(Builtin.append_ #[t,t] ty #[v,.slice none 0 c]).run P W=.ok v W:=by
 rcases hown.2 with⟨rfl,rfl⟩|⟨g,cap,cur,rfl,_,_,hnc,_⟩
 ·simp[Builtin.append_,run_underlying ht,sizeOf,typeInfo,hi,Builtin.lenOf,Builtin.firstCells]
 ·simp[Builtin.append_,run_underlying ht,sizeOf,typeInfo,hi,Builtin.lenOf,Builtin.firstCells,hnc,storeCells]
theorem zgi{W:World}{ie:TypeInfo}{z:Value}(hu:P.underlying t=some (.slice et))(hie:P.info? et=some ie)(hz:ie.zero=some z)(hsz:ie.size=sz)(hby:ie.bytes=by_)(hzs:z.cells.size=sz)(hpos:0<sz)(hb:by_<=10000)
  {v:Value} {m:Nat} {cells:List Value} (hown:W.ownsRow base et sz v m cells) {ys:List (List Dt)} {vy:Value} (hr:NewsR W F sz ys vy) (hl:m+ys.length<=1000000\/(m+ys.length<=140737488355328/\(m+ys.length)*by_<=140737488355328)) (hbase:base<=W.heap.size) :
  ∃v' W' news,Reps W F ys.flatten news/\(Builtin.append_ #[t,t] ty #[v,vy]).run P W=.ok v' W'/\W'.ownsRow base et sz v' (m+ys.length) (cells++news)/\W.grownBy W' v.ownBlock/\(v'.ownBlock=v.ownBlock\/v'.ownBlock=some W.heap.size):=by
 obtain⟨A,cp,news,rfl,hn1,hn2,hn3⟩:=hr;cases A with
 |none =>
  have h0:ys.length=0:=by
   rcases zY1u ys.length with h0|h0
   ·exact h0
   ·obtain⟨b,q,e,_⟩:=hn3 h0;cases e
  have hys:ys=[]:=zY0c h0;subst hys;have hnn:news=[]:=zY0c (by simpa using hn1);subst hnn;exact⟨v,W,[],hn2,zjd base t ty et ie sz hu hie v m cells hown cp,by simpa using hown,World.grownBy.refl W _,.inl rfl⟩
 |some ad =>
  have hone:=hn2.one;obtain⟨v',w',hrun,h2,h3,_,h5⟩:=run_append_own_at (P:=P) W base t ty et ie z sz by_ hu hie hz hsz hby hzs hpos v m cells hown ad ys.length cp news hn1 (λj u hj=>by
   have hp:0<ys.length:=by
    rcases zY1u ys.length with h0|h0
    ·rw[h0,zY3s]at hn1;have:=zY0c hn1;subst this;cases hj
    ·exact h0
   obtain⟨b',q',e,hcell⟩:=hn3 hp;injection e with e;subst e;rw[show((⟨b',q',none⟩:Addr).add j)=⟨b',q'+j,none⟩from Addr.add_mid ..];exact hcell j u hj) hone zXd (by
   rcases hl with hl|hl
   ·have:=Nat.mul_le_mul hl hb;omega
   ·exact hl.2) hbase
  exact⟨v',w',news,hn2,hrun,h2,h3,h5⟩
theorem zc5{W:World}{B:Nat}{r:Option Nat}(h:W.grownBy W' r)(hr:∀g,r=some g->B<=g)(hB:B<=W.heap.size):Below B W W' :=
 ⟨h.os,h.tape,h.output,h.size,λk hk=>h.block k zX0 λe=>by have:=hr k e.symm;omega⟩
theorem zc6{e n:Nat}{v:Value}{xs:List Value}(h:w.ownsRow base e size v n xs):v.oneCell'=true:=by rcases h.2 with⟨rfl,_⟩|⟨g,cap,cur,rfl,_⟩<;>rfl
theorem NewsR.sizes{W:World}{ys:List (List Dt)}{vy:Value}(h:Rep W F (.l sz ys) vy):∀y∈ys,y.length=sz:=by
 cases h with
 |l _ _ A m cp b q vs g0 g1 g2 g3 g4 g5 g6=>exact g3
theorem z01q{cx:Cx}{n:Nat}(h:z0bv (appS cx sz by_) sz n):n<=1000000\/(n<=140737488355328/\n*by_<=140737488355328):=by
 unfold appS at h;split at h
 ·rename_i hc;rcases h with⟨_,h⟩|⟨h1,h2,h3,h4⟩
  ·exact .inl h
  ·rw[show(sz+1024*by_)/1024=by_ by omega]at h4;exact .inr ⟨h3,h4⟩
 ·rcases h with⟨_,h⟩|⟨h1,h2,h3,h4⟩
  ·exact .inl h
  ·omega
theorem z05n{c:Call}(h:Sim w0 F0 E τ ω a W ρ)(ho:o.op=.call c)(hcl:c.callee=.builtin .append)(hr:(zt cx kb n nt kn o).run τ ω=some e)(hf:Facts sp E n e)(hty:∀t i,cx.ti t=some i->TyOk P t i):o.wp P a W (z2h w0 F0 E τ ω e.ws) Q:=by
 unfold zt at hr;rw[ho]at hr;simp only[ze5,hcl]at hr;split at hr
 ·rename_i x y t t' hx htt;simp only[run_ite]at hr;split at hr
  ·cases hr
  rename_i htt';simp only[ne_eq,zY0u]at htt';subst htt';simp only[run_bind,z0l,zY01]at hr;obtain⟨ti,hti,⟨et,sz,by_⟩,hel,k,hk,cy,hy1,b,hy2,cxx,hx1,hr⟩:=hr;have ht:=hty t ti hti;obtain⟨hu,ie,z,hie,hz,hsz,hby,hzs,hpos,hsz2,hby2⟩:=ht.el _ _ _ hel;obtain⟨hd,hk⟩:=z70 hk;have hlt:=(zY02.1 hk).1;obtain⟨dy,hdy,hrepy⟩:=zvv h hy2 (z35 h hy1);have hcx:=z35 h hx1;have e1:c.args=#[x,y]:=by rw[<- zY1r (xs:=c.args),hx]
  have e2:c.argTypes=#[t,t]:=by rw[<- zY1r (xs:=c.argTypes),htt]
  have hexec:∀v' W',(Builtin.append_ #[t,t] o.type #[a.eval x,a.eval y]).run P W=.ok v' W'->(execOp a.eval o).run P W=.ok (.value v') W':=by intro v' W' hm;unfold execOp;simp only[ho,resolve,hcl,e1,e2,invoke,builtin,Sem.run_bind,Sem.run_pure,Result.andThen_ok,zY3f,zY1n,zY2o,hm]
  split at hr
  ·rename_i z';simp only[run_ite]at hr;split at hr
   ·rename_i hzz;subst hzz;simp only[run_pure,zY00]at hr;subst hr;obtain⟨d,hd',hn⟩:=hf.one;have hnil:(Atom.c (.nil z')).val E=some (.l z' []):=rfl;simp only[denX,hnil,hdy]at hd';split at hd'
    ·rename_i z1 xs1 z2 ys hz1 hz2;injection hz1 with hz1;injection hz1 with hz1 hz1';subst hz1;subst hz1';injection hz2 with hz2;subst hz2;split at hd'
     ·rename_i hcond;obtain⟨rfl,hll⟩:=hcond;have hll:=z01q hll;injection hd' with hd';subst hd';have hxv:a.eval x=.slice none 0 0:=C1R.isNil hcx;have hyl:=NewsR.sizes hrepy;obtain⟨v',W',news,g1,g2,g3,g4,g5⟩:=zgi (P:=P) (ty:=o.type) hu hie hz hsz hby hzs hpos hby2 (W.ownsRow_nil w0.heap.size et _) (zvw h hy2 (z35 h hy1) hdy hpos) (by simpa using hll) h.bsz;rw[<- hxv]at g2;have hnew:=h.new (W':=W') hk (zc5 g4 (λg hg=>by cases hg) (zY0k _)) (.row et z2 (.v n)) v' (λb hb=>by
       simp only[own]at hb;rcases g5 with g5|g5
       ·rw[g5]at hb;cases hb
       ·rw[g5]at hb;injection hb with hb;omega) (λhle=>by
       refine⟨ys,news,hn,hyl,?_,g1.mono hle.agree hle.more⟩;rw[show(ctx w0 F0 E (ω.set k (some (.row et z2 (.v n)))) (upd ρ k v') W').ρ k=v' from z1g _ _ _];rw[zY0z,zY16]at g3;exact g3)
      refine zr (hexec v' W' g2) ⟨upd ρ k v',?_⟩;exact hnew.dst o (sv:=.one (.row k)) ⟨⟨_,zY0f hlt⟩,(z1g _ _ _).symm,zc6 g3⟩
     ·cases hd'
    ·cases hd'
   ·cases hr
  ·rename_i k0;simp only[run_bind,z2y,zY01]at hr;obtain⟨ob,hob,hr⟩:=hr;split at hr
   ·rename_i e' z' xa;simp only[run_ite]at hr;split at hr
    ·rename_i hcond;obtain⟨rfl,rfl⟩:=hcond;simp only[run_pure,zY00]at hr;subst hr;obtain⟨xs,vs,b1,b2,b3,b4⟩:=h.objs k0 _ hob;obtain⟨d,hd',hn⟩:=hf.one;simp only[ctx]at b1;simp only[denX,b1,hdy]at hd';split at hd'
     ·rename_i z1 xs1 z2 ys hz1 hz2;injection hz1 with hz1;injection hz1 with hz1 hz1';subst hz1;subst hz1';injection hz2 with hz2;subst hz2;split at hd'
      ·rename_i hcond;obtain⟨rfl,hll⟩:=hcond;have hll:=z01q hll;injection hd' with hd';subst hd';obtain⟨_,hxv,_⟩:=hcx;simp only[ctx]at hxv b3 b4;have hyl:=NewsR.sizes hrepy;obtain⟨v',W',news,g1,g2,g3,g4,g5⟩:=zgi (P:=P) (ty:=o.type) hu hie hz hsz hby hzs hpos hby2 b3 (zvw h hy2 (z35 h hy1) hdy hpos) hll h.bsz;rw[<- hxv]at g2;have hkk:k≠k0:=λe=>by rw[e]at hk;rw[hk]at hob;cases hob
       have hlt0:=(zY02.1 hob).1;have hb3:∀g,(ρ k0).ownBlock=some g->w0.heap.size<=g/\g<W.heap.size:=λg hg=>z3p b3 hg;have hgk:∀o',((ω.set k0 (some (.gone xa))).set k (some (.row e' z2 (.v n))))[k0]?=some (some o')->o' = .gone xa:=by intro o' h1;rw[zY0j hkk,zY0f hlt0]at h1;simp only[zY00]at h1;exact h1.symm
       have hgd:∀o',((ω.set k0 (some (.gone xa))).set k (some (.row e' z2 (.v n))))[k]?=some (some o')->o' = .row e' z2 (.v n):=by intro o' h1;rw[zY0f zXi]at h1;simp only[zY00]at h1;exact h1.symm
       have hnew:Sim w0 F0 E τ ((ω.set k0 (some (.gone xa))).set k (some (.row e' z2 (.v n)))) a W' (upd ρ k v'):=by
        refine h.gen [k0,k] (zc5 g4 (λg hg=>(hb3 g hg).1) h.bsz) h.defers h.size (λj hj=>?_) (λj hj=>?_) (λb hb hno=>?_) (λj hj o' ho' b hb=>?_) (λj hj j' hj' o1 o2 g h1 h2 h3 h4=>?_) (λhle _ j hj o' ho'=>?_) (λ_ _ t sv ht=>.inl ⟨ht,rfl⟩)
        ·simp only[zY0g,zY1k,or_false,not_or]at hj;rw[zY0j (Ne.symm hj.2),zY0j (Ne.symm hj.1)]
        ·refine⟨z6h zXi (z6h hlt0 hj),zgf _ _ λe=>?_⟩;obtain⟨q,hq⟩:=hj;rw[e,hk]at hq;cases hq
        ·refine g4.block b hb λe=>hno k0 zX4 _ hob ?_;simp only[own];exact e.symm
        ·simp only[zY0g,zY1k,or_false]at hj;rcases hj with rfl|rfl
         ·rw[hgk o' ho']at hb;simp only[own]at hb;cases hb
         ·rw[hgd o' ho',z1g]at hb;simp only[own]at hb;rcases g5 with g5|g5
          ·exact .inl ⟨k0,by simp,_,hob,by simp only[own];rw[<- g5];exact hb⟩
          ·rw[g5]at hb;injection hb with hb;exact .inr zX0
        ·simp only[zY0g,zY1k,or_false]at hj hj';rcases hj with rfl|rfl
         ·rw[hgk o1 h1]at h3;simp only[own]at h3;cases h3
         ·rcases hj' with rfl|rfl
          ·rw[hgk o2 h2]at h4;simp only[own]at h4;cases h4
          ·rfl
        ·simp only[zY0g,zY1k,or_false]at hj;rcases hj with rfl|rfl
         ·rw[hgk o' ho'];have hρj:upd ρ k v' j=ρ j:=zgf _ _ (λe=>hkk e.symm);rcases b3.2 with⟨hn0,h00⟩|⟨g,cap,cur,hv',_⟩
          ·exact⟨_,xs,none,0,b1,by show upd ρ k v' j=_;rw[hρj,hn0,h00],by omega⟩
          ·exact⟨_,xs,_,cap,b1,by show upd ρ k v' j=_;rw[hρj,hv'],by omega⟩
         ·rw[hgd o' ho'];refine⟨xs++ys,vs++news,hn,λx hx=>?_,?_,?_⟩
          ·rcases zY13.1 hx with h'|h'
           ·exact b2 x h'
           ·exact hyl x h'
          ·rw[show(ctx w0 F0 E ((ω.set k0 (some (.gone xa))).set j (some (.row e' z2 (.v n)))) (upd ρ j v') W').ρ j=v' from z1g _ _ _,zY04];exact g3
          ·rw[zY2s];exact(b4.mono hle.agree hle.more).append (g1.mono hle.agree hle.more)
       refine zr (hexec v' W' g2) ⟨upd ρ k v',?_⟩;exact hnew.dst o (sv:=.one (.row k)) ⟨⟨_,zY0f zXi⟩,(z1g _ _ _).symm,zc6 g3⟩
      ·cases hd'
     ·cases hd'
    ·cases hr
   ·cases hr
  ·cases hr
 ·cases hr
end
def zqv(W:World)(F:Nat->Prop)(ds:List Dt)(v:Value):Prop:=∃g o,∃us:List Value,v=.pointer (some ⟨g,o,none⟩)/\F g/\W.rangeAt g o us/\Reps W F ds us
def zhh(W:World)(F:Nat->Prop):List Nat->List Dt->List Value->Prop
 | [],ds,us=>ds=[]/\us=[]
 |n::ns,ds,us=>∃d1 d2 v vs,ds=d1++d2/\us=v::vs/\d1.length=n/\zqv W F d1 v/\zhh W F ns d2 vs
def PKR(W:World)(F:Nat->Prop):PK->List Dt->Value->Prop
 |.one,ds,v=>∃d,ds=[d]/\Rep W F d v
 |.agg n,ds,v=>ds.length=n/\∃us:List Value,v=.agg us.toArray/\Reps W F ds us
 |.ptr n,ds,v=>ds.length=n/\zqv W F ds v
 |.clos f ns,ds,v=>∃us:List Value,v=.func (.func f) #[] us.toArray/\zhh W F ns ds us
 |.mine _ _,_,_=>False
def PKRs(W:World)(F:Nat->Prop):List PK->List Dt->List Value->Prop
 | [],ds,us=>ds=[]/\us=[]
 |p::ps,ds,us=>∃d1 d2 v vs,ds=d1++d2/\us=v::vs/\PKR W F p d1 v/\PKRs W F ps d2 vs
def CFR(W:World)(F:Nat->Prop)(base:Nat):CF->Dt->Value->Prop
 |.pure,d,v=>Rep W F d v
 |.scal,d,v=>d.scal=true/\Rep W F d v
 |.fresh e sz,d,v=>∃xs vs,d=.l sz xs/\(∀x∈xs,x.length=sz)/\W.ownsRow base e sz v xs.length vs/\Reps W F xs.flatten vs
def PartV:Bool×List CF->Value->List Value->Prop
 |(true,fs),v,us=>v=.agg us.toArray/\us.length=fs.length
 |(false,fs),v,us=>us=[v]/\fs.length=1
def zoo:List (Bool×List CF)->List Value->List Value->Prop
 | [],vs,us=>vs=[]/\us=[]
 |p::ps,vs,us=>∃v vs' u1 u2,vs=v::vs'/\us=u1++u2/\PartV p v u1/\zoo ps vs' u2
def zvx:List (Bool×List CF)->Value->List Value->Prop
 | [p],v,us=>PartV p v us
 |ps,v,us=>∃vs:List Value,v=.tuple vs.toArray/\zoo ps vs us
structure ResR(W:World)(F:Nat->Prop)(W':World)(s:Sig)(rs:List Dt)(v:Value)(us:List Value)(F':Nat->Prop):Prop where
 val:zvx s.res v us
 lrs:rs.length=(zu s).length
 lus:us.length=(zu s).length
 cells:∀(j:Nat) (f:CF) (d:Dt) (u:Value),(zu s)[j]?=some f->rs[j]?=some d->us[j]?=some u->CFR W' F' W.heap.size f d u
 own:∀b,F' b->F b\/(W.heap.size<=b/\b<W'.heap.size)
 apart:∀(j e sz:Nat) (u:Value) (b:Nat),(zu s)[j]?=some (.fresh e sz)->us[j]?=some u->u.ownBlock=some b->¬F' b
 dj:∀(j j' e sz e' sz':Nat) (u u':Value) (b:Nat),(zu s)[j]?=some (.fresh e sz)->us[j]?=some u->(zu s)[j']?=some (.fresh e' sz')->us[j']?=some u'->u.ownBlock=some b->u'.ownBlock=some b->j=j'
def Does(P:Program)(f:Nat)(args:Array Value)(W:World)(R:Value->World->Prop):Prop :=
 ((callFunc f args).run P W=.ok (.enter f args) W/\Calls P f args W λe W'=>∃v,e=.returned v/\R v W') \/
 ∃v W',(callFunc f args).run P W=.ok (.value v) W'/\R v W'
def z05o(P:Program)(spec:zd)(f:Nat)(s:Sig):Prop :=
 ∀(W:World) (F:Nat->Prop) (ds:List Dt) (args:List Value) (rs:List Dt),zd1 F W->PKRs W F s.args ds args->spec ds=some rs ->
  Does P f args.toArray W λv W'=>Below W.heap.size W W'/\∃us F',ResR W F W' s rs v us F'
def z0f1(P:Program)(spec:zd)(f:Nat)(s:Sig)(e sz:Nat)(ps:List PK):Prop :=
 ∀(W:World) (F:Nat->Prop) (base:Nat) (v:Value) (xs:List (List Dt)) (vs:List Value) (ds:List Dt) (args:List Value) (rs:List Dt),zd1 F W->base<=W.heap.size->(∀b,v.ownBlock=some b->¬F b) ->
  (∀x∈xs,x.length=sz)->W.ownsRow base e sz v xs.length vs->Reps W F xs.flatten vs->PKRs W F ps ds args->spec (.l sz xs::ds)=some rs ->
  ∃xs',rs=[.l sz xs']/\(∀x∈xs',x.length=sz)/\Does P f (v::args).toArray W λr W'=>∃v' vs',((s.res=[]->v'=v)/\(s.res≠[]->r=v'))/\W.grownBy W' v.ownBlock /\
   W'.ownsRow base e sz v' xs'.length vs'/\Reps W' F xs'.flatten vs'/\(∀b,v'.ownBlock=some b->v.ownBlock=some b\/W.heap.size<=b)
def Meets(P:Program)(spec:zd)(f:Nat)(s:Sig):Prop:=(z4w s.args=false->z05o P spec f s)/\∀e sz ps,s.args=.mine e sz::ps->z0f1 P spec f s e sz ps
theorem z05p{s:Sig}{e:Nat}{ps:List PK}(h:s.args=.mine e sz::ps):z4w s.args=true:=by rw[h];rfl
theorem Meets.mk{P:Program}{spec:zd}{s:Sig}(h:z4w s.args=false)(hm:z05o P spec f s):Meets P spec f s:=⟨λ_=>hm,λe sz ps he=>by rw[z05p he]at h;cases h⟩
section
variable {P:Program} {w0 W:World} {F0:Bk} {E:Env} {τ:List SV} {ω ω1:List (Option Ob)} {a:Act} {ρ:Nat->Value} {cx:Cx} {o:Oper} {e:Eff} {sp:Nat->zd} {n nt kb:Nat} {kn:List (Nat×Bool)} {Q:Exit->Act->World->Prop}
theorem zc7{E:Env}:∀ {xs ys:List Atom} {d1 d2:List Dt},vals E xs=some d1->vals E ys=some d2->vals E (xs++ys)=some (d1++d2)
 | [],ys,d1,d2,h1,h2=>by simp only[vals,zY00]at h1;subst h1;exact h2
 |x::xs,ys,d1,d2,h1,h2=>by simp only[vals,zY0a,zY01,zY1e,zY00]at h1;obtain⟨dx,hx,dxs,hxs,rfl⟩:=h1;simp[vals,hx,zc7 hxs h2]
theorem zbv:∀(cs:List C1),z8b false cs=zbo cs
 | []=>rfl
 |c::cs=>by
  have h1:zoe false c=frA c:=by cases c<;>rfl
  rw[z8b,zbo,h1,zbv cs]
theorem z036(hω:FrzRel ω ω1)(h:Sim w0 F0 E τ ω1 a W ρ){p:PK}{sv:SV}{xs:List Atom}{ws:List Wr}(hr:(zof false p sv).run τ ω=some (xs,ws)){v:Value}(hc:SVR (ctx w0 F0 E ω1 ρ W) sv v) :
  (wr τ ω1 ws).1=τ/\Frz w0 W F0 E τ ω ω1 (wr τ ω1 ws).2 a ρ/\∃ds,vals E xs=some ds/\PKR W (Frr w0 F0 (wr τ ω1 ws).2 ρ W) p ds v:=by
 unfold zof at hr;split at hr
 ·rename_i c;rw[zbv]at hr;obtain⟨h1,h2,ds,h3,h4⟩:=zbu (vs:=[v]) hω h hr ⟨hc,trivial⟩;refine⟨h1,h2,ds,h3,?_⟩
  match ds,h4 with
  | [d],h4=>exact⟨d,rfl,h4.1⟩
  | [],h4=>exact absurd h4 id
  |_::_::_,h4=>exact absurd h4.2 id
 ·rename_i m cs;simp only[run_ite]at hr;split at hr
  ·rename_i hl;rw[zbv]at hr;obtain⟨us,hv,hcs⟩:=hc;obtain⟨h1,h2,ds,h3,h4⟩:=zbu hω h hr hcs;exact⟨h1,h2,ds,h3,by rw[h4.len,<- hcs.len,hl],us,hv,h4⟩
  ·cases hr
 ·simp only[zY0x,if_false]at hr;cases hr
 ·simp only[zY0x,false_and,if_false]at hr;cases hr
 ·cases hr
theorem PKR.mono{W:World}(hF:∀b,F b->F' b){p:PK}{ds:List Dt}{v:Value}(h:PKR W F p ds v):PKR W F' p ds v:=by
 have hp:∀ {ds v},zqv W F ds v->zqv W F' ds v:=λ⟨g,q,us,h1,h2,h3,h4⟩=>⟨g,q,us,h1,hF _ h2,h3,h4.mono (λ_ _=>rfl) hF⟩
 have hc:∀ {ns ds us},zhh W F ns ds us->zhh W F' ns ds us:=by
  intro ns;induction ns with
  |nil=>intro ds us h;exact h
  |cons m ns ih=>intro ds us ⟨d1,d2,v,vs,h1,h2,h3,h4,h5⟩;exact⟨d1,d2,v,vs,h1,h2,h3,hp h4,ih h5⟩
 cases p with
 |one=>obtain⟨d,h1,h2⟩:=h;exact⟨d,h1,h2.mono (λ_ _=>rfl) hF⟩
 |agg m=>obtain⟨h1,us,h2,h3⟩:=h;exact⟨h1,us,h2,h3.mono (λ_ _=>rfl) hF⟩
 |ptr m=>exact⟨h.1,hp h.2⟩
 |clos f ns=>obtain⟨us,h1,h2⟩:=h;exact⟨us,h1,hc h2⟩
 |mine e sz=>exact absurd h id
theorem Frz.trans{ω2 ω3:List (Option Ob)}(h:Frz w0 W F0 E τ ω ω1 ω2 a ρ)(k:Frz w0 W F0 E τ ω ω2 ω3 a ρ):Frz w0 W F0 E τ ω ω1 ω3 a ρ :=
 ⟨k.sim,k.rel,⟨λ_ _=>rfl,λb hb=>k.le.more b (h.le.more b hb),λ_ _ y=>y,λj hj=>⟨(k.le.live j (h.le.live j hj).1).1,rfl⟩⟩⟩
theorem zfw:∀ {ps:List PK} {svs:List SV} {xs:List Atom} {ws:List Wr} {ω1:List (Option Ob)} {us:List Value},FrzRel ω ω1->Sim w0 F0 E τ ω1 a W ρ->(zak false ps svs).run τ ω=some (xs,ws)->us.length=svs.length->(∀(j:Nat) (sv:SV) (u:Value),svs[j]?=some sv->us[j]?=some u->SVR (ctx w0 F0 E ω1 ρ W) sv u) ->
  (wr τ ω1 ws).1=τ/\Frz w0 W F0 E τ ω ω1 (wr τ ω1 ws).2 a ρ/\∃ds,vals E xs=some ds/\PKRs W (Frr w0 F0 (wr τ ω1 ws).2 ρ W) ps ds us
 | [],[],xs,ws,ω1,us,hω,h,hr,hl,hj=>by simp only[zak,run_pure,zY00,zY19]at hr;obtain⟨rfl,rfl⟩:=hr;have:us=[]:=zY0c zXf;subst this;exact⟨rfl,⟨h,hω,Ctx.Le.refl _⟩,[],rfl,rfl,rfl⟩
 |p::ps,sv::svs,xs,ws,ω1,u::us,hω,h,hr,hl,hj=>by simp only[zak,run_bind,run_pure,zY01,zY00,zY19]at hr;obtain⟨⟨x1,w1⟩,h1,⟨x2,w2⟩,h2,rfl,rfl⟩:=hr;obtain⟨g1,g2,d1,g3,g4⟩:=z036 hω h h1 (hj 0 sv u rfl rfl);obtain⟨k1,k2,d2,k3,k4⟩:=zfw g2.rel g2.sim h2 zXf λj sv u h3 h4=>(hj (j+1) sv u (by simpa using h3) (by simpa using h4)).mono g2.le;rw[z1f,g1];exact⟨k1,g2.trans k2,d1++d2,zc7 g3 k3,d1,d2,u,us,rfl,rfl,g4.mono k2.le.more,k4⟩
 | [],_::_,xs,ws,ω1,us,hω,h,hr,hl,hj=>by cases hr
 |_::_,[],xs,ws,ω1,us,hω,h,hr,hl,hj=>by cases hr
 |p::ps,sv::svs,xs,ws,ω1,[],hω,h,hr,hl,hj=>by simp at hl
theorem zd2(h:Sim w0 F0 E τ ω a W ρ):∀ {cs:List C1} {xs:List Atom} {ws:List Wr} {us:List Value},(z8b true cs).run τ ω=some (xs,ws)->C1Rs (ctx w0 F0 E ω ρ W) cs us->ws=[]/\∃ds,vals E xs=some ds/\Reps W (Lt W.heap.size) ds us
 | [],xs,ws,[],hr,hc=>by simp only[z8b,run_pure,zY00,zY19]at hr;obtain⟨rfl,rfl⟩:=hr;exact⟨rfl,[],rfl,trivial⟩
 |c::cs,xs,ws,u::us,hr,hc=>by
  simp only[z8b,run_bind,run_pure,zY01,zY00,zY19]at hr;obtain⟨⟨x1,w1⟩,h1,⟨x2,w2⟩,h2,rfl,rfl⟩:=hr;have key:(slA c).run τ ω=some x1/\w1=[]:=by
   cases c with
   | «at» y =>simp only[zoe,run_pure,zY00,zY19]at h1;obtain⟨rfl,rfl⟩:=h1;exact⟨rfl,rfl⟩
   |row k =>simp only[zoe,if_true,run_bind,run_pure,zY01,zY00,zY19]at h1;obtain⟨y,h3,rfl,rfl⟩:=h1;exact⟨h3,rfl⟩
   |_=>cases h1
  obtain⟨h3,rfl⟩:=key;obtain⟨d,hd,hrep⟩:=zvv h h3 hc.1;obtain⟨rfl,ds,hds,hreps⟩:=zd2 h h2 hc.2;exact⟨rfl,d::ds,by simp[vals,hd,hds],hrep,hreps⟩
theorem zlz(h:Sim w0 F0 E τ ω a W ρ){c:C1}{xs:List Atom}(hr:(zhc m c).run τ ω=some xs){v:Value}(hc:C1R (ctx w0 F0 E ω ρ W) c v):∃ds,vals E xs=some ds/\ds.length=m/\zqv W (Lt W.heap.size) ds v:=by
 have hF:∀b,Frr w0 F0 ω ρ W b->Lt W.heap.size b:=λb hb=>h.frLt hb;cases c with
 |bp k off =>
  simp only[zhc,run_bind,z2y,zY01]at hr;obtain⟨ob,hob,hr⟩:=hr;have key:∀(cs:List C1),(if off+m<=cs.length then z8v ((cs.drop off).take m)else none)=some xs->(∃g q vs,ρ k=.pointer (some ⟨g,q,none⟩)/\g<W.heap.size/\W.rangeAt g q vs/\C1Rs (ctx w0 F0 E ω ρ W) cs vs)->∃ds,vals E xs=some ds/\ds.length=m/\zqv W (Lt W.heap.size) ds v:=by
   intro cs hcs ⟨g,q,vs,h1,h2,h3,h4⟩;split at hcs
   ·rename_i hle;obtain⟨ds,hds,hreps⟩:=zao hcs (h4.part off m);obtain⟨_,g',q',hρ,hv⟩:=hc;simp only[ctx]at hρ;rw[h1]at hρ;simp only[Value.pointer.injEq,zY00,Addr.mk.injEq]at hρ;obtain⟨rfl,rfl,_⟩:=hρ;have hvl:=h4.len;refine⟨ds,hds,?_,g,q+off,(vs.drop off).take m,hv,h2,zdi h3,hreps.mono (λ_ _=>rfl) hF⟩;rw[hreps.len,zY0d,zY0w];omega
   ·cases hcs
  split at hr
  ·rename_i t cs;simp only[z0l]at hr;obtain⟨g,vs,b1,b2,b3,b4⟩:=h.objs k _ hob;refine key cs hr ⟨g,0,vs,b1,?_,zjc b3,b4⟩;rcases zY1w g W.heap.size with h'|h'
   ·exact h'
   ·simp only[ctx]at b3;rw[zY18 h']at b3;cases b3
  ·rename_i cs;simp only[z0l]at hr;obtain⟨g,q,vs,b1,b2,b3,b4⟩:=h.objs k _ hob;exact key cs hr ⟨g,q,vs,b1,hF _ b2,b3,b4⟩
  ·cases hr
 |_=>cases hr
theorem zm0(h:Sim w0 F0 E τ ω a W ρ):∀ {ns:List Nat} {ps:List (Nat×Nat)} {xs:List Atom} {us:List Value},(ze4 ns ps).run τ ω=some xs->CapRs (ctx w0 F0 E ω ρ W) ps us->∃ds,vals E xs=some ds/\zhh W (Lt W.heap.size) ns ds us
 | [],[],xs,[],hr,hc=>by simp only[ze4,run_pure,zY00]at hr;subst hr;exact⟨[],rfl,rfl,rfl⟩
 |m::ns,(k,off)::ps,xs,u::us,hr,hc=>by simp only[ze4,run_bind,run_pure,zY01,zY00]at hr;obtain⟨x1,h1,x2,h2,rfl⟩:=hr;obtain⟨d1,g1,g2,g3⟩:=zlz h h1 (v:=u) hc.1;obtain⟨d2,k1,k2⟩:=zm0 h h2 hc.2;exact⟨d1++d2,zc7 g1 k1,d1,d2,u,us,rfl,rfl,g2,g3,k2⟩
theorem z037(h:Sim w0 F0 E τ ω a W ρ){p:PK}{sv:SV}{xs:List Atom}{ws:List Wr}(hr:(zof true p sv).run τ ω=some (xs,ws)){v:Value}(hc:SVR (ctx w0 F0 E ω ρ W) sv v):ws=[]/\∃ds,vals E xs=some ds/\PKR W (Lt W.heap.size) p ds v:=by
 unfold zof at hr;split at hr
 ·rename_i c;obtain⟨h1,ds,h3,h4⟩:=zd2 (us:=[v]) h hr ⟨hc,trivial⟩;refine⟨h1,ds,h3,?_⟩
  match ds,h4 with
  | [d],h4=>exact⟨d,rfl,h4.1⟩
  | [],h4=>exact absurd h4 id
  |_::_::_,h4=>exact absurd h4.2 id
 ·rename_i m cs;simp only[run_ite]at hr;split at hr
  ·rename_i hl;obtain⟨us,hv,hcs⟩:=hc;obtain⟨h1,ds,h3,h4⟩:=zd2 h hr hcs;exact⟨h1,ds,h3,by rw[h4.len,<- hcs.len,hl],us,hv,h4⟩
  ·cases hr
 ·rename_i m c;simp only[if_true,run_bind,run_pure,zY01,zY00,zY19]at hr;obtain⟨x1,h1,rfl,rfl⟩:=hr;obtain⟨ds,g1,g2,g3⟩:=zlz h h1 hc;exact⟨rfl,ds,g1,g2,g3⟩
 ·rename_i f ns g caps;simp only[true_and,run_ite]at hr;split at hr
  ·rename_i hfg;subst hfg;simp only[run_bind,run_pure,zY01,zY00,zY19]at hr;obtain⟨x1,h1,rfl,rfl⟩:=hr;obtain⟨us,hv,hcs⟩:=hc;obtain⟨ds,g1,g2⟩:=zm0 h h1 hcs;exact⟨rfl,ds,g1,us,hv,g2⟩
  ·cases hr
 ·cases hr
theorem zm1(h:Sim w0 F0 E τ ω a W ρ):∀ {ps:List PK} {svs:List SV} {xs:List Atom} {ws:List Wr} {us:List Value},(zak true ps svs).run τ ω=some (xs,ws)->us.length=svs.length->(∀(j:Nat) (sv:SV) (u:Value),svs[j]?=some sv->us[j]?=some u->SVR (ctx w0 F0 E ω ρ W) sv u) ->
  ws=[]/\∃ds,vals E xs=some ds/\PKRs W (Lt W.heap.size) ps ds us
 | [],[],xs,ws,us,hr,hl,hj=>by simp only[zak,run_pure,zY00,zY19]at hr;obtain⟨rfl,rfl⟩:=hr;have:us=[]:=zY0c zXf;subst this;exact⟨rfl,[],rfl,rfl,rfl⟩
 |p::ps,sv::svs,xs,ws,u::us,hr,hl,hj=>by simp only[zak,run_bind,run_pure,zY01,zY00,zY19]at hr;obtain⟨⟨x1,w1⟩,h1,⟨x2,w2⟩,h2,rfl,rfl⟩:=hr;obtain⟨rfl,d1,g3,g4⟩:=z037 h h1 (hj 0 sv u rfl rfl);obtain⟨rfl,d2,k3,k4⟩:=zm1 h h2 zXf λj sv u h3 h4=>hj (j+1) sv u (by simpa using h3) (by simpa using h4);exact⟨rfl,d1++d2,zc7 g3 k3,d1,d2,u,us,rfl,rfl,g4,k4⟩
 | [],_::_,xs,ws,us,hr,hl,hj=>by cases hr
 |_::_,[],xs,ws,us,hr,hl,hj=>by cases hr
 |p::ps,sv::svs,xs,ws,[],hr,hl,hj=>by simp at hl
end
end Go.Proofs.YtmjelcjgllkapaaGreatDoor
