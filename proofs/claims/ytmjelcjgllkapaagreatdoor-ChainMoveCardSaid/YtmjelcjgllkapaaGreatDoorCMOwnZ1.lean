/- Own texts, put together by wip/bundle.py: VdW, VdX, VdY1, VdY2, VdY3, VdY, VT0, VT1, VU1, VEr0, VU2, VS1, VS2, VS3, VTK, VT2, VT3, VT4, VL0, VL1, VL2, VL3, VLP, VL4, VB1, VB2, VB3, VL7, VS4, VB4, VR1, VR6, VU3, VU4, VB5, VC0, VEr, VBk, VC1, VB6. -/
import Derived.Test.YtmjelcjgllkapaaGreatDoorProg
import Derived.KernelRfl
import Derived.Lib.ItoaNum
import Derived.Lib.AtoiAll
import Derived.Lib.Join
import Derived.Lib.Split
import Derived.Test.YtmjelcjgllkapaaGreatDoorShelf3
import Derived.Lib.AppendIntMem
import Derived.Lib.SmallJoins
import Derived.Lib.FieldsLaws
import Derived.Test.YtmjelcjgllkapaaGreatDoorCMOwnB
import Derived.Test.YtmjelcjgllkapaaGreatDoorCMOwnC
import Derived.Test.YtmjelcjgllkapaaGreatDoorCMOwnR
import Derived.Test.YtmjelcjgllkapaaGreatDoorCMOwnS
import Derived.Test.YtmjelcjgllkapaaGreatDoorCMOwnT
import Derived.Test.YtmjelcjgllkapaaGreatDoorCMOwnV2
set_option linter.unusedVariables false
set_option linter.unusedSimpArgs false
set_option maxRecDepth 100000
set_option maxHeartbeats 8000000
namespace Go.Proofs.YtmjelcjgllkapaaGreatDoor
open Go.RowKit
def zoz:zld:=[(3,⟨1,false,[.i .i64 0],[],false,none,some .i64,none,none⟩),(5,⟨1,false,[.i .u8 0],[],false,none,some .u8,none,none⟩),(184,⟨1,false,[.i .u64 0],[],false,none,some .u64,none,none⟩),(4,⟨1,false,[.b false],[],false,none,none,none,none⟩),(9,⟨1,false,[.s []],[],false,none,none,none,none⟩),(30,⟨1,false,[.i .i64 0],[],false,none,some .i64,none,none⟩),(25,⟨1,false,[.nil 1],[],false,some (3,1,8),none,none,none⟩),(22,⟨1,false,[.nil 1],[],false,some (9,1,16),none,none,none⟩),(80,⟨1,false,[.nil 2],[],false,some (90,2,16),none,none,none⟩),(129,⟨1,false,[.nil 2],[],false,some (79,2,16),none,none,none⟩),(94,⟨1,false,[.nil 3],[],false,some (127,3,40),none,none,none⟩),(95,⟨1,false,[.nil 2],[],false,some (82,2,32),none,none,none⟩),(48,⟨1,false,[.nil 3],[],false,some (97,3,56),none,none,none⟩),(29,⟨1,false,[.nil 6],[],false,some (84,6,64),none,none,none⟩),(53,⟨1,false,[.nil 1],[],false,some (99,1,24),none,none,none⟩),(26,⟨1,false,[.nil 5],[],false,some (50,5,56),none,none,none⟩),(176,⟨1,false,[.nil 1],[],false,some (29,1,24),none,none,none⟩),(215,⟨1,false,[.nil 1],[],false,some (22,1,24),none,none,none⟩),(137,⟨1,false,[.er],[],false,none,none,none,none⟩),(90,⟨2,true,[.i .i64 0,.i .i64 0],[(0,1),(1,1)],true,none,none,none,none⟩),(79,⟨2,true,[.i .i64 0,.i .i64 0],[(0,1),(1,1)],true,none,none,none,none⟩),(127,⟨3,true,[.i .i64 0,.i .i64 0,.nil 2],[(0,2),(2,1)],false,none,none,none,none⟩),(82,⟨2,true,[.i .i64 0,.nil 2],[(0,1),(1,1)],false,none,none,none,none⟩),(97,⟨3,true,[.i .i64 0,.nil 3,.nil 2],[(0,1),(1,1),(2,1)],false,none,none,none,none⟩),(24,⟨1,true,[.nil 1],[(0,1)],false,none,none,none,none⟩),(84,⟨6,true,[.i .i64 0,.i .i64 0,.i .i64 0,.nil 2,.i .i64 0,.b false],[(0,2),(2,2),(4,1),(5,1)],false,none,none,none,none⟩),(99,⟨1,true,[.nil 6],[(0,1)],false,none,none,none,none⟩),(50,⟨5,true,[.i .i64 0,.i .i64 0,.i .i64 0,.i .i64 0,.nil 3],[(0,1),(1,1),(2,1),(3,1),(4,1)],false,none,none,none,none⟩),(28,⟨2,true,[.nil 1,.nil 5],[(0,1),(1,1)],false,none,none,none,none⟩),(231,⟨3,true,[.nil 1,.i .i64 0,.b false],[(0,1),(1,1),(2,1)],false,none,none,none,none⟩),(229,⟨1,false,[],[],false,none,none,none,none⟩),(42,⟨2,true,[.i .i64 0,.i .i64 0],[],false,none,none,some (2,3),none⟩),(169,⟨14,true,[.s [],.s [],.s [],.s [],.s [],.s [],.s [],.s [],.s [],.s [],.s [],.s [],.s [],.s []],[],false,none,none,some (14,9),none⟩),(203,⟨2,true,[.nil 2,.nil 2],[],false,none,none,some (2,80),none⟩),(41,⟨2,true,[.nil 1,.nil 1],[],false,none,none,some (2,25),none⟩),(59,⟨1,false,[],[],false,none,none,none,some (3,3)⟩)]
theorem zt6:tabB Tryz.prog zoz=true:=zX1
theorem zwf:Tryz.prog.follows .mixedOrders=true:=zX1
def za0(f:Nat)(fn:Func)(hints:List Hint)(cut:List Nat):FnI:=⟨f,fn.ntmps,hints,cut,fn.results.toList,fn.body.getD .skip⟩
def fxOf(ty:zld)(sigs:List (Nat×Sig))(fn:Func)(cut:List Nat)(hints:List Hint)(fns:List FnI)(dep:Nat):Fx :=
 ⟨⟨ty,sigs,cut⟩,fn.ntmps,hints,fns,4*fn.ntmps+dep*400,if dep=0 then 4*fn.ntmps+10 else 4*fn.ntmps+dep*400+100,dep,4⟩
def fxIn(ty:zld)(sigs:List (Nat×Sig))(fn:Func)(cut:List Nat)(hints:List Hint)(fns:List FnI)(dep pool:Nat):Fx:=⟨⟨ty,sigs,cut⟩,fn.ntmps,hints,fns,pool,pool+80,dep,1⟩
theorem z09w{sp:Nat->zd}{sigs:List (Nat×Sig)}{cut:List Nat}{hints:List Hint}{sig:Sig}{f:Nat}{fn:Func}{t:T}{spec:zd}{fns:List FnI}{dep pool:Nat}(hf:Tryz.prog.funcs[f]?=some fn)(hname:(fn.name == "runtime.NumGoroutine")=false)
  (hdec:decomp (fxIn zoz sigs fn cut hints fns dep pool) sig fn=some t) (hfn:∀g∈fns,zee Tryz.prog g) (hsig:∀ci f s,sigs[ci]?=some (f,s)->Meets Tryz.prog (sp ci) f s) (hspec:∀ds rs,(∀d∈ds,d.ok)->spec ds=some rs->(∃N,den sp N t ds []=some rs)/\z7g sig rs):Meets Tryz.prog spec f sig :=
 zw8 hf hname hdec zt6 zwf hfn hsig hspec
theorem z8e{P:Program}:∀g∈([]:List FnI),zee P g:=λg h=>by cases h
theorem z2q{P:Program}{g:FnI}{l:List FnI}{fn:Func}(h1:P.funcs[g.f]?=some fn)(h2:(fn.name == "runtime.NumGoroutine")=false)(h3:fn.body=some g.body)(h4:fn.ntmps=g.nt)(h5:fn.results.toList=g.results)(hl:∀g∈l,zee P g):∀x∈g::l,zee P x:=by
 intro x hx;rcases zY0g.1 hx with he|hx
 ·rw[he];exact⟨fn,h1,h2,h3,h4,h5⟩
 ·exact hl x hx
theorem z72{sp:Nat->zd}{sigs:List (Nat×Sig)}{cut:List Nat}{hints:List Hint}{sig:Sig}{f:Nat}{fn:Func}{t:T}{spec:zd}(hf:Tryz.prog.funcs[f]?=some fn)(hname:(fn.name == "runtime.NumGoroutine")=false)
  (hdec:decomp (fxOf zoz sigs fn cut hints [] 0) sig fn=some t) (hsig:∀ci f s,sigs[ci]?=some (f,s)->Meets Tryz.prog (sp ci) f s) (hspec:∀ds rs,(∀d∈ds,d.ok)->spec ds=some rs->(∃N,den sp N t ds []=some rs)/\z7g sig rs):Meets Tryz.prog spec f sig :=
 zw8 hf hname hdec zt6 zwf (λg h=>by cases h) hsig hspec
theorem z25{P:Program}{f:Nat}{fn:Func}(h1:P.funcs[f]?=some fn:=by kernel_rfl)(h2:(fn.name == "runtime.NumGoroutine")=false:=by kernel_rfl)(h3:fn.body.isSome=true:=by kernel_rfl):En P f:=by
 obtain⟨c,hc⟩:=zY2z.1 h3;exact⟨fn,c,h1,h2,hc⟩
section
variable {P:Program} {W W':World} {F F':Nat->Prop}
theorem znd{s:Sig}{rs:List Dt}{v:Value}{us:List Value}(hv:zvx s.res v us)(hc:∀c∈zu s,c=.scal\/c=.pure)(hs:∀(j:Nat) (d:Dt),(zu s)[j]?=some .scal->rs[j]?=some d->d.scal=true)
  (hl:rs.length=(zu s).length) (hr:Reps W' F' rs us) (hF':∀b,F' b->F b\/(W.heap.size<=b/\b<W'.heap.size)):ResR W F W' s rs v us F' where
 val:=hv
 lrs:=hl
 lus:=by rw[<- hr.len,hl]
 cells:=λj f d u hf hd hu=>by
  obtain⟨u',hu',hR⟩:=hr.get hd;rw[hu]at hu';cases hu';rcases hc f (zY06 hf)with rfl|rfl
  ·exact⟨hs j d hf hd,hR⟩
  ·exact hR
 own:=hF'
 apart:=λj e sz u b hf=>by rcases hc _ (zY06 hf)with h|h<;>cases h
 dj:=λj j' e sz e' sz' u u' b hf=>by rcases hc _ (zY06 hf)with h|h<;>cases h
theorem z39{α β:Type}{S:Sh β}{eS:β->List Dt}(hE:ShE S eS){e:α->List Dt}{xs:α->List β}{pk:List PK}{t sz:Nat}{f:Nat}(hpk:z4w pk=false)(hsz:S.size=sz)(hpos:0<S.size)(hen:En P f)
  (h:∀x W F us,(∀b,F b->b<W.heap.size)->PKRs W F pk (e x) us->Calls P f us.toArray W λr W'=>∃n,z4x S t W F (xs x) n r W') :
  Meets P (z09 e λx=>[.l sz ((xs x).map eS)]) f ⟨pk,[(false,[.fresh t sz])],false⟩:=by
 refine .mk hpk ?_;intro W F ds args rs hF hargs hsp;obtain⟨x,rfl,rfl⟩:=z38 hsp;refine .inl ⟨hen.run _ _,(h x W F args hF.1 hargs).mono ?_⟩;rintro r W' ⟨n,v,zs,rfl,hz,hr,ho,hb⟩;subst hsz;have hag:Agree F W W':=λb hb'=>hb.block b (hF.1 b hb');have hzl:zs.length=n:=by have h1:=ho.1;rw[z9k λz hz=>S.len (hr z hz)]at h1;exact Nat.eq_of_mul_eq_mul_right hpos h1
 refine⟨v,rfl,hb,[v],F,⟨⟨rfl,rfl⟩,rfl,rfl,λj c d u hf hd hu=>?_,λb hb=>.inl hb,λj e' sz' u b hf hu hbl hFb=>?_,λj j' e sz e' sz' u u' b hf hu hf' hu' _ _=>?_⟩⟩
 ·cases j with
  |succ j=>simp[zu]at hf
  |zero =>
   simp only[zu,zY1x,zY2r,zY1b,zY05,zY00]at hf hd hu;subst hf;subst hd;subst hu;refine⟨_,flat zs,rfl,λy hy=>?_,?_,?_⟩
   ·obtain⟨z,_,rfl⟩:=zY2k.1 hy;exact hE.len z
   ·rw[zY0y,<- hz,zY0y,hzl];exact ho
   ·rw[<- hz];clear ho hz hzl;induction zs with
    |nil=>exact trivial
    |cons z zs ih =>simp only[flat,zY1n,zY1q];exact(hE.to (S.keep hag (hr z (zY0i ..)))).append (ih λz hz=>hr z (zY0h _ hz))
 ·cases j with
  |succ j=>simp[zu]at hf
  |zero =>simp only[zY05,zY00]at hu;subst hu;have h1:=zjm ho hbl;have h2:=hF.1 b hFb;omega
 ·cases j<;>cases j'<;>simp[zu]at hf hf' ⊢
theorem zcb{α:Type}{e:α->List Dt}{d:α->Dt}{pk:List PK}{f:Nat}(hpk:z4w pk=false)(hen:En P f)(hd:∀x,(d x).scal=true)
  (h:∀x W F us,(∀b,F b->b<W.heap.size)->PKRs W F pk (e x) us->Calls P f us.toArray W λr W'=>∃v,r=.returned v/\Below W.heap.size W W'/\Rep W' (λ_=>False) (d x) v):Meets P (z09 e λx=>[d x]) f ⟨pk,[(false,[.scal])],true⟩:=by
 refine .mk hpk ?_;intro W F ds args rs hF hargs hs;obtain⟨x,rfl,rfl⟩:=z38 hs;refine .inl ⟨hen.run _ _,(h x W F args hF.1 hargs).mono λe w' ⟨v,h1,h2,h3⟩=>⟨v,h1,h2,zn9 (hd x) (h3.mono (λ_ h=>h.elim) (λ_ h=>h.elim))⟩⟩
end
section
variable {sp:Nat->zd} {N:Nat} {E:Env} {ks:List (List Dt->Option (List Dt))} {res:Option (List Dt)}
theorem z03e{ci:Nat}{args:List Atom}{xs:List X}{ds rs:List Dt}(hx:xs=(List.range rs.length).map λj=>.call ci args j)(h:vals E args=some ds)(hs:sp ci ds=some rs):z0s sp E xs=some rs:=hx▸zt2 h hs
theorem z7t{a b:Atom}{m n:Int}(ha:a.val E=some (I m))(hb:b.val E=some (I n))(h: -9223372036854775808<=m+n/\m+n<=9223372036854775807):denX sp E (.B .add a b)=some (I (m+n)):=by
 have e:denX sp E (.B .add a b)=some (I (IntKind.i64.wrap (m+n))):=by simp only[denX,ha,hb,zY0a,zY07];rfl
 rw[e,wrap_i64 h]
theorem z0cu{F:(List Dt->Option (List Dt))->List Dt->Option (List Dt)}{st:Nat->List Dt}{n:Nat}(step:∀i,i<n->∀again,again (st (i+1))=res->F again (st i)=res)(last:∀again,F again (st n)=res):∀N,n<N->z04 F N (st 0)=res:=by
 have key:∀m i,i+m=n->∀N,m<N->z04 F N (st i)=res:=by
  intro m;induction m with
  |zero=>intro i hi N hN;obtain⟨N,rfl⟩:∃k,N=k+1:=⟨N-1,by omega⟩;rw[z04,show i=n by omega];exact last _
  |succ m ih =>
   intro i hi N hN;obtain⟨N,rfl⟩:∃k,N=k+1:=⟨N-1,by omega⟩
   rw[z04];exact step i zX0 _ (ih (i+1) zX0 N zX0)
 intro N hN;exact key n 0 zX0 N hN
theorem z06c{ats:List Atom}{body:T}{st:Nat->List Dt}{n:Nat}(h:vals E ats=some (st 0))(hN:n<N)(step:∀i,i<n->∀again:List Dt->Option (List Dt),again (st (i+1))=res->den sp N body (E++st i) (ks++[again])=res)
  (last:∀again:List Dt->Option (List Dt),den sp N body (E++st n) (ks++[again])=res):den sp N (.loop ats body) E ks=res :=
 z0y h (z0cu (F:=λagain ds=>den sp N body (E++ds) (ks++[again])) step last N hN)
end
section
variable {sp:Nat->zd} {N:Nat} {E:Env} {ks:List (List Dt->Option (List Dt))} {res:Option (List Dt)}
theorem z0cv{a b:Atom}{m n:Int}(ha:a.val E=some (I m))(hb:b.val E=some (I n))(h:m=n):denX sp E (.B .neq a b)=some (.b false):=by
 have e:denX sp E (.B .neq a b)=some (.b (!decide (m=n))):=by simp only[denX,ha,hb,zY0a,zY07];rfl
 rw[e,decide_eq_true h];rfl
theorem z0h{a:Atom}{t e:T}(h:a.val E=some (.b true))(ht:den sp N t E ks=res):den sp N (.ite a t e) E ks=res:=z1t h (λ_=>ht) (λh=>by cases h)
theorem z0e{a:Atom}{t e:T}(h:a.val E=some (.b false))(he:den sp N e E ks=res):den sp N (.ite a t e) E ks=res:=z1t h (λh=>by cases h) (λ_=>he)
theorem z2f{a:Atom}{sz:Nat}{xs:List (List Dt)}{n:Int}(ha:a.val E=some (.l sz xs))(h:(xs.length:Int)=n):denX sp E (.len a)=some (I n):=by simp only[denX,ha];rw[h]
end
section
variable {sp:Nat->zd} {N:Nat} {E:Env} {ks:List (List Dt->Option (List Dt))} {res:Option (List Dt)}
theorem z0cw{a b:Atom}{m n:Int}(ha:a.val E=some (I m))(hb:b.val E=some (I n))(h: -9223372036854775808<=m-n/\m-n<=9223372036854775807):denX sp E (.B .sub a b)=some (I (m-n)):=by
 have e:denX sp E (.B .sub a b)=some (I (IntKind.i64.wrap (m-n))):=by simp only[denX,ha,hb,zY0a,zY07];rfl
 rw[e,wrap_i64 h]
theorem zgk{a b:Atom}{m n:Int}(ha:a.val E=some (I m))(hb:b.val E=some (I n))(h: -9223372036854775808<=m*n/\m*n<=9223372036854775807):denX sp E (.B .mul a b)=some (I (m*n)):=by
 have e:denX sp E (.B .mul a b)=some (I (IntKind.i64.wrap (m*n))):=by simp only[denX,ha,hb,zY0a,zY07];rfl
 rw[e,wrap_i64 h]
theorem zr3{a b:Atom}{m n:Int}(ha:a.val E=some (I m))(hb:b.val E=some (I n))(h:n≠0):denX sp E (.B .rem a b)=some (I (m.tmod n)):=by
 have e:denX sp E (.B .rem a b)=(if n=0 then none else some (I (m.tmod n))):=by simp only[denX,ha,hb,zY0a,zY07];rfl
 rw[e,zN h]
theorem zwg{F:(List Dt->Option (List Dt))->List Dt->Option (List Dt)}{σ:Type}{st:σ->List Dt}{Inv:σ->Prop}{μ:σ->Nat}(step:∀s,Inv s->∀again,(∀s',Inv s'->μ s'<μ s->again (st s')=res)->F again (st s)=res):∀(N:Nat) (s:σ),Inv s->μ s<N->z04 F N (st s)=res
 |0,s,_,h=>absurd h (Nat.not_lt_zero _)
 |N+1,s,hi,h=>step s hi _ λs' h1 h2=>zwg step N s' h1 zX0
theorem zjp{ats:List Atom}{body:T}{σ:Type}(st:σ->List Dt)(Inv:σ->Prop)(μ:σ->Nat)(s0:σ)(h:vals E ats=some (st s0))(h0:Inv s0)(hN:μ s0<N)
  (step:∀s,Inv s->∀again:List Dt->Option (List Dt),(∀s',Inv s'->μ s'<μ s->again (st s')=res)->den sp N body (E++st s) (ks++[again])=res):den sp N (.loop ats body) E ks=res :=
 z0y h (zwg (F:=λagain ds=>den sp N body (E++ds) (ks++[again])) step N s0 h0 hN)
end
theorem z0b{pk:List PK}{l:Bool}{d:Dt}(h:d.scal=true):z7g ⟨pk,[(false,[.scal])],l⟩ [d]:=by
 intro i x hi hd
 match i,hi,hd with
 |0,_,hd=>simp only[zY05,zY00]at hd;subst hd;exact h
 |i+1,_,hd=>simp at hd
theorem zbw{pk:List PK}{l:Bool}{d d':Dt}(h:d.scal=true)(h':d'.scal=true):z7g ⟨pk,[(false,[.scal]),(false,[.scal])],l⟩ [d,d']:=by
 intro i x hi hd
 match i,hi,hd with
 |0,_,hd=>simp only[zY05,zY00]at hd;subst hd;exact h
 |1,_,hd=>simp only[zY05,zY2d,zY00]at hd;subst hd;exact h'
 |i+2,_,hd=>simp at hd
theorem zm3{s:Sig}{ds:List Dt}(h:∀c∈zu s,c.isScal=false):z7g s ds:=by intro i x hi hd;have:=h _ (zY06 hi);cases this
theorem zt7{P:Program}{spec:zd}{f:Nat}{pk:List PK}{e sz:Nat}{b:Bool}(hpk:z4w pk=false)(h:Meets P spec f ⟨pk,[(false,[.fresh e sz])],b⟩):Meets P spec f ⟨pk,[(false,[.pure])],b⟩ :=
 .mk hpk λW F ds args rs hF ha hs=>by
  have key:∀v W',(Below W.heap.size W W'/\∃us F',ResR W F W' ⟨pk,[(false,[.fresh e sz])],b⟩ rs v us F')->(Below W.heap.size W W'/\∃us F',ResR W F W' ⟨pk,[(false,[.pure])],b⟩ rs v us F'):=by
   rintro v W' ⟨hb,us,F',hR⟩;obtain⟨rfl,-⟩:=hR.val;have hl:=hR.lrs
   match rs,hl,hR with
   | [d],_,hR =>
    obtain⟨xs,vs,rfl,h2,h3,h4⟩:=hR.cells 0 (.fresh e sz) d v rfl rfl rfl;have hr:Rep W' (λb=>F' b\/v.ownBlock=some b) (.l sz xs) v:=zlj h2 h3 h4 (λ_ h=>.inl h) (λg hg=>.inr hg);refine⟨hb,[v],_,znd (F':=λb=>F' b\/v.ownBlock=some b) ⟨rfl,rfl⟩ (λc hc=>?_) (λj d hj _=>?_) rfl ⟨hr,trivial⟩ (λg hg=>?_)⟩
    ·simp[zu]at hc;exact .inr hc
    ·cases j<;>simp[zu]at hj
    ·rcases hg with hg|hg
     ·exact hR.own g hg
     ·exact .inr (z3p h3 hg)
  rcases h.1 hpk W F ds args rs hF ha hs with⟨h1,h2⟩|⟨v,W',h1,h2⟩
  ·exact .inl ⟨h1,h2.mono λe W' ⟨v,h3,h4⟩=>⟨v,h3,key v W' h4⟩⟩
  ·exact .inr ⟨v,W',h1,key v W' h2⟩
end Go.Proofs.YtmjelcjgllkapaaGreatDoor
noncomputable section
namespace Go.Proofs.YtmjelcjgllkapaaGreatDoor
open Go.RowKit
inductive Tri(α:Type) where
 |lf (x:α)
 |nd (n:Nat) (l r:Tri α)
 |em
def Tri.get{α:Type}(t:Tri α):Nat->Option α :=
 Tri.rec (motive:=λ_=>Nat->Option α) (λx i=>Nat.rec (motive:=λ_=>Option α) (some x) (λ_ _=>none) i) (λn _ _ gl gr i=>Bool.rec (motive:=λ_=>Option α) (gr (Nat.sub i n)) (gl i) (Nat.blt i n)) (λ_=>none) t
def Tri.set{α:Type}(t:Tri α):Nat->α->Tri α :=
 Tri.rec (motive:=λ_=>Nat->α->Tri α) (λx i v=>Nat.rec (motive:=λ_=>Tri α) (.lf v) (λ_ _=>.lf x) i) (λn l r sl sr i v=>Bool.rec (motive:=λ_=>Tri α) (.nd n l (sr (Nat.sub i n) v)) (.nd n (sl i v) r) (Nat.blt i n)) (λ_ _=>.em) t
def Tri.any{α:Type}(f:α->Bool)(t:Tri α):Bool:=Tri.rec (motive:=λ_=>Bool) (λx=>f x) (λ_ _ _ a b=>Bool.rec (motive:=λ_=>Bool) b true a) false t
def Tri.all{α:Type}(f:α->Bool)(t:Tri α):Bool:=Tri.rec (motive:=λ_=>Bool) (λx=>f x) (λ_ _ _ a b=>Bool.rec (motive:=λ_=>Bool) false b a) true t
def Tri.map{α β:Type}(f:α->β)(t:Tri α):Tri β:=Tri.rec (motive:=λ_=>Tri β) (λx=>.lf (f x)) (λn _ _ a b=>.nd n a b) .em t
def Tri.all2{α:Type}(f:α->α->Bool)(t:Tri α):Tri α->Bool :=
 Tri.rec (motive:=λ_=>Tri α->Bool) (λx u=>Tri.rec (motive:=λ_=>Bool) (λy=>f x y) (λ_ _ _ _ _=>false) false u) (λn _ _ a b u=>Tri.rec (motive:=λ_=>Bool) (λ_=>false) (λm l r _ _=>Bool.rec (motive:=λ_=>Bool) false (Bool.rec (motive:=λ_=>Bool) false (b r) (a l)) (Nat.beq n m)) false u) (λu=>Tri.rec (motive:=λ_=>Bool) (λ_=>false) (λ_ _ _ _ _=>false) true u) t
def Tri.size{α:Type}(t:Tri α):Nat:=Tri.rec (motive:=λ_=>Nat) (λ_=>1) (λn _ _ _ b=>Nat.add n b) 0 t
def Tri.rep{α:Type}(x:α):Nat->Nat->Tri α
 |0,_=>.em
 |d+1,n=>match n with
  |0=>.em
  |1=>.lf x
  |n=>.nd (n/2) (Tri.rep x d (n/2)) (Tri.rep x d (n-n/2))
def Tri.puts{α:Type}:Nat->List α->Tri α->Tri α
 |_,[],t=>t
 |i,x::xs,t=>Tri.puts (i+1) xs (t.set i x)
def zeh{α:Type}(τ:Tri SV)(ω:Tri (Option Ob))(m:Rd α):Option α :=
 Rd.rec (motive:=λ_=>Option α) (λa=>some a) none (λi _ ih=>Option.rec (motive:=λ_=>Option α) none (λx=>ih x) (τ.get i)) (λi _ ih=>Option.rec (motive:=λ_=>Option α) none (λx=>ih x) (ω.get i)) m
def zwh{α:Type}(τ:Tri SV)(ω:Tri (Option Ob))(m:Rd α):List Loc :=
 Rd.rec (motive:=λ_=>List Loc) (λ_=>[]) [] (λi _ ih=>Option.rec (motive:=λ_=>List Loc) [] (λx=>.t i::ih x) (τ.get i)) (λi _ ih=>Option.rec (motive:=λ_=>List Loc) [] (λx=>.o i::ih x) (ω.get i)) m
structure SF where
 τ:Tri SV
 ω:Tri (Option Ob)
 n:Nat
 lvl:Nat
 kn:List (Nat×Bool)
 kb:Nat
 σ:List (Tri SV)
def fN{β:Type}(n:Nat)(k:Nat->β):β:=Nat.rec (motive:=λ_=>β) (k 0) (λm _=>k (Nat.succ m)) n
def fL{α β:Type}(f:α->(α->β)->β)(l:List α):(List α->β)->β:=List.rec (motive:=λ_=>(List α->β)->β) (λk=>k []) (λx _ ih k=>f x λx=>ih λxs=>k (x::xs)) l
def fA{β:Type}(a:Atom)(k:Atom->β):β:=match a with
 |.v n=>fN n λn=>k (.v n)
 |.c l=>k (.c l)
def fOp{β:Type}(o:Option Atom)(k:Option Atom->β):β:=match o with
 |none=>k none
 |some a=>fA a λa=>k (some a)
def fPr{β:Type}(p:Atom×Atom)(k:Atom×Atom->β):β:=fA p.1 λa=>fA p.2 λb=>k (a,b)
def fX{β:Type}(x:X)(k:X->β):β:=match x with
 |.B op a b=>fA a λa=>fA b λb=>k (.B op a b)
 |.eqs n ps=>fL fPr ps λps=>k (.eqs n ps)
 |.beq n a b=>fA a λa=>fA b λb=>k (.beq n a b)
 |.not a=>fA a λa=>k (.not a)
 |.neg a=>fA a λa=>k (.neg a)
 |.conv c a=>fA a λa=>k (.conv c a)
 |.len a=>fA a λa=>k (.len a)
 |.slen a=>fA a λa=>k (.slen a)
 |.inr s a i=>fN s λs=>fA a λa=>fA i λi=>k (.inr s a i)
 |.idx a i j=>fA a λa=>fA i λi=>fN j λj=>k (.idx a i j)
 |.sub s a l h=>fN s λs=>fA a λa=>fOp l λl=>fOp h λh=>k (.sub s a l h)
 |.mk s r=>fN s λs=>fL (fL fA) r λr=>k (.mk s r)
 |.app s a b=>fN s λs=>fA a λa=>fA b λb=>k (.app s a b)
 |.set a i j vs=>fA a λa=>fA i λi=>fN j λj=>fL fA vs λvs=>k (.set a i j vs)
 |.ite c a b=>fA c λc=>fA a λa=>fA b λb=>k (.ite c a b)
 |.scal a=>fA a λa=>k (.scal a)
 |.call c l j=>fN c λc=>fL fA l λl=>fN j λj=>k (.call c l j)
 |.sel l i=>fL fA l λl=>fA i λi=>k (.sel l i)
 |.ssub a l h=>fA a λa=>fOp l λl=>fOp h λh=>k (.ssub a l h)
 |.mkz s z a=>fN s λs=>fA a λa=>k (.mkz s z a)
 |.mn a b=>fA a λa=>fA b λb=>k (.mn a b)
 |.ise n a=>fA a λa=>k (.ise n a)
 |.mget z a i j=>fA a λa=>fA i λi=>fN j λj=>k (.mget z a i j)
 |.mhas a i=>fA a λa=>fA i λi=>k (.mhas a i)
 |.mput v a i l=>fN v λv=>fA a λa=>fA i λi=>fL fA l λl=>k (.mput v a i l)
def fNN{β:Type}(p:Nat×Nat)(k:Nat×Nat->β):β:=fN p.1 λa=>fN p.2 λb=>k (a,b)
def fC{β:Type}(c:C1)(k:C1->β):β:=match c with
 |.top=>k .top
 |.und=>k .und
 |.at a=>fA a λa=>k (.at a)
 |.bp a b=>fN a λa=>fN b λb=>k (.bp a b)
 |.ep a i o=>fA a λa=>fA i λi=>fN o λo=>k (.ep a i o)
 |.row a=>fN a λa=>k (.row a)
 |.rp a i s o=>fN a λa=>fA i λi=>fN s λs=>fN o λo=>k (.rp a i s o)
 |.fn f cs=>fN f λf=>fL fNN cs λcs=>k (.fn f cs)
def fBl{β:Type}(b:Bool)(k:Bool->β):β:=match b with
 |true=>k true
 |false=>k false
def fPt{β:Type}(p:Bool×List C1)(k:Bool×List C1->β):β:=fBl p.1 λa=>fL fC p.2 λb=>k (a,b)
def fV{β:Type}(v:SV)(k:SV->β):β:=match v with
 |.one c=>fC c λc=>k (.one c)
 |.agg cs=>fL fC cs λcs=>k (.agg cs)
 |.tup ps=>fL fPt ps λps=>k (.tup ps)
def fO{β:Type}(o:Option Ob)(k:Option Ob->β):β:=match o with
 |none=>k none
 |some (.box t cs)=>fN t λt=>fL fC cs λcs=>k (some (.box t cs))
 |some (.ext cs)=>fL fC cs λcs=>k (some (.ext cs))
 |some (.row e s a)=>fN e λe=>fN s λs=>fA a λa=>k (some (.row e s a))
 |some (.frz a)=>fA a λa=>k (some (.frz a))
 |some .dead=>k (some .dead)
 |some (.gone a)=>fA a λa=>k (some (.gone a))
 |some (.map t v g a)=>fN t λt=>fN v λv=>fBl g λg=>fA a λa=>k (some (.map t v g a))
def fW{β:Type}(w:Wr)(k:Wr->β):β:=match w with
 |.t i v=>fN i λi=>fV v λv=>k (.t i v)
 |.o i v=>fN i λi=>fO v λv=>k (.o i v)
def fE{β:Type}(e:Eff)(k:Eff->β):β:=fL fX e.xs λxs=>fL fX e.ck λck=>fL fW e.ws λws=>k ⟨xs,ck,ws⟩
def fLo{β:Type}(l:Loc)(k:Loc->β):β:=match l with
 |.t i=>fN i λi=>k (.t i)
 |.o i=>fN i λi=>k (.o i)
namespace Fast
def fK{β:Type}(l:List (Nat×Bool))(k:List (Nat×Bool)->β):β:=match l with
 | []=>k []
 |(a,b)::r=>fN a λa=>k ((a,b)::r)
def wrT(τ:Tri SV)(ω:Tri (Option Ob)):List Wr->Tri SV×Tri (Option Ob)
 | []=>(τ,ω)
 |.t i v::ws=>wrT (τ.set i v) ω ws
 |.o i v::ws=>wrT τ (ω.set i v) ws
def guardOf(ops:List Oper)(s:SF)(o:Oper):Gd:=match o.guard with
 |none=>.yes
 |some (j,want)=>match(ops[j]?).bind (·.dst)with
  |none=>.fail
  |some d=>match s.τ.get d with
   |some (.one .und)=>.no
   |some (.one (.at a))=>match evB s.kn a with
    |some b=>if b=want then .yes else .no
    |none=>match a with
     |.v v=>.ask v
     |_=>.fail
   |_=>.fail
def regDo(cx:Cx)(nt:Nat)(ops:List Oper)(o:Oper)(s:SF)(k:SF->Rec->Option T):Option T :=
 let m:=zt cx s.kb s.n nt s.kn o
 match zeh s.τ s.ω m with
 |none=>none
 |some e=>fE e λe=>fN (s.n+e.xs.length) λn=>fL fLo (z8c ops o++zwh s.τ s.ω m) λlg =>
  let p:=wrT s.τ s.ω e.ws
  fK (zqr cx s.n e.xs s.kn) λkn =>
  match k { s with τ:=p.1,ω:=p.2,n:=n,kn:=kn } ⟨o,s.n,s.kn,true,e,lg⟩with
  |none=>none
  |some t=>some (zve e t)
def regSkip(ops:List Oper)(o:Oper)(s:SF)(k:SF->Rec->Option T):Option T :=
 let e:Eff:=⟨[],[],z07 o (.one .und)⟩
 let p:=wrT s.τ s.ω e.ws
 k { s with τ:=p.1,ω:=p.2 } ⟨o,s.n,s.kn,false,e,z8c ops o⟩
def learn(s:SF)(v:Nat)(b:Bool):SF:={ s with kn:=if Nat.ble knB v=true then s.kn else(v,b)::s.kn }
def regRun(cx:Cx)(nt:Nat)(ops:List Oper):List Oper->SF->List Rec->(SF->List Rec->Option T)->Option T
 | [],s,rs,k=>k s rs
 |o::rest,s,rs,k =>
  match guardOf ops s o with
  |.yes=>regDo cx nt ops o s λs r=>regRun cx nt ops rest s (rs++[r]) k
  |.no=>regSkip ops o s λs r=>regRun cx nt ops rest s (rs++[r]) k
  |.ask v =>
   let want:=match o.guard with|some (_,w)=>w|none=>true
   match regDo cx nt ops o (learn s v want) (λs r=>regRun cx nt ops rest s (rs++[r]) k),regSkip ops o (learn s v (!want)) (λs r=>regRun cx nt ops rest s (rs++[r]) k)with
   |some t,some e=>some (if want then .ite (.v v) t e else .ite (.v v) e t)
   |_,_=>none
  |.fail=>none
abbrev S3:=Tri SV×Tri (Option Ob)×List (Tri SV)
def renKey(k i:Nat)(p:S3):S3:=match p.2.1.get k,p.2.1.get i with
 |some (some o),some none=>if k=i then p else(p.1.map (SV.ren k i),((p.2.1.set k none).set i (some o)).map (Option.map (Ob.ren k i)),p.2.2.map (Tri.map (SV.ren k i)))
 |_,_=>p
def noRef(k:Nat)(τ:Tri SV)(ω:Tri (Option Ob))(σ:List (Tri SV)):Bool:=!τ.any (SV.refs k)&&(!ω.any λo=>match o with
 |some o=>o.refs k
 |none=>false) && !σ.any (Tri.any (SV.refs k))
def topAll(τ:Tri SV):List Nat->Tri SV
 | []=>τ
 |i::is=>topAll (τ.set i (.one .top)) is
def dropAll(τ:Tri SV)(ω:Tri (Option Ob))(σ:List (Tri SV)):List Nat->Tri (Option Ob)
 | []=>ω
 |k::ks=>match ω.get k with
  |some (some _)=>if noRef k τ ω σ then dropAll τ (ω.set k none) σ ks else dropAll τ ω σ ks
  |_=>dropAll τ ω σ ks
def rowKey(kb i e sz:Nat)(p:S3):S3 :=
 match p.1.get i with
 |some (.one (.at (.c (.nil z))))=>match p.2.1.get (kb+i)with
  |some none=>if z=sz then(p.1.set i (.one (.row (kb+i))),p.2.1.set (kb+i) (some (.row e sz (.c (.nil sz)))),p.2.2)else p
  |_=>p
 |some (.one (.row k))=>renKey k (kb+i) p
 |_=>p
def cellKey(k j key:Nat)(p:S3):S3:=match p.2.1.get (k)with
 |some (some (.box _ cs))=>match cs[j]? with
  |some (.row q)=>renKey q key p
  |_=>p
 |_=>p
def nilKey(k j key e sz:Nat)(p:S3):S3:=match p.2.1.get k with
 |some (some (.box t cs))=>match cs[j]? with
  |some (.at (.c (.nil z)))=>match p.2.1.get key with
   |some none=>if z=sz then(p.1,(p.2.1.set key (some (.row e sz (.c (.nil sz))))).set k (some (.box t (cs.set j (.row key)))),p.2.2)else p
   |_=>p
  |_=>p
 |_=>p
def rowKeys(kb:Nat)(p:S3):List Cy->S3
 | []=>p
 |.n k j key e sz::cs=>rowKeys kb (nilKey k j key e sz p) cs
 |.r i e sz::cs=>rowKeys kb (rowKey kb i e sz p) cs
 |.c k j key::cs=>rowKeys kb (cellKey k j key p) cs
 |_::cs=>rowKeys kb p cs
def normS(ds:List Nat)(cy:List Cy)(s:SF):S3 :=
 let keep:=cyT cy
 let τ:=topAll s.τ ((ds.filter λd => !keep.contains d)++cyZ cy)
 let ω:=dropAll τ s.ω s.σ (List.range s.ω.size)
 rowKeys s.kb (τ,ω,s.σ) cy
def genL(kb n:Nat)(τ:Tri SV)(ω:Tri (Option Ob)):Cy->(Tri SV×Tri (Option Ob))×List Atom
 |.t i=>match τ.get i with
  |some (.one (.at a))=>((τ.set i (.one (.at (.v n))),ω),[a])
  |some (.agg cs)=>let r:=zqs n cs;((τ.set i (.agg r.1),ω),r.2)
  |_=>((τ,ω),[])
 |.r i _ _=>match ω.get (kb+i)with
  |some (some (.row e sz a))=>((τ,ω.set (kb+i) (some (.row e sz (.v n)))),[a])
  |_=>((τ,ω),[])
 |.o k | .c _ _ k=>match ω.get k with
  |some (some (.row e sz a))=>((τ,ω.set k (some (.row e sz (.v n)))),[a])
  |some (some (.box t cs))=>let r:=zqs n cs;((τ,ω.set k (some (.box t r.1))),r.2)
  |some (some (.map t vs g a))=>((τ,ω.set k (some (.map t vs g (.v n)))),[a])
  |_=>((τ,ω),[])
 |.z _ | .n .. => ((τ,ω),[])
def gen(kb n:Nat)(τ:Tri SV)(ω:Tri (Option Ob)):List Cy->(Tri SV×Tri (Option Ob))×List Atom
 | []=>((τ,ω),[])
 |c::cs =>
  let p:=genL kb n τ ω c
  let q:=gen kb (n+p.2.length) p.1.1 p.1.2 cs
  (q.1,p.2++q.2)
def oT(m:Nat):Option Ob->Bool
 |some o=>inO m o
 |none=>true
def bqA(a b:Atom):Bool:=match a,b with
 |.v n,.v m=>Nat.beq n m
 |.c x,.c y=>decide (x=y)
 |_,_=>false
def bqP:List (Nat×Nat)->List (Nat×Nat)->Bool
 | [],[]=>true
 |(a,b)::r,(c,d)::s=>Nat.beq a c&&Nat.beq b d&&bqP r s
 |_,_=>false
def bqC(a b:C1):Bool:=match a,b with
 |.top,.top=>true
 |.und,.und=>true
 |.at a,.at b=>bqA a b
 |.bp a b,.bp c d=>Nat.beq a c&&Nat.beq b d
 |.ep a i o,.ep a' i' o'=>bqA a a'&&bqA i i'&&Nat.beq o o'
 |.row a,.row b=>Nat.beq a b
 |.rp a i s o,.rp a' i' s' o'=>Nat.beq a a'&&bqA i i'&&Nat.beq s s'&&Nat.beq o o'
 |.fn f cs,.fn g ds=>Nat.beq f g&&bqP cs ds
 |_,_=>false
def bqCs:List C1->List C1->Bool
 | [],[]=>true
 |a::r,b::s=>bqC a b&&bqCs r s
 |_,_=>false
def bqB(a b:Bool):Bool:=match a with
 |true=>b
 |false => !b
def bqPs:List (Bool×List C1)->List (Bool×List C1)->Bool
 | [],[]=>true
 |(a,b)::r,(c,d)::s=>bqB a c&&bqCs b d&&bqPs r s
 |_,_=>false
def bqV(a b:SV):Bool:=match a,b with
 |.one a,.one b=>bqC a b
 |.agg a,.agg b=>bqCs a b
 |.tup a,.tup b=>bqPs a b
 |_,_=>false
def bqO(a b:Option Ob):Bool:=match a,b with
 |none,none=>true
 |some (.box t c),some (.box t' c')=>Nat.beq t t'&&bqCs c c'
 |some (.ext c),some (.ext c')=>bqCs c c'
 |some (.row e s a),some (.row e' s' a')=>Nat.beq e e'&&Nat.beq s s'&&bqA a a'
 |some (.frz a),some (.frz a')=>bqA a a'
 |some .dead,some .dead=>true
 |some (.gone a),some (.gone a')=>bqA a a'
 |some (.map t v g a),some (.map t' v' g' a')=>Nat.beq t t'&&Nat.beq v v'&&bqB g g'&&bqA a a'
 |_,_=>false
def bqS:List (Tri SV)->List (Tri SV)->Bool
 | [],[]=>true
 |a::r,b::s=>Tri.all2 bqV a b&&bqS r s
 |_,_=>false
def sameS(n:Nat)(as0:List Atom)(σ:List (Tri SV))(τ:Tri SV)(ω:Tri (Option Ob))(τ':Tri SV)(ω':Tri (Option Ob))(σ':List (Tri SV)):Bool :=
 bqS σ' σ&&σ.all (Tri.all (inV (n+as0.length)))&&bqS (σ.map (Tri.map (sbV n as0))) σ &&
 τ.all (inV (n+as0.length))&&ω.all (oT (n+as0.length))&&Tri.all2 bqV (τ.map (sbV n as0)) τ'&&Tri.all2 bqO (ω.map (Option.map (sbO n as0))) ω'
def inlOf(fx:Fx)(s:SF)(o:Oper):Option (FnI×List SV):=match o.op with
 |.call c=>match c.callee with
  |.value fx'=>match zeh s.τ s.ω (evC fx.cx 0 fx')with
   |some (.fn f caps)=>match ze7 f fx.fns with
    |some g=>match zeh s.τ s.ω (zcm fx.cx c.args.toList c.argTypes.toList)with
     |some vs=>some (g,vs++caps.map λp=>.one (.bp p.1 p.2))
     |none=>none
    |none=>none
   |_=>none
  |_=>none
 |_=>none
def freeKey(ω:Tri (Option Ob)):Nat->Nat->Option Nat
 |0,_=>none
 |m+1,k=>match ω.get k with
  |some none=>some k
  |some (some _)=>freeKey ω m (k+1)
  |none=>none
def toPool(pool:Nat)(p:S3):List Nat->S3
 | []=>p
 |k::ks=>match p.2.1.get k with
  |some (some _)=>match freeKey p.2.1 100 pool with
   |some i=>toPool pool (renKey k i p) ks
   |none=>toPool pool p ks
  |_=>toPool pool p ks
abbrev Inl:=Fx->FnI->List SV->Oper->SF->(SF->Option T)->Option T
def z0gk:Inl:=λ_ _ _ _ _ _=>none
def seqRun(inl:Inl)(fx:Fx)(ops:List Oper):List Oper->SF->(SF->Option T)->Option T
 | [],s,k=>k s
 |o::rest,s,k =>
  let go:SF->Option T:=λs=>match inlOf fx s o with
   |some (g,vs)=>inl fx g vs o s λs=>seqRun inl fx ops rest s k
   |none=>regDo fx.cx fx.nt ops o s λs _=>seqRun inl fx ops rest s k
  match guardOf ops s o with
  |.yes=>go s
  |.no=>regSkip ops o s λs _=>seqRun inl fx ops rest s k
  |.ask v =>
   let want:=match o.guard with|some (_,w)=>w|none=>true
   match go (learn s v want),regSkip ops o (learn s v (!want)) (λs _=>seqRun inl fx ops rest s k)with
   |some t,some e=>some (if want then .ite (.v v) t e else .ite (.v v) e t)
   |_,_=>none
  |.fail=>none
def segRun(inl:Inl)(fx:Fx)(ops:List Oper)(an:List (List Nat)):Nat->Nat->SF->(SF->Option T)->Option T
 |0,_,_,_=>none
 |m+1,off,s,k=>match ze8 fx.fns an ops.length (ops.drop off) off with
  |some i=>match ops[i]? with
   |some o'=>if zvk an i ops.length&&o'.guard.isNone&&Nat.ble off i then
     regRun fx.cx fx.nt ops ((ops.drop off).take (i-off)) s [] λs' rs=>if zam an off rs then(match inlOf fx s' o' with
      |some (g,vs)=>inl fx g vs o' s' λs2=>segRun inl fx ops an m (i+1) s2 k
      |none=>regDo fx.cx fx.nt ops o' s' λs2 _=>segRun inl fx ops an m (i+1) s2 k)else none
    else none
   |none=>none
  |none=>regRun fx.cx fx.nt ops (ops.drop off) s [] λs' rs=>if zam an off rs then k s' else none
def exec(inl:Inl)(fx:Fx):Code->SF->(Ex->SF->Option T)->Option T
 |.skip,s,k=>k .normal s
 |.label _,s,k=>k .normal s
 |.region _ ops draw,s,k=>if draw=false then seqRun inl fx ops.toList ops.toList s λs'=>k .normal s' else
  if zdf 0 ops.toList=false then none else
  segRun inl fx ops.toList (z4z ops.toList []) 40 0 s λs'=>k .normal s'
 |.seq a b,s,k=>exec inl fx a s λe s'=>match e with
  |.normal=>exec inl fx b s' k
  |e=>k e s'
 |.cond c x y,s,k=>match zeh s.τ s.ω (evA fx.cx 0 c)with
  |none=>none
  |some a=>match evB s.kn a with
   |some true=>exec inl fx x s k
   |some false=>exec inl fx y s k
   |none=>match a with
    |.v v=>match exec inl fx x (learn s v true) k,exec inl fx y (learn s v false) k with
     |some t,some e=>some (.ite (.v v) t e)
     |_,_=>none
    |_=>none
 |.block id b,s,k=>exec inl fx b s λe s'=>match e with
  |.exit j=>if j=id then k .normal s' else k (.exit j) s'
  |e=>k e s'
 |.exit id,s,k=>k (.exit id) s
 |.ret,s,k=>k .ret s
 |.loop b,s,k =>
  let cy:=z06 b fx.hints
  let ds:=z19 b
  let p:=normS ds cy s
  let g:=gen s.kb s.n p.1 p.2.1 cy
  let n:=s.n
  if sameS n g.2 p.2.2 g.1.1 g.1.2 p.1 p.2.1 p.2.2 then
   match exec inl fx b { s with τ:=g.1.1,ω:=g.1.2,n:=n+g.2.length,lvl:=s.lvl+1,σ:=p.2.2 } (λe s'=>match e with
    |.normal =>
     let p':=normS ds cy s'
     let g':=gen s.kb n p'.1 p'.2.1 cy
     if s'.kb=s.kb/\g'.2.length=g.2.length/\sameS n g'.2 p.2.2 g.1.1 g.1.2 p'.1 p'.2.1 p'.2.2 then some (.again s.lvl g'.2)else none
    |e=>k e s')with
   |some t=>some (.loop g.2 t)
   |none=>none
  else none
 |_,_,_=>none
def rowArgs(z:List Nat)(τ:Tri SV)(o:Oper):List Nat:=cutZ z++match o.op with
 |.call c=>c.args.toList.filterMap λx=>match x with
  |.tmp t=>match τ.get t with
   |some (.one (.row _))=>some t
   |_=>none
  |_=>none
 |_=>[]
def inlD:Nat->Inl
 |0,_,_,_,_,_,_=>none
 |d+1,fx,g,vs,o,s,k =>
  if g.nt<vs.length\/2048<g.nt then none else
  exec (inlD d) { fx with cx:={ fx.cx with cut:=g.cut },nt:=g.nt,hints:=g.hints } g.body { s with τ:=Tri.puts 0 vs (Tri.rep (.one .und) 12 g.nt),kb:=s.kb+fx.mul*fx.nt,σ:=topAll s.τ (rowArgs fx.cx.cut s.τ o)::s.σ } λe s2=>match e with
   |.exit _=>none
   |_=>match zeh s2.τ s2.ω (z8w fx.cx g.results)with
    |none=>none
    |some svs=>match zcn svs with
     |none=>none
     |some sv =>
      match s2.σ with
      | []=>none
      |τ0::σ0=>if Nat.beq τ0.size s.τ.size=false then none else
      let p:=wrT τ0 s2.ω (z07 o sv)
      let ω:=dropAll p.1 p.2 σ0 (List.range p.2.size)
      let q:=toPool fx.pool (p.1,ω,σ0) (List.range' (s.kb+fx.mul*fx.nt) (fx.mul*g.nt))
      k { s2 with τ:=q.1,ω:=q.2.1,σ:=q.2.2,kb:=s.kb }
def initS(sig:Sig)(nt cap:Nat):SF :=
 let r:=z0f 0 cap sig.args
 ⟨Tri.puts 0 r.1 (Tri.rep (.one .und) 12 nt),Tri.puts cap (r.2.1.map some) (Tri.rep none 14 (cap+r.2.1.length)),r.2.2,0,[],0,[]⟩
def outOf(cx:Cx)(sig:Sig)(rs:List ResultVar)(s:SF):Option T:=do
 let vs <- zeh s.τ s.ω (z8w cx rs)
 let p <- zeh s.τ s.ω (zlg sig.res vs)
 let ks:=p.filterMap (·.2.1)
 let qs:=p.filterMap (·.2.2)
 if za7 ks&&ks.all (λk => !qs.contains k)then some (.ret (p.map (·.1)))else none
def fT{β:Type}(t:T)(k:T->β):β:=match t with
 |.ret l=>fL fA l λl=>k (.ret l)
 |.W xs ck t=>fL fX xs λxs=>fL fX ck λck=>fT t λt=>k (.W xs ck t)
 |.ite a t e=>fA a λa=>fT t λt=>fT e λe=>k (.ite a t e)
 |.loop l b=>fL fA l λl=>fT b λb=>k (.loop l b)
 |.again n l=>fN n λn=>fL fA l λl=>k (.again n l)
def decomp(fx:Fx)(sig:Sig)(fn:Func):Option T :=
 if(fx.nt≠fn.ntmps\/fn.ntmps<sig.args.length)\/z4w sig.args=true\/2048<fn.ntmps\/8192<fx.cap+(z0f 0 fx.cap sig.args).2.1.length\/fn.ntmps<(z0f 0 fx.cap sig.args).1.length then none else
 match fn.body with
 |none=>none
 |some c=>exec (inlD fx.dep) fx c (initS sig fn.ntmps fx.cap) λe s=>match e with
  |.exit _=>none
  |_=>outOf fx.cx sig fn.results.toList s
def decompN(fx:Fx)(sig:Sig)(fn:Func):Option T:=match decomp fx sig fn with
 |none=>none
 |some t=>fT t some
end Fast
end Go.Proofs.YtmjelcjgllkapaaGreatDoor
namespace Go.Proofs.YtmjelcjgllkapaaGreatDoor
open Go.RowKit
def Tri.toL{α:Type}:Tri α->List α
 |.lf x=>[x]
 |.nd _ l r=>l.toL++r.toL
 |.em=>[]
def Tri.wf{α:Type}:Tri α->Prop
 |.lf _=>True
 |.nd n l r=>l.toL.length=n/\l.wf/\r.wf
 |.em=>True
section
variable {α β:Type}
theorem Tri.get_nd(n:Nat)(l r:Tri α)(i:Nat):(Tri.nd n l r).get i=if i<n then l.get i else r.get (i-n):=by
 show Bool.rec (motive:=λ_=>Option α) (r.get (i-n)) (l.get i) (Nat.blt i n)=_;by_cases h:i<n
 ·rw[zP h,show Nat.blt i n=true from Nat.ble_eq_true_of_le h]
 ·rw[zN h];have:Nat.blt i n=false:=by
   cases hb:Nat.blt i n with
   |false=>rfl
   |true=>exact absurd (Nat.le_of_ble_eq_true hb) h
  rw[this]
theorem Tri.set_nd(n:Nat)(l r:Tri α)(i:Nat)(v:α):(Tri.nd n l r).set i v=if i<n then .nd n (l.set i v) r else .nd n l (r.set (i-n) v):=by
 show Bool.rec (motive:=λ_=>Tri α) (.nd n l (r.set (i-n) v)) (.nd n (l.set i v) r) (Nat.blt i n)=_;by_cases h:i<n
 ·rw[zP h,show Nat.blt i n=true from Nat.ble_eq_true_of_le h]
 ·rw[zN h];have:Nat.blt i n=false:=by
   cases hb:Nat.blt i n with
   |false=>rfl
   |true=>exact absurd (Nat.le_of_ble_eq_true hb) h
  rw[this]
theorem Tri.get_eq:∀ {t:Tri α} (h:t.wf) (i:Nat),t.get i=t.toL[i]?
 |.lf x,_,0=>rfl
 |.lf x,_,i+1=>rfl
 |.em,_,i=>rfl
 |.nd n l r,⟨h1,h2,h3⟩,i=>by
  rw[Tri.get_nd,Tri.toL];by_cases h:i<n
  ·rw[zP h,zY0l zX0,Tri.get_eq h2]
  ·rw[zN h,zY0q zX0,Tri.get_eq h3,h1]
theorem Tri.set_toL:∀ {t:Tri α} (h:t.wf) (i:Nat) (v:α),(t.set i v).toL=t.toL.set i v
 |.lf x,_,0,v=>rfl
 |.lf x,_,i+1,v=>rfl
 |.em,_,i,v=>rfl
 |.nd n l r,⟨h1,h2,h3⟩,i,v=>by
  rw[Tri.set_nd];by_cases h:i<n
  ·rw[zP h,Tri.toL,Tri.toL,Tri.set_toL h2,List.set_append,zP zX0]
  ·rw[zN h,Tri.toL,Tri.toL,Tri.set_toL h3,List.set_append,zN zX0,h1]
theorem Tri.set_wf:∀ {t:Tri α} (h:t.wf) (i:Nat) (v:α),(t.set i v).wf
 |.lf x,_,0,v=>trivial
 |.lf x,_,i+1,v=>trivial
 |.em,_,i,v=>trivial
 |.nd n l r,⟨h1,h2,h3⟩,i,v=>by
  rw[Tri.set_nd];by_cases h:i<n
  ·rw[zP h];exact⟨by rw[Tri.set_toL h2,zY2q,h1],Tri.set_wf h2 i v,h3⟩
  ·rw[zN h];exact⟨h1,h2,Tri.set_wf h3 _ v⟩
theorem Tri.any_eq(f:α->Bool):∀t:Tri α,t.any f=t.toL.any f
 |.lf x=>by simp[Tri.any,Tri.toL]
 |.em=>rfl
 |.nd n l r=>by
  have:(Tri.nd n l r).any f=(l.any f||r.any f):=by show Bool.rec (motive:=λ_=>Bool) (r.any f) true (l.any f)=_;cases l.any f<;>rfl
  rw[this,Tri.toL,List.any_append,Tri.any_eq f l,Tri.any_eq f r]
theorem Tri.all_eq(f:α->Bool):∀t:Tri α,t.all f=t.toL.all f
 |.lf x=>by simp[Tri.all,Tri.toL]
 |.em=>rfl
 |.nd n l r=>by
  have:(Tri.nd n l r).all f=(l.all f&&r.all f):=by show Bool.rec (motive:=λ_=>Bool) false (r.all f) (l.all f)=_;cases l.all f<;>rfl
  rw[this,Tri.toL,zY3l,Tri.all_eq f l,Tri.all_eq f r]
theorem Tri.map_nd(f:α->β)(n:Nat)(l r:Tri α):(Tri.nd n l r).map f=.nd n (l.map f) (r.map f):=rfl
theorem Tri.map_toL(f:α->β):∀t:Tri α,(t.map f).toL=t.toL.map f
 |.lf x=>rfl
 |.em=>rfl
 |.nd n l r=>by rw[Tri.map_nd,Tri.toL,Tri.toL,zY24,Tri.map_toL f l,Tri.map_toL f r]
theorem Tri.map_wf(f:α->β):∀ {t:Tri α},t.wf->(t.map f).wf
 |.lf x,_=>trivial
 |.em,_=>trivial
 |.nd n l r,⟨h1,h2,h3⟩=>⟨by show(l.map f).toL.length=n;rw[Tri.map_toL,zY0y,h1],Tri.map_wf f h2,Tri.map_wf f h3⟩
theorem Tri.all2_eq{f:α->α->Bool}(hf:∀a b,f a b=true->a=b):∀ {t u:Tri α},t.all2 f u=true->t=u
 |.lf x,.lf y,h=>by rw[hf x y h]
 |.lf x,.nd ..,h=>by cases h
 |.lf x,.em,h=>by cases h
 |.em,.lf y,h=>by cases h
 |.em,.nd ..,h=>by cases h
 |.em,.em,h=>rfl
 |.nd n l r,.lf y,h=>by cases h
 |.nd n l r,.em,h=>by cases h
 |.nd n l r,.nd m l' r',h=>by
  have h:Bool.rec (motive:=λ_=>Bool) false (Bool.rec (motive:=λ_=>Bool) false (r.all2 f r') (l.all2 f l')) (Nat.beq n m)=true:=h;cases h1:Nat.beq n m with
  |false=>rw[h1]at h;cases h
  |true =>
   rw[h1]at h;cases h2:l.all2 f l' with
   |false=>rw[h2]at h;cases h
   |true =>rw[h2]at h;rw[zY11 h1,Tri.all2_eq hf h2,Tri.all2_eq hf (t:=r) (u:=r') h]
theorem Tri.size_eq:∀ {t:Tri α},t.wf->t.size=t.toL.length
 |.lf x,_=>rfl
 |.em,_=>rfl
 |.nd n l r,⟨h1,h2,h3⟩=>by have:(Tri.nd n l r).size=n+r.size:=rfl;rw[this,Tri.toL,zY04,h1,Tri.size_eq h3]
theorem Tri.rep_ok(x:α):∀(d n:Nat),n<=2 ^ d->(Tri.rep x (d+1) n).toL=List.replicate n x/\(Tri.rep x (d+1) n).wf
 |d,0,_=>by unfold Tri.rep;exact⟨rfl,trivial⟩
 |d,1,_=>by unfold Tri.rep;exact⟨rfl,trivial⟩
 |0,n+2,h=>by simp at h
 |d+1,n+2,h=>by
  have hp:2 ^ (d+1)=2*2 ^ d:=by rw[Nat.pow_succ];omega
  obtain⟨h1,h2⟩:=Tri.rep_ok x d ((n+2)/2) zX0;obtain⟨h3,h4⟩:=Tri.rep_ok x d (n+2-(n+2)/2) zX0;have e:Tri.rep x (d+1+1) (n+2)=.nd ((n+2)/2) (Tri.rep x (d+1) ((n+2)/2)) (Tri.rep x (d+1) (n+2-(n+2)/2)):=rfl;rw[e];refine⟨?_,?_,h2,h4⟩
  ·rw[Tri.toL,h1,h3,List.replicate_append_replicate];congr 1;omega
  ·rw[h1,zY25]
theorem Tri.puts_ok:∀(xs:List α) (k:Nat) (t:Tri α),t.wf->k+xs.length<=t.toL.length->(Tri.puts k xs t).toL=t.toL.take k++xs++t.toL.drop (k+xs.length)/\(Tri.puts k xs t).wf
 | [],k,t,h,hl=>by unfold Tri.puts;exact⟨by simp,h⟩
 |x::xs,k,t,h,hl=>by unfold Tri.puts;simp only[zY08]at hl;obtain⟨h1,h2⟩:=Tri.puts_ok xs (k+1) (t.set k x) (Tri.set_wf h k x) (by rw[Tri.set_toL h,zY2q];omega);refine⟨?_,h2⟩;rw[h1,Tri.set_toL h];have hk:k<t.toL.length:=zX0;rw[zY37 (by rw[zY2q];exact hk),List.getElem_set_self];rw[List.take_set_of_le (zY0k k),List.drop_set_of_lt zX0];simp only[zY08,zY1a,zY1g,zY16];rw[show k+(xs.length+1)=k+1+xs.length by omega]
end
section
variable {β:Type}
theorem zcc(n:Nat)(k:Nat->β):fN n k=k n:=by cases n<;>rfl
theorem z83{α:Type}{f:α->(α->β)->β}(hf:∀x k,f x k=k x):∀(l:List α) (k:List α->β),fL f l k=k l
 | [],k=>rfl
 |x::xs,k=>by show f x (λx=>fL f xs λxs=>k (x::xs))=k (x::xs);rw[hf,z83 hf xs]
theorem zhn(a:Atom)(k:Atom->β):fA a k=k a:=by cases a<;>simp[fA,zcc]
theorem z0fc(a:Option Atom)(k:Option Atom->β):fOp a k=k a:=by cases a<;>simp[fOp,zhn]
theorem z0fd(a:Atom×Atom)(k:Atom×Atom->β):fPr a k=k a:=by simp[fPr,zhn]
theorem zjq(l:List Atom)(k:List Atom->β):fL fA l k=k l:=z83 zhn l k
theorem z03f(x:X)(k:X->β):fX x k=k x:=by cases x<;>simp[fX,zhn,zcc,z0fc,z83 z0fd,zjq,z83 (f:=fL fA) zjq]
theorem z0fe(a:Nat×Nat)(k:Nat×Nat->β):fNN a k=k a:=by simp[fNN,zcc]
theorem zvf(c:C1)(k:C1->β):fC c k=k c:=by cases c<;>simp[fC,zhn,zcc,z83 z0fe]
theorem z06d(b:Bool)(k:Bool->β):fBl b k=k b:=by cases b<;>rfl
theorem z0ff(a:Bool×List C1)(k:Bool×List C1->β):fPt a k=k a:=by simp[fPt,z06d,z83 zvf]
theorem z0gm(v:SV)(k:SV->β):fV v k=k v:=by cases v<;>simp[fV,zvf,z83 zvf,z83 z0ff]
theorem z0gn(o:Option Ob)(k:Option Ob->β):fO o k=k o:=by
 cases o with
 |none=>rfl
 |some o=>cases o<;>simp[fO,zcc,zhn,z83 zvf,z06d]
theorem z0go(w:Wr)(k:Wr->β):fW w k=k w:=by cases w<;>simp[fW,zcc,z0gm,z0gn]
theorem z0gp(e:Eff)(k:Eff->β):fE e k=k e:=by simp[fE,z83 z03f,z83 z0go]
theorem z0fg(l:Loc)(k:Loc->β):fLo l k=k l:=by cases l<;>simp[fLo,zcc]
theorem zp0:∀(t:T) (k:T->β),Fast.fT t k=k t
 |.ret l,k=>by rw[Fast.fT,zjq]
 |.W xs ck t,k=>by rw[Fast.fT,z83 z03f,z83 z03f,zp0 t]
 |.ite a t e,k=>by rw[Fast.fT,zhn,zp0 t,zp0 e]
 |.loop l b,k=>by rw[Fast.fT,zjq,zp0 b]
 |.again n l,k=>by rw[Fast.fT,zcc,zjq]
end
theorem zcq{a b:Atom}(h:Fast.bqA a b=true):a=b:=by
 cases a<;>cases b<;>simp only[Fast.bqA,decide_eq_true_eq,zY0x]at h
 ·rw[zY11 h]
 ·rw[h]
theorem z06e:∀ {a b:List (Nat×Nat)},Fast.bqP a b=true->a=b
 | [],[],_=>rfl
 | [],_::_,h=>by cases h
 |_::_,[],h=>by cases h
 |(a,b)::r,(c,d)::s,h=>by simp only[Fast.bqP,zY0e]at h;rw[zY11 h.1.1,zY11 h.1.2,z06e h.2]
theorem z06f{a b:C1}(h:Fast.bqC a b=true):a=b:=by
 cases a<;>cases b<;>simp only[Fast.bqC,zY0e,zY0x]at h<;>try rfl
 ·rw[zcq h]
 ·rw[zY11 h.1,zY11 h.2]
 ·rw[zcq h.1.1,zcq h.1.2,zY11 h.2]
 ·rw[zY11 h]
 ·rw[zY11 h.1.1.1,zcq h.1.1.2,zY11 h.1.2,zY11 h.2]
 ·rw[zY11 h.1,z06e h.2]
theorem zgl:∀ {a b:List C1},Fast.bqCs a b=true->a=b
 | [],[],_=>rfl
 | [],_::_,h=>by cases h
 |_::_,[],h=>by cases h
 |a::r,c::s,h=>by simp only[Fast.bqCs,zY0e]at h;rw[z06f h.1,zgl h.2]
theorem z06g{a b:Bool}(h:Fast.bqB a b=true):a=b:=by cases a<;>cases b<;>first|rfl|cases h
theorem z01y:∀ {a b:List (Bool×List C1)},Fast.bqPs a b=true->a=b
 | [],[],_=>rfl
 | [],_::_,h=>by cases h
 |_::_,[],h=>by cases h
 |(a,b)::r,(c,d)::s,h=>by simp only[Fast.bqPs,zY0e]at h;rw[z06g h.1.1,zgl h.1.2,z01y h.2]
theorem z06h(a b:SV)(h:Fast.bqV a b=true):a=b:=by
 cases a<;>cases b<;>simp only[Fast.bqV,zY0x]at h
 ·rw[z06f h]
 ·rw[zgl h]
 ·rw[z01y h]
theorem z0fh(a b:Option Ob)(h:Fast.bqO a b=true):a=b:=by
 cases a with
 |none=>cases b with
  |none=>rfl
  |some b=>cases h
 |some a=>cases b with
  |none=>cases a<;>cases h
  |some b =>
   cases a<;>cases b<;>simp only[Fast.bqO,zY0e,zY0x]at h<;>try rfl
   ·rw[zY11 h.1,zgl h.2]
   ·rw[zgl h]
   ·rw[zY11 h.1.1,zY11 h.1.2,zcq h.2]
   ·rw[zcq h]
   ·rw[zcq h]
   ·rw[zY11 h.1.1.1,zY11 h.1.1.2,z06g h.1.2,zcq h.2]
theorem zwi:∀ {a b:List (Tri SV)},Fast.bqS a b=true->a=b
 | [],[],_=>rfl
 | [],_::_,h=>by cases h
 |_::_,[],h=>by cases h
 |a::r,c::s,h=>by simp only[Fast.bqS,zY0e]at h;rw[Tri.all2_eq z06h h.1,zwi h.2]
theorem zr4{α:Type}{τ:Tri SV}{ω:Tri (Option Ob)}(h1:τ.wf)(h2:ω.wf):∀m:Rd α,zeh τ ω m=m.run τ.toL ω.toL
 |.pure a=>rfl
 |.fail=>rfl
 |.t i k=>by
  show Option.rec (motive:=λ_=>Option α) none (λx=>zeh τ ω (k x)) (τ.get i)=_;rw[Tri.get_eq h1,Rd.run];cases τ.toL[i]? with
  |none=>rfl
  |some x=>exact zr4 h1 h2 (k x)
 |.o i k=>by
  show Option.rec (motive:=λ_=>Option α) none (λx=>zeh τ ω (k x)) (ω.get i)=_;rw[Tri.get_eq h2,Rd.run];cases ω.toL[i]? with
  |none=>rfl
  |some x=>exact zr4 h1 h2 (k x)
theorem zr5{α:Type}{τ:Tri SV}{ω:Tri (Option Ob)}(h1:τ.wf)(h2:ω.wf):∀m:Rd α,zwh τ ω m=m.log τ.toL ω.toL
 |.pure a=>rfl
 |.fail=>rfl
 |.t i k=>by
  show Option.rec (motive:=λ_=>List Loc) [] (λx=>Loc.t i::zwh τ ω (k x)) (τ.get i)=_;rw[Tri.get_eq h1,Rd.log];cases τ.toL[i]? with
  |none=>rfl
  |some x=>exact congrArg _ (zr5 h1 h2 (k x))
 |.o i k=>by
  show Option.rec (motive:=λ_=>List Loc) [] (λx=>Loc.o i::zwh τ ω (k x)) (ω.get i)=_;rw[Tri.get_eq h2,Rd.log];cases ω.toL[i]? with
  |none=>rfl
  |some x=>exact congrArg _ (zr5 h1 h2 (k x))
def Tri.Is{α:Type}(t:Tri α)(l:List α):Prop:=t.wf/\t.toL=l
def IsS(σ:List (Tri SV))(l:List SV):Prop:=(∀t∈σ,t.wf)/\σ.flatMap Tri.toL=l
theorem Tri.Is.get{α:Type}{t:Tri α}{l:List α}(h:t.Is l)(i:Nat):t.get i=l[i]?:=by rw[Tri.get_eq h.1,h.2]
theorem Tri.Is.set{α:Type}{t:Tri α}{l:List α}(h:t.Is l)(i:Nat)(v:α):(t.set i v).Is (l.set i v):=⟨Tri.set_wf h.1 i v,by rw[Tri.set_toL h.1,h.2]⟩
theorem Tri.Is.map{α β:Type}{t:Tri α}{l:List α}(h:t.Is l)(f:α->β):(t.map f).Is (l.map f):=⟨Tri.map_wf f h.1,by rw[Tri.map_toL,h.2]⟩
theorem IsS.map{σ:List (Tri SV)}{l:List SV}(h:IsS σ l)(f:SV->SV):IsS (σ.map (Tri.map f)) (l.map f):=by
 obtain⟨h1,rfl⟩:=h;refine⟨λt ht=>?_,?_⟩
 ·obtain⟨u,hu,rfl⟩:=zY2k.1 ht;exact Tri.map_wf f (h1 u hu)
 ·induction σ with
  |nil=>rfl
  |cons t σ ih=>simp only[zY1n,zY1x,zY24,Tri.map_toL,ih λu hu=>h1 u (zY0h _ hu)]
theorem IsS.any{σ:List (Tri SV)}{l:List SV}(h:IsS σ l)(f:SV->Bool):σ.any (Tri.any f)=l.any f:=by
 obtain⟨h1,rfl⟩:=h;induction σ with
 |nil=>rfl
 |cons t σ ih=>simp only[zY3a,zY1x,List.any_append,Tri.any_eq,ih λu hu=>h1 u (zY0h _ hu)]
theorem IsS.all{σ:List (Tri SV)}{l:List SV}(h:IsS σ l)(f:SV->Bool):σ.all (Tri.all f)=l.all f:=by
 obtain⟨h1,rfl⟩:=h;induction σ with
 |nil=>rfl
 |cons t σ ih=>simp only[zY3x,zY1x,zY3l,Tri.all_eq,ih λu hu=>h1 u (zY0h _ hu)]
theorem Tri.Is.run{α:Type}{τ:Tri SV}{ω:Tri (Option Ob)}{τ':List SV}{ω':List (Option Ob)}(h1:τ.Is τ')(h2:ω.Is ω')(m:Rd α):zeh τ ω m=m.run τ' ω':=by rw[zr4 h1.1 h2.1,h1.2,h2.2]
theorem Tri.Is.log{α:Type}{τ:Tri SV}{ω:Tri (Option Ob)}{τ':List SV}{ω':List (Option Ob)}(h1:τ.Is τ')(h2:ω.Is ω')(m:Rd α):zwh τ ω m=m.log τ' ω':=by rw[zr5 h1.1 h2.1,h1.2,h2.2]
theorem zjr:∀(ws:List Wr) {τ:Tri SV} {ω:Tri (Option Ob)} {τ':List SV} {ω':List (Option Ob)},τ.Is τ'->ω.Is ω'->(Fast.wrT τ ω ws).1.Is (wr τ' ω' ws).1/\(Fast.wrT τ ω ws).2.Is (wr τ' ω' ws).2
 | [],_,_,_,_,h1,h2=>⟨h1,h2⟩
 |.t i v::ws,_,_,_,_,h1,h2=>zjr ws (h1.set i v) h2
 |.o i v::ws,_,_,_,_,h1,h2=>zjr ws h1 (h2.set i v)
structure Rl(a:SF)(b:St):Prop where
 τ:a.τ.Is b.τ
 ω:a.ω.Is b.ω
 n:a.n=b.n
 lvl:a.lvl=b.lvl
 kn:a.kn=b.kn
 kb:a.kb=b.kb
 σ:IsS a.σ b.σ
theorem zp1{a:SF}{b:St}(h:Rl a b)(ops:List Oper)(o:Oper):Fast.guardOf ops a o=guardOf ops b o:=by
 unfold Fast.guardOf guardOf;rw[h.kn];cases o.guard with
 |none=>rfl
 |some p =>
  simp only;cases(ops[p.1]?).bind (·.dst)with
  |none=>rfl
  |some d =>simp only[h.τ.get];rfl
theorem z0gq{β:Type}(l:List (Nat×Bool))(k:List (Nat×Bool)->β):Fast.fK l k=k l:=by
 rcases l with _|⟨⟨x,y⟩,r⟩
 ·rfl
 ·show fN x (λa=>k ((a,y)::r))=_;rw[zcc]
theorem zfa{a:SF}{b:St}(h:Rl a b){cx:Cx}{nt:Nat}{ops:List Oper}{o:Oper}{kF:SF->Rec->Option T}{k:St->Rec->Option T}(hk:∀a b r t,Rl a b->kF a r=some t->k b r=some t){t:T}(he:Fast.regDo cx nt ops o a kF=some t):regDo cx nt ops o b k=some t:=by
 unfold Fast.regDo at he;unfold regDo;simp only[z0gp,zcc,z83 z0fg,z0gq,h.n,h.kb,h.kn,h.τ.run h.ω,h.τ.log h.ω]at he⊢;cases hr:(zt cx b.kb b.n nt b.kn o).run b.τ b.ω with
 |none=>rw[hr]at he;cases he
 |some e =>
  rw[hr]at he;simp only at he⊢;obtain⟨w1,w2⟩:=zjr e.ws h.τ h.ω;split at he
  ·cases he
  ·rename_i t' ht;have hh:=λh'=>hk _ { b with τ:=(wr b.τ b.ω e.ws).1,ω:=(wr b.τ b.ω e.ws).2,n:=b.n+e.xs.length,kn:=zqr cx b.n e.xs b.kn } _ t' h' ht;have:=hh ⟨w1,w2,rfl,h.lvl,rfl,rfl,h.σ⟩;rw[this];exact he
theorem zcd{a:SF}{b:St}(h:Rl a b){ops:List Oper}{o:Oper}{kF:SF->Rec->Option T}{k:St->Rec->Option T}(hk:∀a b r t,Rl a b->kF a r=some t->k b r=some t){t:T}(he:Fast.regSkip ops o a kF=some t):regSkip ops o b k=some t:=by unfold Fast.regSkip at he;unfold regSkip;simp only[h.n,h.kn]at he⊢;obtain⟨w1,w2⟩:=zjr (z07 o (.one .und)) h.τ h.ω;have hh:=λs h'=>hk _ s _ t h' he;exact hh _ ⟨w1,w2,rfl,h.lvl,rfl,h.kb,h.σ⟩
theorem zac{a:SF}{b:St}(h:Rl a b)(v:Nat)(x:Bool):Rl (Fast.learn a v x) (learn b v x):=⟨h.τ,h.ω,h.n,h.lvl,by show(if Nat.ble knB v=true then a.kn else(v,x)::a.kn)=(if Nat.ble knB v=true then b.kn else(v,x)::b.kn);rw[h.kn],h.kb,h.σ⟩
theorem zho{cx:Cx}{nt:Nat}{ops:List Oper}{kF:SF->List Rec->Option T}{k:St->List Rec->Option T}(hk:∀a b r t,Rl a b->kF a r=some t->k b r=some t):∀(l:List Oper) {a:SF} {b:St} (h:Rl a b) (rs:List Rec) {t:T} (he:Fast.regRun cx nt ops l a rs kF=some t),regRun cx nt ops l b rs k=some t
 | [],a,b,h,rs,t,he=>hk a b rs t h he
 |o::l,a,b,h,rs,t,he=>by
  rw[Fast.regRun]at he;rw[regRun];rw[zp1 h]at he;have step:∀a b r t,Rl a b->Fast.regRun cx nt ops l a (rs++[r]) kF=some t->regRun cx nt ops l b (rs++[r]) k=some t:=λa b r t h he=>zho hk l h _ he;cases hg:guardOf ops b o with
  |yes=>rw[hg]at he;simp only at he⊢;exact zfa h step he
  |no=>rw[hg]at he;simp only at he⊢;exact zcd h step he
  |fail=>rw[hg]at he;cases he
  |ask v =>
   rw[hg]at he;simp only at he⊢;generalize hgd:o.guard=g at he;rcases g with _|⟨gj,gw⟩;all_goals
    simp only at he⊢;split at he
    ·rename_i x y h1 h2;rw[zfa (zac h v _) step h1,zcd (zac h v _) step h2];exact he
    ·cases he
structure RlP(p:Fast.S3)(q:S3):Prop where
 τ:p.1.Is q.1
 ω:p.2.1.Is q.2.1
 σ:IsS p.2.2 q.2.2
theorem zhp{p:Fast.S3}{q:S3}(h:RlP p q)(k i:Nat):RlP (Fast.renKey k i p) (renKey k i q):=by
 unfold Fast.renKey renKey;rw[h.ω.get,h.ω.get];generalize q.2.1[k]?=x;generalize q.2.1[i]?=y;rcases x with _|_|o
 ·exact h
 ·exact h
 ·rcases y with _|_|o'
  ·exact h
  ·show RlP (if k=i then p else _) (if k=i then q else _);split
   ·exact h
   ·exact⟨h.τ.map _,((h.ω.set _ _).set _ _).map _,h.σ.map _⟩
  ·exact h
theorem z09x{τ:Tri SV}{ω:Tri (Option Ob)}{σ:List (Tri SV)}{τ':List SV}{ω':List (Option Ob)}{σ':List SV}(h1:τ.Is τ')(h2:ω.Is ω')(h3:IsS σ σ')(k:Nat):Fast.noRef k τ ω σ=noRef k τ' ω' σ':=by unfold Fast.noRef noRef;rw[Tri.any_eq,Tri.any_eq,h1.2,h2.2,h3.any];rfl
theorem zjs:∀(l:List Nat) {τ:Tri SV} {τ':List SV},τ.Is τ'->(Fast.topAll τ l).Is (topAll τ' l)
 | [],_,_,h=>h
 |i::l,_,_,h=>zjs l (h.set i _)
theorem z8x{τ:Tri SV}{σ:List (Tri SV)}{τ':List SV}{σ':List SV}(h1:τ.Is τ')(h3:IsS σ σ'):∀(l:List Nat) {ω:Tri (Option Ob)} {ω':List (Option Ob)},ω.Is ω'->(Fast.dropAll τ ω σ l).Is (dropAll τ' ω' σ' l)
 | [],_,_,h=>h
 |k::l,ω,ω',h=>by
  rw[Fast.dropAll,dropAll,h.get,z09x h1 h h3];generalize ω'[k]?=x;rcases x with _|_|v
  ·exact z8x h1 h3 l h
  ·exact z8x h1 h3 l h
  ·show Tri.Is (if noRef k τ' ω' σ'=true then _ else _) (if noRef k τ' ω' σ'=true then _ else _);split
   ·exact z8x h1 h3 l (h.set k _)
   ·exact z8x h1 h3 l h
theorem z03g{p:Fast.S3}{q:S3}(h:RlP p q)(kb i e sz:Nat):RlP (Fast.rowKey kb i e sz p) (rowKey kb i e sz q):=by
 unfold Fast.rowKey rowKey;rw[h.τ.get];generalize q.1[i]?=x;rcases x with _|v
 ·exact h
 cases v with
 |agg cs=>exact h
 |tup ps=>exact h
 |one c =>
  cases c with
  |row k=>exact zhp h _ _
  | «at» a =>
   cases a with
   |v n=>exact h
   |c l =>
    cases l with
    |nil z =>
     show RlP (match p.2.1.get (kb+i)with|some none=>_|_=>_) (match q.2.1[kb+i]? with|some none=>_|_=>_);rw[h.ω.get];generalize q.2.1[kb+i]?=y;rcases y with _|_|o
     ·exact h
     ·show RlP (if z=sz then _ else _) (if z=sz then _ else _);split
      ·exact⟨h.τ.set _ _,h.ω.set _ _,h.σ⟩
      ·exact h
     ·exact h
    |_=>exact h
  |_=>exact h
theorem zzi{p:Fast.S3}{q:S3}(h:RlP p q)(k j key:Nat):RlP (Fast.cellKey k j key p) (cellKey k j key q):=by
 unfold Fast.cellKey cellKey;rw[h.ω.get];generalize q.2.1[k]?=x;rcases x with _|_|o
 ·exact h
 ·exact h
 cases o with
 |box t cs =>
  show RlP (match cs[j]? with|some (.row q)=>_|_=>_) (match cs[j]? with|some (.row q)=>_|_=>_);generalize cs[j]?=y;rcases y with _|c
  ·exact h
  ·cases c with
   |row k=>exact zhp h _ _
   |_=>exact h
 |_=>exact h
theorem z03h{p:Fast.S3}{q:S3}(h:RlP p q)(k j key e sz:Nat):RlP (Fast.nilKey k j key e sz p) (nilKey k j key e sz q):=by
 unfold Fast.nilKey nilKey;rw[h.ω.get];generalize q.2.1[k]?=x;rcases x with _|_|o
 ·exact h
 ·exact h
 cases o with
 |box t cs =>
  show RlP (match cs[j]? with|some (.at (.c (.nil z)))=>_|_=>_) (match cs[j]? with|some (.at (.c (.nil z)))=>_|_=>_);generalize cs[j]?=y;rcases y with _|c
  ·exact h
  cases c with
  | «at» a =>
   cases a with
   |v n=>exact h
   |c l =>
    cases l with
    |nil z =>
     show RlP (match p.2.1.get key with|some none=>_|_=>_) (match q.2.1[key]? with|some none=>_|_=>_);rw[h.ω.get];generalize q.2.1[key]?=y;rcases y with _|_|o
     ·exact h
     ·show RlP (if z=sz then _ else _) (if z=sz then _ else _);split
      ·exact⟨h.τ,(h.ω.set _ _).set _ _,h.σ⟩
      ·exact h
     ·exact h
    |_=>exact h
  |_=>exact h
 |_=>exact h
theorem z6j(kb:Nat):∀(l:List Cy) {p:Fast.S3} {q:S3},RlP p q->RlP (Fast.rowKeys kb p l) (rowKeys kb q l)
 | [],_,_,h=>h
 |.r i e sz::l,_,_,h=>z6j kb l (z03g h kb i e sz)
 |.c k j key::l,_,_,h=>z6j kb l (zzi h k j key)
 |.t _::l,_,_,h=>z6j kb l h
 |.o _::l,_,_,h=>z6j kb l h
 |.z _::l,_,_,h=>z6j kb l h
 |.n k j key e sz::l,_,_,h=>z6j kb l (z03h h k j key e sz)
theorem zt8{a:SF}{b:St}(h:Rl a b)(ds:List Nat)(cy:List Cy):RlP (Fast.normS ds cy a) (normS ds cy b):=by unfold Fast.normS normS;simp only;rw[h.kb,Tri.size_eq h.ω.1,h.ω.2];have ht:=zjs ((ds.filter λd => !(cyT cy).contains d)++cyZ cy) h.τ;exact z6j _ _ ⟨ht,z8x ht h.σ _ h.ω,h.σ⟩
structure RlG(p:(Tri SV×Tri (Option Ob))×List Atom)(q:(List SV×List (Option Ob))×List Atom):Prop where
 τ:p.1.1.Is q.1.1
 ω:p.1.2.Is q.1.2
 l:p.2=q.2
theorem z09y{τ:Tri SV}{ω:Tri (Option Ob)}{τ':List SV}{ω':List (Option Ob)}(h1:τ.Is τ')(h2:ω.Is ω')(kb n:Nat):∀c:Cy,RlG (Fast.genL kb n τ ω c) (genL kb n τ' ω' c)
 |.t i=>by
  rw[Fast.genL,genL,h1.get];generalize τ'[i]?=x;rcases x with _|v
  ·exact⟨h1,h2,rfl⟩
  cases v with
  |one c=>cases c<;>first|exact⟨h1,h2,rfl⟩|exact⟨h1.set _ _,h2,rfl⟩
  |agg cs=>exact⟨h1.set _ _,h2,rfl⟩
  |tup ps=>exact⟨h1,h2,rfl⟩
 |.r i e sz=>by
  rw[Fast.genL,genL,h2.get];generalize ω'[kb+i]?=x;rcases x with _|_|o
  ·exact⟨h1,h2,rfl⟩
  ·exact⟨h1,h2,rfl⟩
  ·cases o<;>first|exact⟨h1,h2,rfl⟩|exact⟨h1,h2.set _ _,rfl⟩
 |.o k=>by
  rw[Fast.genL,genL,h2.get];generalize ω'[k]?=x;rcases x with _|_|o
  ·exact⟨h1,h2,rfl⟩
  ·exact⟨h1,h2,rfl⟩
  ·cases o<;>first|exact⟨h1,h2,rfl⟩|exact⟨h1,h2.set _ _,rfl⟩
 |.c _ _ k=>by
  rw[Fast.genL,genL,h2.get];generalize ω'[k]?=x;rcases x with _|_|o
  ·exact⟨h1,h2,rfl⟩
  ·exact⟨h1,h2,rfl⟩
  ·cases o<;>first|exact⟨h1,h2,rfl⟩|exact⟨h1,h2.set _ _,rfl⟩
 |.z _=>⟨h1,h2,rfl⟩
 |.n .. => ⟨h1,h2,rfl⟩
theorem zr6(kb:Nat):∀(cy:List Cy) (n:Nat) {τ:Tri SV} {ω:Tri (Option Ob)} {τ':List SV} {ω':List (Option Ob)},τ.Is τ'->ω.Is ω'->RlG (Fast.gen kb n τ ω cy) (gen kb n τ' ω' cy)
 | [],n,_,_,_,_,h1,h2=>⟨h1,h2,rfl⟩
 |c::cs,n,τ,ω,τ',ω',h1,h2=>by
  have h:=z09y h1 h2 kb n c;have h':=zr6 kb cs (n+(genL kb n τ' ω' c).2.length) h.τ h.ω;have e:n+(Fast.genL kb n τ ω c).2.length=n+(genL kb n τ' ω' c).2.length:=by rw[h.l]
  show RlG ((Fast.gen kb (n+(Fast.genL kb n τ ω c).2.length) (Fast.genL kb n τ ω c).1.1 (Fast.genL kb n τ ω c).1.2 cs).1,(Fast.genL kb n τ ω c).2++(Fast.gen kb (n+(Fast.genL kb n τ ω c).2.length) (Fast.genL kb n τ ω c).1.1 (Fast.genL kb n τ ω c).1.2 cs).2) ((gen kb (n+(genL kb n τ' ω' c).2.length) (genL kb n τ' ω' c).1.1 (genL kb n τ' ω' c).1.2 cs).1,(genL kb n τ' ω' c).2++(gen kb (n+(genL kb n τ' ω' c).2.length) (genL kb n τ' ω' c).1.1 (genL kb n τ' ω' c).1.2 cs).2);rw[e];exact⟨h'.τ,h'.ω,by rw[h.l,h'.l]⟩
theorem zt9{n:Nat}{l:List Atom}{σ σ1:List (Tri SV)}{τ τ1:Tri SV}{ω ω1:Tri (Option Ob)}{σ' σ1':List SV}{τ' τ1':List SV}{ω' ω1':List (Option Ob)}(hσ:IsS σ σ')(hσ1:IsS σ1 σ1')(hτ:τ.Is τ')(hτ1:τ1.Is τ1')(hω:ω.Is ω')(hω1:ω1.Is ω1')
  (h:Fast.sameS n l σ τ ω τ1 ω1 σ1=true):sameS n l σ' τ' ω' τ1' ω1' σ1'=true:=by
 unfold Fast.sameS at h;simp only[zY0e]at h;obtain⟨⟨⟨⟨⟨⟨h1,h2⟩,h3⟩,h4⟩,h5⟩,h6⟩,h7⟩:=h;have e1:σ1'=σ':=by rw[<- hσ.2,<- hσ1.2,zwi h1]
 have e3:σ'.map (sbV n l)=σ':=by have:=(hσ.map (sbV n l)).2;rw[zwi h3,hσ.2]at this;exact this.symm
 have e6:τ'.map (sbV n l)=τ1':=by have:=(hτ.map (sbV n l)).2;rw[Tri.all2_eq z06h h6,hτ1.2]at this;exact this.symm
 have e7:ω'.map (Option.map (sbO n l))=ω1':=by have:=(hω.map (Option.map (sbO n l))).2;rw[Tri.all2_eq z0fh h7,hω1.2]at this;exact this.symm
 rw[hσ.all]at h2;rw[Tri.all_eq,hτ.2]at h4;rw[Tri.all_eq,hω.2]at h5;unfold sameS;simp only[zY0e,decide_eq_true_eq];exact⟨⟨⟨⟨⟨⟨e1,h2⟩,e3⟩,h4⟩,h5⟩,e6⟩,e7⟩
theorem zwj{a:SF}{b:St}(h:Rl a b)(fx:Fx)(o:Oper):Fast.inlOf fx a o=inlOf fx b o:=by
 unfold Fast.inlOf inlOf;cases o.op with
 |call c =>
  simp only;cases c.callee with
  |value fx' =>
   simp only;rw[h.τ.run h.ω];generalize(evC fx.cx 0 fx').run b.τ b.ω=x;rcases x with _|c1
   ·rfl
   ·cases c1 with
    |fn f caps =>
     simp only;cases ze7 f fx.fns with
     |none=>rfl
     |some g =>simp only;rw[h.τ.run h.ω];rfl
    |_=>rfl
  |_=>rfl
 |_=>rfl
theorem zp2{ω:Tri (Option Ob)}{ω':List (Option Ob)}(h:ω.Is ω'):∀n k,Fast.freeKey ω n k=freeKey ω' n k
 |0,k=>rfl
 |n+1,k=>by
  rw[Fast.freeKey,freeKey,h.get];generalize ω'[k]?=x;rcases x with _|_|o
  ·rfl
  ·rfl
  ·exact zp2 h n (k+1)
theorem zav(pool:Nat):∀(l:List Nat) {p:Fast.S3} {q:S3},RlP p q->RlP (Fast.toPool pool p l) (toPool pool q l)
 | [],_,_,h=>h
 |k::l,p,q,h=>by
  rw[Fast.toPool,toPool,h.ω.get];generalize q.2.1[k]?=x;rcases x with _|_|o
  ·exact zav pool l h
  ·exact zav pool l h
  ·show RlP (match Fast.freeKey p.2.1 100 pool with|some i=>_|none=>_) (match freeKey q.2.1 100 pool with|some i=>_|none=>_);rw[zp2 h.ω];cases freeKey q.2.1 100 pool with
   |none=>exact zav pool l h
   |some i=>exact zav pool l (zhp h k i)
def RlI(iF:Fast.Inl)(i:Inl):Prop:=∀(fx:Fx) (g:FnI) (vs:List SV) (o:Oper) (a:SF) (b:St) (kF:SF->Option T) (k:St->Option T) (t:T),Rl a b->(∀a b t,Rl a b->kF a=some t->k b=some t)->iF fx g vs o a kF=some t->i fx g vs o b k=some t
theorem zp3{iF:Fast.Inl}{i:Inl}(hi:RlI iF i){fx:Fx}{ops:List Oper}{kF:SF->Option T}{k:St->Option T}(hk:∀a b t,Rl a b->kF a=some t->k b=some t):∀(l:List Oper) {a:SF} {b:St} (h:Rl a b) {t:T},Fast.seqRun iF fx ops l a kF=some t->seqRun i fx ops l b k=some t
 | [],a,b,h,t,he=>hk a b t h he
 |o::l,a,b,h,t,he=>by
  rw[Fast.seqRun]at he;rw[seqRun];rw[zp1 h]at he;have step:∀a b t,Rl a b->Fast.seqRun iF fx ops l a kF=some t->seqRun i fx ops l b k=some t:=λa b t h he=>zp3 hi hk l h he;have go:∀a b t,Rl a b->(match Fast.inlOf fx a o with
    |some (g,vs)=>iF fx g vs o a λs=>Fast.seqRun iF fx ops l s kF
    |none=>Fast.regDo fx.cx fx.nt ops o a λs _=>Fast.seqRun iF fx ops l s kF)=some t->(match inlOf fx b o with
    |some (g,vs)=>i fx g vs o b λs=>seqRun i fx ops l s k
    |none=>regDo fx.cx fx.nt ops o b λs _=>seqRun i fx ops l s k)=some t:=by
   intro a b t h he;rw[zwj h]at he;generalize inlOf fx b o=io at he⊢;rcases io with _|⟨g,vs⟩
   ·exact zfa h (λa b _ t h he=>step a b t h he) he
   ·exact hi fx g vs o a b _ _ t h step he
  cases hg:guardOf ops b o with
  |yes=>rw[hg]at he;simp only at he⊢;exact go a b t h he
  |no=>rw[hg]at he;simp only at he⊢;exact zcd h (λa b _ t h he=>step a b t h he) he
  |fail=>rw[hg]at he;cases he
  |ask v =>
   rw[hg]at he;simp only at he⊢;generalize hgd:o.guard=g at he;rcases g with _|⟨gj,gw⟩;all_goals
    simp only at he⊢;split at he
    ·rename_i x y h1 h2;have g1:=go _ _ _ (zac h v _) h1;have g2:=zcd (zac h v _) (λa b _ t h he=>step a b t h he) h2;split
     ·rename_i x' y' e1 e2;cases e1.symm.trans g1;cases e2.symm.trans g2;exact he
     ·rename_i hno;exact(hno x y g1 g2).elim
    ·cases he
theorem zhq{iF:Fast.Inl}{i:Inl}(hi:RlI iF i){fx:Fx}{ops:List Oper}{an:List (List Nat)}{kF:SF->Option T}{k:St->Option T}(hk:∀a b t,Rl a b->kF a=some t->k b=some t):∀(m off:Nat) {a:SF} {b:St} (h:Rl a b) {t:T},Fast.segRun iF fx ops an m off a kF=some t->segRun i fx ops an m off b k=some t
 |0,off,a,b,h,t,he=>by cases he
 |m+1,off,a,b,h,t,he=>by
  rw[Fast.segRun]at he;rw[segRun];cases hsp:ze8 fx.fns an ops.length (ops.drop off) off with
  |none =>
   rw[hsp]at he;simp only at he⊢;refine zho (λa b r t h he=>?_) _ h _ he;by_cases hi':zam an off r=true
   ·rw[zP hi']at he⊢;exact hk a b t h he
   ·rw[zN hi']at he;cases he
  |some j =>
   rw[hsp]at he;simp only at he⊢;cases hoj:ops[j]? with
   |none=>rw[hoj]at he;cases he
   |some o' =>
    rw[hoj]at he;simp only at he⊢;by_cases hm:(zvk an j ops.length&&o'.guard.isNone&&Nat.ble off j)=true
    ·rw[zP hm]at he⊢;refine zho (λa b r t h he=>?_) _ h _ he;by_cases hi':zam an off r=true
     ·rw[zP hi']at he⊢;rw[zwj h]at he;generalize inlOf fx b o'=io at he⊢;rcases io with _|⟨g,vs⟩
      ·exact zfa h (λa b _ t h he=>zhq hi hk m (j+1) h he) he
      ·exact hi fx g vs o' a b _ _ t h (λa b t h he=>zhq hi hk m (j+1) h he) he
     ·rw[zN hi']at he;cases he
    ·rw[zN hm]at he;cases he
theorem z6k{iF:Fast.Inl}{i:Inl}(hi:RlI iF i){fx:Fx}:∀(c:Code) {a:SF} {b:St} (h:Rl a b) {kF:Ex->SF->Option T} {k:Ex->St->Option T} (hk:∀e a b t,Rl a b->kF e a=some t->k e b=some t) {t:T},Fast.exec iF fx c a kF=some t->exec i fx c b k=some t
 |.skip,a,b,h,kF,k,hk,t,he=>hk _ _ _ _ h he
 |.label _,a,b,h,kF,k,hk,t,he=>hk _ _ _ _ h he
 |.exit _,a,b,h,kF,k,hk,t,he=>hk _ _ _ _ h he
 |.ret,a,b,h,kF,k,hk,t,he=>hk _ _ _ _ h he
 |.region id ops draw,a,b,h,kF,k,hk,t,he=>by
  rw[Fast.exec]at he;rw[exec];cases draw with
  |false =>simp only[if_true]at he⊢;exact zp3 hi (λa b t h he=>hk _ a b t h he) _ h he
  |true =>
   simp only[Bool.true_eq_false,if_false]at he⊢;split at he
   ·cases he
   rename_i hb;rw[zN hb];exact zhq hi (λa b t h he=>hk _ a b t h he) 40 0 h he
 |.seq x y,a,b,h,kF,k,hk,t,he=>by
  rw[Fast.exec]at he;rw[exec];refine z6k hi x h (λe a b t h he=>?_) he;cases e with
  |normal=>exact z6k hi y h hk he
  |exit j=>exact hk _ _ _ _ h he
  |ret=>exact hk _ _ _ _ h he
 |.cond c x y,a,b,h,kF,k,hk,t,he=>by
  rw[Fast.exec]at he;rw[exec];rw[h.τ.run h.ω,h.kn]at he;cases hr:(evA fx.cx 0 c).run b.τ b.ω with
  |none=>rw[hr]at he;cases he
  |some at' =>
   rw[hr]at he;simp only at he⊢;cases hv:evB b.kn at' with
   |some z =>
    rw[hv]at he;cases z with
    |true=>exact z6k hi x h hk he
    |false=>exact z6k hi y h hk he
   |none =>
    rw[hv]at he;cases at' with
    |c l=>cases he
    |v v =>
     simp only at he⊢;split at he
     ·rename_i t1 t2 h1 h2;rw[z6k hi x (zac h v true) hk h1,z6k hi y (zac h v false) hk h2];exact he
     ·cases he
 |.block id x,a,b,h,kF,k,hk,t,he=>by
  rw[Fast.exec]at he;rw[exec];refine z6k hi x h (λe a b t h he=>?_) he;cases e with
  |normal=>exact hk _ _ _ _ h he
  |exit j =>
   simp only at he⊢;by_cases hj:j=id
   ·rw[zP hj]at he⊢;exact hk _ _ _ _ h he
   ·rw[zN hj]at he⊢;exact hk _ _ _ _ h he
  |ret=>exact hk _ _ _ _ h he
 |.loop x,a,b,h,kF,k,hk,t,he=>by
  rw[Fast.exec]at he;rw[exec];simp only at he⊢;have hp:=zt8 h (z19 x) (z06 x fx.hints);have hg:=zr6 b.kb (z06 x fx.hints) b.n hp.τ hp.ω;rw[h.kb,h.n]at he;split at he
  ·rename_i hs;rw[hg.l]at hs;have hs':=zt9 hp.σ hp.σ hg.τ hp.τ hg.ω hp.ω hs;rw[zP hs'];split at he
   ·rename_i t' ht;have hr:Rl { a with τ:=(Fast.gen b.kb b.n (Fast.normS (z19 x) (z06 x fx.hints) a).1 (Fast.normS (z19 x) (z06 x fx.hints) a).2.1 (z06 x fx.hints)).1.1,ω:=(Fast.gen b.kb b.n (Fast.normS (z19 x) (z06 x fx.hints) a).1 (Fast.normS (z19 x) (z06 x fx.hints) a).2.1 (z06 x fx.hints)).1.2,n:=b.n+(Fast.gen b.kb b.n (Fast.normS (z19 x) (z06 x fx.hints) a).1 (Fast.normS (z19 x) (z06 x fx.hints) a).2.1 (z06 x fx.hints)).2.length,lvl:=a.lvl+1,kb:=b.kb,σ:=(Fast.normS (z19 x) (z06 x fx.hints) a).2.2 }
      { b with τ:=(gen b.kb b.n (normS (z19 x) (z06 x fx.hints) b).1 (normS (z19 x) (z06 x fx.hints) b).2.1 (z06 x fx.hints)).1.1,ω:=(gen b.kb b.n (normS (z19 x) (z06 x fx.hints) b).1 (normS (z19 x) (z06 x fx.hints) b).2.1 (z06 x fx.hints)).1.2,n:=b.n+(gen b.kb b.n (normS (z19 x) (z06 x fx.hints) b).1 (normS (z19 x) (z06 x fx.hints) b).2.1 (z06 x fx.hints)).2.length,lvl:=b.lvl+1,σ:=(normS (z19 x) (z06 x fx.hints) b).2.2 } :=
     ⟨hg.τ,hg.ω,by simp only[hg.l],by simp only[h.lvl],h.kn,rfl,hp.σ⟩
    have:=z6k hi x hr (k:=λe s'=>match e with
     |.normal =>
      if s'.kb=b.kb/\(gen b.kb b.n (normS (z19 x) (z06 x fx.hints) s').1 (normS (z19 x) (z06 x fx.hints) s').2.1 (z06 x fx.hints)).2.length=(gen b.kb b.n (normS (z19 x) (z06 x fx.hints) b).1 (normS (z19 x) (z06 x fx.hints) b).2.1 (z06 x fx.hints)).2.length /\
        sameS b.n (gen b.kb b.n (normS (z19 x) (z06 x fx.hints) s').1 (normS (z19 x) (z06 x fx.hints) s').2.1 (z06 x fx.hints)).2 (normS (z19 x) (z06 x fx.hints) b).2.2 (gen b.kb b.n (normS (z19 x) (z06 x fx.hints) b).1 (normS (z19 x) (z06 x fx.hints) b).2.1 (z06 x fx.hints)).1.1 (gen b.kb b.n (normS (z19 x) (z06 x fx.hints) b).1 (normS (z19 x) (z06 x fx.hints) b).2.1 (z06 x fx.hints)).1.2 (normS (z19 x) (z06 x fx.hints) s').1 (normS (z19 x) (z06 x fx.hints) s').2.1 (normS (z19 x) (z06 x fx.hints) s').2.2
      then some (.again b.lvl (gen b.kb b.n (normS (z19 x) (z06 x fx.hints) s').1 (normS (z19 x) (z06 x fx.hints) s').2.1 (z06 x fx.hints)).2)else none
     |e=>k e s') (λe a' b' t h' he=>?_) ht
    ·refine Eq.trans (congrArg (λo:Option T=>match o with|some t=>some (T.loop (gen b.kb b.n (normS (z19 x) (z06 x fx.hints) b).1 (normS (z19 x) (z06 x fx.hints) b).2.1 (z06 x fx.hints)).2 t)|none=>none) this) ?_;rw[hg.l]at he;exact he
    ·cases e with
     |exit j=>exact hk _ _ _ _ h' he
     |ret=>exact hk _ _ _ _ h' he
     |normal =>
      simp only at he⊢;have hp':=zt8 h' (z19 x) (z06 x fx.hints);have hg':=zr6 b.kb (z06 x fx.hints) b.n hp'.τ hp'.ω;split at he
      ·rename_i hc;obtain⟨c1,c2,c3⟩:=hc;rw[hg'.l,hg.l]at c2;rw[hg'.l]at c3;rw[zP ⟨by rw[<- h'.kb];exact c1,c2,zt9 hp.σ hp'.σ hg.τ hp'.τ hg.ω hp'.ω c3⟩];rw[hg'.l,h.lvl]at he;exact he
      ·cases he
   ·cases he
  ·cases he
 |.rangeFunc ..,a,b,h,kF,k,hk,t,he=>by cases he
theorem zwk:∀d,RlI (Fast.inlD d) (inlD d)
 |0=>λfx g vs o a b kF k t h hk he=>by cases he
 |d+1=>λfx g vs o a b kF k t h hk he=>by
  rw[Fast.inlD]at he;rw[inlD];by_cases hl:g.nt<vs.length\/2048<g.nt
  ·rw[zP hl]at he;cases he
  rw[zN hl]at he;rw[zN zX0];obtain⟨r1,r2⟩:=Tri.rep_ok (SV.one .und) 11 g.nt zX0;obtain⟨p1,p2⟩:=Tri.puts_ok vs 0 (Tri.rep (SV.one .und) 12 g.nt) r2 (by rw[r1,zY25];omega);have hτ:(Tri.puts 0 vs (Tri.rep (SV.one .und) 12 g.nt)).Is (vs++List.replicate (g.nt-vs.length) (.one .und)):=by refine⟨p2,?_⟩;rw[p1,r1];simp only[List.take_zero,zY16,zY0z,List.drop_replicate]
  have hra:Fast.rowArgs fx.cx.cut a.τ o=rowArgs fx.cx.cut b.τ o:=by
   unfold Fast.rowArgs rowArgs;congr 1;cases o.op with
   |call c =>
    simp only;congr 1;funext x;cases x with
    |tmp t=>simp only[h.τ.get];rfl
    |_=>rfl
   |_=>rfl
  have hT:=zjs (rowArgs fx.cx.cut b.τ o) h.τ;rw[hra]at he;have hσ:IsS (Fast.topAll a.τ (rowArgs fx.cx.cut b.τ o)::a.σ) (topAll b.τ (rowArgs fx.cx.cut b.τ o)++b.σ):=by
   refine⟨λt ht=>?_,by rw[zY1x,hT.2,h.σ.2]⟩;rcases zY0g.1 ht with rfl|ht
   ·exact hT.1
   ·exact h.σ.1 t ht
  refine z6k (zwk d) g.body (a:={ a with τ:=Tri.puts 0 vs (Tri.rep (.one .und) 12 g.nt),kb:=a.kb+fx.mul*fx.nt,σ:=Fast.topAll a.τ (rowArgs fx.cx.cut b.τ o)::a.σ }) (b:={ b with τ:=vs++List.replicate (g.nt-vs.length) (.one .und),kb:=b.kb+fx.mul*fx.nt,σ:=topAll b.τ (rowArgs fx.cx.cut b.τ o)++b.σ }) ⟨hτ,h.ω,h.n,h.lvl,h.kn,by simp only[h.kb],hσ⟩ (λe a2 b2 t h2 he=>?_) he;cases e with
  |exit j=>cases he
  |_ =>
   simp only at he⊢;rw[h2.τ.run h2.ω]at he;cases hr:(z8w fx.cx g.results).run b2.τ b2.ω with
   |none=>rw[hr]at he;cases he
   |some svs =>
    rw[hr]at he;simp only at he⊢;cases hv:zcn svs with
    |none=>rw[hv]at he;cases he
    |some sv =>
     rw[hv]at he;simp only at he⊢;split at he
     ·cases he
     ·rename_i τ0 σ0 hs;split at he
      ·cases he
      ·rename_i hz;have hz:τ0.size=a.τ.size:=by
        cases hb:Nat.beq τ0.size a.τ.size with
        |false=>exact absurd hb hz
        |true=>exact zY11 hb
       have hw:∀t∈τ0::σ0,t.wf:=by rw[<- hs];exact h2.σ.1
       have hf:τ0.toL++σ0.flatMap Tri.toL=b2.σ:=by rw[<- zY1x,<- hs];exact h2.σ.2
       have w0:=hw τ0 (zY0i ..);have hlen:τ0.toL.length=b.τ.length:=by rw[<- Tri.size_eq w0,hz,Tri.size_eq h.τ.1,h.τ.2]
       have h0:τ0.Is (b2.σ.take b.τ.length):=⟨w0,by rw[<- hf,<- hlen,List.take_left]⟩
       have hσ0:IsS σ0 (b2.σ.drop b.τ.length):=⟨λt ht=>hw t (zY0h _ ht),by rw[<- hf,<- hlen,List.drop_left]⟩
       obtain⟨w1,w2⟩:=zjr (z07 o sv) h0 h2.ω;rw[Tri.size_eq w2.1,w2.2,h.kb]at he;have hq:=zav fx.pool (List.range' (b.kb+fx.mul*fx.nt) (fx.mul*g.nt)) (p:=((Fast.wrT τ0 a2.ω (z07 o sv)).1,Fast.dropAll (Fast.wrT τ0 a2.ω (z07 o sv)).1 (Fast.wrT τ0 a2.ω (z07 o sv)).2 σ0 (List.range (wr (b2.σ.take b.τ.length) b2.ω (z07 o sv)).2.length),σ0))
        (q:=((wr (b2.σ.take b.τ.length) b2.ω (z07 o sv)).1,dropAll (wr (b2.σ.take b.τ.length) b2.ω (z07 o sv)).1 (wr (b2.σ.take b.τ.length) b2.ω (z07 o sv)).2 (b2.σ.drop b.τ.length) (List.range (wr (b2.σ.take b.τ.length) b2.ω (z07 o sv)).2.length),b2.σ.drop b.τ.length)) ⟨w1,z8x w1 hσ0 _ w2,hσ0⟩
       have hh:=λs h'=>hk _ s t h' he;exact hh _ ⟨hq.τ,hq.ω,h2.n,h2.lvl,h2.kn,rfl,hq.σ⟩
theorem z06i(sig:Sig)(nt cap:Nat)(h1:nt<=2048)(h2:cap+(z0f 0 cap sig.args).2.1.length<=8192)(h3:(z0f 0 cap sig.args).1.length<=nt):Rl (Fast.initS sig nt cap) (initS sig nt cap):=by
 obtain⟨r1,r2⟩:=Tri.rep_ok (SV.one .und) 11 nt zX0;obtain⟨p1,p2⟩:=Tri.puts_ok (z0f 0 cap sig.args).1 0 (Tri.rep (SV.one .und) 12 nt) r2 (by rw[r1,zY25];omega);obtain⟨r3,r4⟩:=Tri.rep_ok (none:Option Ob) 13 (cap+(z0f 0 cap sig.args).2.1.length) zX0;obtain⟨p3,p4⟩:=Tri.puts_ok ((z0f 0 cap sig.args).2.1.map some) cap (Tri.rep (none:Option Ob) 14 (cap+(z0f 0 cap sig.args).2.1.length)) r4 (by rw[r3,zY25,zY0y];omega);refine⟨⟨p2,?_⟩,⟨p4,?_⟩,rfl,rfl,rfl,rfl,⟨λt ht=>(by cases ht),rfl⟩⟩
 ·show(Tri.puts 0 (z0f 0 cap sig.args).1 (Tri.rep (SV.one .und) 12 nt)).toL=(z0f 0 cap sig.args).1++List.replicate (nt-(z0f 0 cap sig.args).1.length) (.one .und);rw[p1,r1];simp only[List.take_zero,zY16,zY0z,List.drop_replicate]
 ·show(Tri.puts cap ((z0f 0 cap sig.args).2.1.map some) (Tri.rep (none:Option Ob) 14 (cap+(z0f 0 cap sig.args).2.1.length))).toL=List.replicate cap none++(z0f 0 cap sig.args).2.1.map some;rw[p3,r3];simp only[List.take_replicate,List.drop_replicate,zY0y,Nat.sub_self,List.replicate_zero,zY1b];rw[zY2b zX0]
theorem zta{a:SF}{b:St}(h:Rl a b)(cx:Cx)(sig:Sig)(rs:List ResultVar):Fast.outOf cx sig rs a=outOf cx sig rs b:=by
 unfold Fast.outOf outOf;rw[h.τ.run h.ω];cases(z8w cx rs).run b.τ b.ω with
 |none=>rfl
 |some vs =>simp only[zY0a,zY07];rw[h.τ.run h.ω]
theorem zgm{fx:Fx}{sig:Sig}{fn:Func}{t:T}(he:Fast.decompN fx sig fn=some t):decomp fx sig fn=some t:=by
 unfold Fast.decompN at he;split at he
 ·cases he
 rename_i t' he';rw[zp0]at he;cases he;unfold Fast.decomp at he';unfold decomp;split at he'
 ·cases he'
 rename_i hc;rw[zN (by
  rintro(h|h)
  ·exact hc (.inl h)
  ·exact hc (.inr (.inl h)))]
 cases hb:fn.body with
 |none=>rw[hb]at he';cases he'
 |some c =>
  rw[hb]at he';simp only at he' ⊢;refine z6k (zwk fx.dep) c (z06i sig fn.ntmps fx.cap zX0 zX0 zX0) (λe a b t h he=>?_) he';cases e with
  |exit j=>cases he
  |normal=>rw[<- zta h];exact he
  |ret=>rw[<- zta h];exact he
theorem zg{sp:Nat->zd}{sigs:List (Nat×Sig)}{cut:List Nat}{hints:List Hint}{sig:Sig}{f:Nat}{fn:Func}{t:T}{spec:zd}(hsig:∀ci f s,sigs[ci]?=some (f,s)->Meets Tryz.prog (sp ci) f s)(hspec:∀ds rs,(∀d∈ds,d.ok)->spec ds=some rs->(∃N,den sp N t ds []=some rs)/\z7g sig rs)
  (hf:Tryz.prog.funcs[f]?=some fn:=by kernel_rfl) (hname:(fn.name == "runtime.NumGoroutine")=false:=by kernel_rfl) (hdec:Fast.decompN (fxOf zoz sigs fn cut hints [] 0) sig fn=some t:=by kernel_rfl):Meets Tryz.prog spec f sig :=
 z72 hf hname (zgm hdec) hsig hspec
theorem z73{sp:Nat->zd}{sigs:List (Nat×Sig)}{cut:List Nat}{hints:List Hint}{sig:Sig}{f:Nat}{fn:Func}{t:T}{spec:zd}{fns:List FnI}{dep pool:Nat}(hfn:∀g∈fns,zee Tryz.prog g)(hsig:∀ci f s,sigs[ci]?=some (f,s)->Meets Tryz.prog (sp ci) f s)(hspec:∀ds rs,(∀d∈ds,d.ok)->spec ds=some rs->(∃N,den sp N t ds []=some rs)/\z7g sig rs)
  (hf:Tryz.prog.funcs[f]?=some fn:=by kernel_rfl) (hname:(fn.name == "runtime.NumGoroutine")=false:=by kernel_rfl) (hdec:Fast.decompN (fxIn zoz sigs fn cut hints fns dep pool) sig fn=some t:=by kernel_rfl):Meets Tryz.prog spec f sig :=
 z09w hf hname (zgm hdec) hfn hsig hspec
def zx:List (Nat×zd)->Nat->zd
 | [],_=>λ_=>none
 |(i,s)::r,ci=>cond (Nat.beq ci i) s (zx r ci)
def AllM(P:Program)(sigs:List (Nat×Sig)):List (Nat×zd)->Prop
 | []=>True
 |(i,s)::r=>(∀f g,sigs[i]?=some (f,g)->Meets P s f g)/\AllM P sigs r
theorem z7{P:Program}{sigs:List (Nat×Sig)}{i f0:Nat}{g0:Sig}{s:zd}(h0:sigs[i]?=some (f0,g0))(hm:Meets P s f0 g0):∀f g,sigs[i]?=some (f,g)->Meets P s f g:=λf g h=>by rw[h0]at h;cases h;exact hm
theorem zq{P:Program}{sigs:List (Nat×Sig)}:∀ {L:List (Nat×zd)},AllM P sigs L->∀ci f s,sigs[ci]?=some (f,s)->Meets P (zx L ci) f s
 | [],_,ci,f,s,_=>z14 f s
 |(i,sp)::r,⟨h1,h2⟩,ci,f,s,h=>by
  show Meets P (cond (Nat.beq ci i) sp (zx r ci)) f s;cases hb:Nat.beq ci i with
  |true =>have:=zY11 hb;subst this;exact h1 f s h
  |false=>exact zq h2 ci f s h
class Enc(α:Type) where
 e:α->List Dt
 n:Nat
 len:∀x,(e x).length=n
 inj:∀x y,e x=e y->x=y
instance:Enc Int:=⟨zl,1,λ_=>rfl,zn8⟩
instance:Enc Bool:=⟨zhl,1,λ_=>rfl,λx y h=>by simpa[zhl]using h⟩
instance(priority:=high):Enc (List UInt8):=⟨z0a,1,λ_=>rfl,zwb⟩
instance:Enc Op:=⟨eOp,2,λ_=>rfl,zlm⟩
instance:Enc Point:=⟨z3k,2,λ_=>rfl,zas⟩
instance:Enc In:=⟨eIn,3,λ_=>rfl,z01w⟩
instance:Enc Out:=⟨z30,2,λ_=>rfl,zwc⟩
instance:Enc Tx:=⟨eTx,3,λ_=>rfl,zr1⟩
instance:Enc Coin:=⟨za,6,λ_=>rfl,zf9⟩
instance:Enc Undo:=⟨z6q,1,λ_=>rfl,z065⟩
instance:Enc Book:=⟨zf8,1,λ_=>rfl,z066⟩
instance:Enc Block:=⟨z08,5,λ_=>rfl,zou⟩
instance:Enc Tree:=⟨zc9,2,λ_=>rfl,zt1⟩
instance:Enc Unit:=⟨λ_=>[],0,λ_=>rfl,λ_ _ _=>rfl⟩
instance{α:Type}[Enc α]:Enc (List α):=⟨λl=>[.l (Enc.n α) (l.map Enc.e)],1,λ_=>rfl,λx y h=>by
 simp only[zY22,Dt.l.injEq,true_and,and_true]at h
 exact z4m Enc.inj h⟩
instance{α β:Type}[Enc α][Enc β]:Enc (α×β):=⟨λx=>Enc.e x.1++Enc.e x.2,Enc.n α+Enc.n β,λx=>by rw[zY04,Enc.len,Enc.len],λx y h=>by
 obtain⟨h1,h2⟩:=List.append_inj h (by rw[Enc.len,Enc.len])
 exact Prod.ext (Enc.inj _ _ h1) (Enc.inj _ _ h2)⟩
noncomputable def spD{α β:Type}[Enc α][Enc β](p:α->Prop)(f:α->β):zd:=z09 (λx:{ x:α // p x }=>Enc.e x.1) λx=>Enc.e (f x.1)
section
variable {α β:Type} [Enc α] [Enc β] {p:α->Prop} {f:α->β}
theorem zi(x:α)(h:p x):spD p f (Enc.e x)=some (Enc.e (f x)):=z8d (e:=λx:{ x:α // p x }=>Enc.e x.1) (λx y h=>Subtype.ext (Enc.inj _ _ h)) ⟨x,h⟩
theorem zh{ds rs:List Dt}(h:spD p f ds=some rs):∃x,p x/\ds=Enc.e x/\rs=Enc.e (f x):=by obtain⟨x,rfl,rfl⟩:=z38 h;exact⟨x.1,x.2,rfl,rfl⟩
end
def ret{ρ:Type}[Enc ρ](x:ρ):Option (List Dt):=some (Enc.e x)
section
variable {ρ:Type} [Enc ρ] {sp:Nat->zd} {N:Nat} {E:Env} {ks:List (List Dt->Option (List Dt))} {r1 r2:ρ} {a:Atom} {t e:T}
theorem z0cx{c:Prop}[Decidable c]{d:Bool}(h:a.val E=some (.b d))(hd:d=decide c)(ht:c->den sp N t E ks=ret r1)(he:¬c->den sp N e E ks=ret r2):den sp N (.ite a t e) E ks=ret (if c then r1 else r2):=by
 subst hd;refine z1t h (λh=>?_) (λh=>?_)
 ·have h:=of_decide_eq_true h;rw[zP h];exact ht h
 ·have h:=of_decide_eq_false h;rw[zN h];exact he h
theorem z0cy{c:Prop}[Decidable c]{d:Bool}(h:a.val E=some (.b (!d)))(hd:d=decide c)(ht:¬c->den sp N t E ks=ret r2)(he:c->den sp N e E ks=ret r1):den sp N (.ite a t e) E ks=ret (if c then r1 else r2):=by
 subst hd;refine z1t h (λh=>?_) (λh=>?_)
 ·have h:¬c:=by simpa using h
  rw[zN h];exact ht h
 ·have h:c:=by simpa using h
  rw[zP h];exact he h
theorem z0cz{b d:Bool}(h:a.val E=some (.b d))(hd:d=b)(ht:b=true->den sp N t E ks=ret r1)(he:b=false->den sp N e E ks=ret r2):den sp N (.ite a t e) E ks=ret (if b=true then r1 else r2):=by
 subst hd;refine z1t h (λh=>?_) (λh=>?_)
 ·rw[zP h];exact ht h
 ·rw[zN (by simp[h])];exact he h
theorem z09z{b d:Bool}(h:a.val E=some (.b (!d)))(hd:d=b)(ht:b=false->den sp N t E ks=ret r2)(he:b=true->den sp N e E ks=ret r1):den sp N (.ite a t e) E ks=ret (if b=true then r1 else r2):=by
 subst hd;refine z1t h (λh=>?_) (λh=>?_)
 ·have h:d=false:=by simpa using h
  rw[zN (by simp[h])];exact ht h
 ·have h:d=true:=by simpa using h
  rw[zP h];exact he h
theorem z0d0{b d:Bool}(h:a.val E=some (.b d))(hd:d=b)(ht:b=true->den sp N t E ks=ret r2)(he:b=false->den sp N e E ks=ret r1):den sp N (.ite a t e) E ks=ret (if b=false then r1 else r2):=by
 subst hd;refine z1t h (λh=>?_) (λh=>?_)
 ·rw[zN (by simp[h])];exact ht h
 ·rw[zP h];exact he h
theorem z0a0{b d:Bool}(h:a.val E=some (.b (!d)))(hd:d=b)(ht:b=false->den sp N t E ks=ret r1)(he:b=true->den sp N e E ks=ret r2):den sp N (.ite a t e) E ks=ret (if b=false then r1 else r2):=by
 subst hd;refine z1t h (λh=>?_) (λh=>?_)
 ·have h:d=false:=by simpa using h
  rw[zP h];exact ht h
 ·have h:d=true:=by simpa using h
  rw[zN (by simp[h])];exact he h
section
variable {p q r:Prop} [Decidable p] [Decidable r] {d:Bool}
theorem z06j[Decidable q][Decidable (p/\q)](h:a.val E=some (.b d))(hd:d=decide p)(ht:p->den sp N t E ks=ret (if q then r1 else r2))(he:¬p->den sp N e E ks=ret r2):den sp N (.ite a t e) E ks=ret (if p/\q then r1 else r2):=by
 subst hd;refine z1t h (λh=>?_) (λh=>?_)
 ·have h:=of_decide_eq_true h;simp only[h,true_and];exact ht h
 ·have h:=of_decide_eq_false h;simp only[h,false_and,if_false];exact he h
theorem z0a1[Decidable q][Decidable (p\/q)](h:a.val E=some (.b d))(hd:d=decide p)(ht:p->den sp N t E ks=ret r1)(he:¬p->den sp N e E ks=ret (if q then r1 else r2)):den sp N (.ite a t e) E ks=ret (if p\/q then r1 else r2):=by
 subst hd;refine z1t h (λh=>?_) (λh=>?_)
 ·have h:=of_decide_eq_true h;simp only[h,true_or,if_true];exact ht h
 ·have h:=of_decide_eq_false h;simp only[h,false_or];exact he h
theorem zzj[Decidable ((p/\q)\/r)][Decidable (q\/r)](h:a.val E=some (.b d))(hd:d=decide p)(ht:p->den sp N t E ks=ret (if q\/r then r1 else r2))(he:¬p->den sp N e E ks=ret (if r then r1 else r2)):den sp N (.ite a t e) E ks=ret (if(p/\q)\/r then r1 else r2):=by
 subst hd;refine z1t h (λh=>?_) (λh=>?_)
 ·have h:=of_decide_eq_true h;simp only[h,true_and];exact ht h
 ·have h:=of_decide_eq_false h;simp only[h,false_and,false_or];exact he h
theorem zzk[Decidable ((p\/q)/\r)][Decidable (q/\r)](h:a.val E=some (.b d))(hd:d=decide p)(ht:p->den sp N t E ks=ret (if r then r1 else r2))(he:¬p->den sp N e E ks=ret (if q/\r then r1 else r2)):den sp N (.ite a t e) E ks=ret (if(p\/q)/\r then r1 else r2):=by
 subst hd;refine z1t h (λh=>?_) (λh=>?_)
 ·have h:=of_decide_eq_true h;simp only[h,true_or,true_and];exact ht h
 ·have h:=of_decide_eq_false h;simp only[h,false_or];exact he h
end
theorem z0gr{c:Prop}{i:Decidable c}{res:Option (List Dt)}(h:a.val E=some (.b (@decide c i)))(hc:c)(ht:den sp N t E ks=res):den sp N (.ite a t e) E ks=res:=z0h (by rw[h,decide_eq_true hc]) ht
theorem z0gs{c:Prop}{i:Decidable c}{res:Option (List Dt)}(h:a.val E=some (.b (@decide c i)))(hc:¬c)(he:den sp N e E ks=res):den sp N (.ite a t e) E ks=res:=z0e (by rw[h,decide_eq_false hc]) he
theorem z3r{c:Prop}{i:Decidable c}{res:Option (List Dt)}(h:a.val E=some (.b (@decide c i)))(ht:c->den sp N t E ks=res)(he:¬c->den sp N e E ks=res):den sp N (.ite a t e) E ks=res:=z1t h (λh=>ht (of_decide_eq_true h)) (λh=>he (of_decide_eq_false h))
theorem z0a2{b q d:Bool}(h:a.val E=some (.b d))(hd:d=b)(ht:b=true->den sp N t E ks=ret q)(he:b=false->den sp N e E ks=ret false):den sp N (.ite a t e) E ks=ret (b&&q):=by
 subst hd;refine z1t h (λh=>?_) (λh=>?_)
 ·rw[h,zY39];exact ht h
 ·rw[h,zY3o];exact he h
theorem z0d1{b q d:Bool}(h:a.val E=some (.b d))(hd:d=b)(ht:b=true->den sp N t E ks=ret true)(he:b=false->den sp N e E ks=ret q):den sp N (.ite a t e) E ks=ret (b||q):=by
 subst hd;refine z1t h (λh=>?_) (λh=>?_)
 ·rw[h,Bool.true_or];exact ht h
 ·rw[h,zY38];exact he h
end
section
variable {sp:Nat->zd} {N:Nat} {E:Env} {ks:List (List Dt->Option (List Dt))} {a b:Atom} {m n:Int}
theorem z0fj(ha:a.val E=some (I m))(hb:b.val E=some (I n)):denX sp E (.B .eql a b)=some (.b (decide (m=n))):=by simp only[denX,ha,hb,zY0a,zY07];rfl
theorem zcr(ha:a.val E=some (I m))(hb:b.val E=some (I n)):denX sp E (.B .neq a b)=some (.b (decide (m≠n))):=by
 have e:denX sp E (.B .neq a b)=some (.b (!decide (m=n))):=by simp only[denX,ha,hb,zY0a,zY07];rfl
 rw[e];simp
theorem zwl(ha:a.val E=some (I m))(hb:b.val E=some (I n)):denX sp E (.B .lss a b)=some (.b (decide (m<n))):=by simp only[denX,ha,hb,zY0a,zY07];rfl
theorem z0fk(ha:a.val E=some (I m))(hb:b.val E=some (I n)):denX sp E (.B .leq a b)=some (.b (decide (m<=n))):=by simp only[denX,ha,hb,zY0a,zY07];rfl
theorem z0fl(ha:a.val E=some (I m))(hb:b.val E=some (I n)):denX sp E (.B .gtr a b)=some (.b (decide (n<m))):=by simp only[denX,ha,hb,zY0a,zY07];rfl
theorem z0fm(ha:a.val E=some (I m))(hb:b.val E=some (I n)):denX sp E (.B .geq a b)=some (.b (decide (n<=m))):=by simp only[denX,ha,hb,zY0a,zY07];rfl
theorem z0fn{x y:List UInt8}(ha:a.val E=some (.s x))(hb:b.val E=some (.s y)):denX sp E (.B .eql a b)=some (.b (decide (x=y))):=by simp only[denX,ha,hb,zY0a,zY07];rfl
theorem z0fo{x y:List UInt8}(ha:a.val E=some (.s x))(hb:b.val E=some (.s y)):denX sp E (.B .neq a b)=some (.b (decide (x≠y))):=by
 have e:denX sp E (.B .neq a b)=some (.b (!decide (x=y))):=by simp only[denX,ha,hb,zY0a,zY07];rfl
 rw[e];simp
theorem z0fp{x y:Bool}(ha:a.val E=some (.b x))(hb:b.val E=some (.b y)):denX sp E (.beq false a b)=some (.b (decide (x=y))):=by simp only[denX,ha,hb];simp
theorem z0fq{x y:Bool}(ha:a.val E=some (.b x))(hb:b.val E=some (.b y)):denX sp E (.beq true a b)=some (.b (decide (x≠y))):=by simp only[denX,ha,hb];simp
theorem z06k{x:Bool}(ha:a.val E=some (.b x)):denX sp E (.not a)=some (.b (!x)):=by simp only[denX,ha]
theorem zaw{ats:List Atom}{i:Atom}{ds:List Dt}{d:Dt}(hv:vals E ats=some ds)(hi:i.val E=some (I m))(h0:0<=m)(hd:ds[m.toNat]?=some d):denX sp E (.sel ats i)=some d:=by simp only[denX,hv,hi,asI,zP h0];exact hd
theorem z0gt(ha:a.val E=some (I m))(hb:b.val E=some (I n)):denX sp E (.mn a b)=some (I (if n<m then n else m)):=by simp only[denX,ha,hb,if_true]
theorem z0d2{x:List UInt8}(ha:a.val E=some (.s x)):denX sp E (.slen a)=some (I x.length):=by simp only[denX,ha]
theorem z0fr{sz:Nat}{z:List Lit}(ha:a.val E=some (I m))(h0:0<=m)(h1:m<=100000)(hz:z.length=sz):denX sp E (.mkz sz z a)=some (.l sz (List.replicate m.toNat (z.map Lit.dt))):=by simp only[denX,ha,asI];rw[zP ⟨h0,h1,hz⟩]
theorem z0fs(ha:a.val E=some (I m))(hw: -9223372036854775808 <= -m /\ -m<=9223372036854775807):denX sp E (.neg a)=some (I (-m)):=by
 have e:denX sp E (.neg a)=some (I (IntKind.i64.wrap (0-m))):=by simp only[denX,ha]
 rw[e,Int.zero_sub,wrap_i64 hw]
theorem z0ft{p q:Point}{a1 a2 b1 b2:Atom}(h1:a1.val E=some (I p.tx))(h2:b1.val E=some (I q.tx))(h3:a2.val E=some (I p.at_))(h4:b2.val E=some (I q.at_)):denX sp E (.eqs false [(a1,b1),(a2,b2)])=some (.b (decide (p=q))):=by obtain⟨p1,p2⟩:=p;obtain⟨q1,q2⟩:=q;simp only at h1 h2 h3 h4;simp only[denX,eqsD,h1,h2,h3,h4,eqD,zY0a,zY07,if_true,zY1e,Point.mk.injEq];by_cases hx:p1=q1<;>by_cases hy:p2=q2<;>simp[hx,hy]
theorem z0fu{p q:Point}{a1 a2 b1 b2:Atom}(h1:a1.val E=some (I p.tx))(h2:b1.val E=some (I q.tx))(h3:a2.val E=some (I p.at_))(h4:b2.val E=some (I q.at_)):denX sp E (.eqs true [(a1,b1),(a2,b2)])=some (.b (decide (p≠q))):=by obtain⟨p1,p2⟩:=p;obtain⟨q1,q2⟩:=q;simp only at h1 h2 h3 h4;simp only[denX,eqsD,h1,h2,h3,h4,eqD,zY0a,zY07,if_true,zY1e,ne_eq,Point.mk.injEq];by_cases hx:p1=q1<;>by_cases hy:p2=q2<;>simp[hx,hy]
theorem z0a3{ci:Nat}{args:List Atom}{xs:List X}{ds rs:List Dt}(h:vals E args=some ds)(hs:sp ci ds=some rs)(hx:X.call ci args 0::xs=(List.range rs.length).map λj=>.call ci args j):z0s sp E (.call ci args 0::xs)=some rs:=hx▸zt2 h hs
variable {α:Type} {f:α->List Dt} {l l':List α} {x:α} {sz:Nat}
theorem z0fv(ha:a.val E=some (.l sz (l.map f))):denX sp E (.len a)=some (I l.length):=by simp only[denX,ha,zY0y]
theorem z0d3(ha:a.val E=some (.l sz [])):denX sp E (.len a)=some (I 0):=by simp only[denX,ha,zY0p];rfl
theorem z0fw(ha:a.val E=some (.l sz (l.map f)))(hb:b.val E=some (I m))(h0:0<=m)(h1:m<l.length):z0w sp E [.inr sz a b]=true:=z1h ha hb h0 (by rw[zY0y];exact h1)
theorem zp4{j:Nat}{d:Dt}(ha:a.val E=some (.l sz (l.map f)))(hb:b.val E=some (I m))(h0:0<=m)(hx:l[m.toNat]?=some x)(hj:(f x)[j]?=some d):denX sp E (.idx a b j)=some d:=z1d ha hb h0 (by rw[zY0m,hx];rfl) hj
theorem z0gu{xs:List X}(ha:a.val E=some (.l sz (l.map f)))(hb:b.val E=some (I m))(h0:0<=m)(hx:l[m.toNat]?=some x)(hxs:X.idx a b 0::xs=(List.range (f x).length).map λj=>.idx a b j):z0s sp E (.idx a b 0::xs)=some (f x):=by
 rw[hxs];have key:∀(n j:Nat),j+n=(f x).length->z0s sp E ((List.range' j n).map λj=>.idx a b j)=some ((f x).drop j):=by
  intro n;induction n with
  |zero=>intro j hj;simp[z0s,zY2a (show(f x).length<=j by omega)]
  |succ n ih =>intro j hj;rw[List.range'_succ,zY1n,zY1z (by omega:j<(f x).length)];exact z0d (zp4 ha hb h0 hx (zY03 _)) (ih (j+1) zX0)
 have:=key (f x).length 0 zX0;rw[List.range_eq_range'];simpa using this
theorem zjt(ha:a.val E=some (.l sz (l.map f)))(hb:b.val E=some (.l sz (l'.map f)))(h:l.length+l'.length<=1000000):denX sp E (.app sz a b)=some (.l sz ((l++l').map f)):=by rw[z0cp ha hb zXt,zY24]
theorem z0d4(hy:∀x,(f x).length=sz)(ha:a.val E=some (.l sz (l.map f)))(hb:b.val E=some (.l sz [f x]))(h:l.length+1<=1000000):denX sp E (.app sz a b)=some (.l sz ((l++[x]).map f)):=zjt (l':=[x]) ha hb h
theorem zei{lo hi:Option Atom}{m n:Int}(ha:a.val E=some (.l sz (l.map f)))(hl:bndI E 0 lo=some m)(hh:bndI E l.length hi=some n)(h0:0<=m)(h1:m<=n)(h2:n<=l.length):denX sp E (.sub sz a lo hi)=some (.l sz (((l.take n.toNat).drop m.toNat).map f)):=by simp only[denX,ha,hl,hh,zY0y,zY0a,zY07];rw[zP ⟨trivial,h0,h1,h2⟩,List.map_drop,zY3y]
theorem z01z{hi:Atom}{n:Int}{t:List α}(ha:a.val E=some (.l sz (l.map f)))(hh:hi.val E=some (I n))(h1:0<=n)(h2:n<=l.length)(ht:l.take n.toNat=t):denX sp E (.sub sz a none (some hi))=some (.l sz (t.map f)):=by
 have hb:bndI E (l.length:Int) (some hi)=some n:=by show asI (hi.val E)=some n;rw[hh];rfl
 have:=zei (lo:=none) (hi:=some hi) (m:=0) (n:=n) (sp:=sp) ha rfl hb zX0 h1 h2;rw[this,ht];rfl
theorem z06l{j:Nat}{vs:List Atom}{ds:List Dt}{y:α}(ha:a.val E=some (.l sz (l.map f)))(hb:b.val E=some (I m))(hv:vals E vs=some ds)(h0:0<=m)(hs:j+ds.length<=sz)(hx:l[m.toNat]?=some x)(hy:z81 (f x) j ds=f y):denX sp E (.set a b j vs)=some (.l sz ((l.set m.toNat y).map f)):=by simp only[denX,ha,hb,hv,asI];rw[zP ⟨h0,hs⟩,zY0m,hx];simp only[zY1i,hy,List.map_set]
theorem z8y{j:Nat}{vs:List Atom}{ds:List Dt}(ha:a.val E=some (.l sz (l.map f)))(hb:b.val E=some (I m))(hv:vals E vs=some ds)(h0:0<=m)(hs:j+ds.length<=sz)(hx:l[m.toNat]?=some x)(hy:z81 (f x) j ds=f x):denX sp E (.set a b j vs)=some (.l sz (l.map f)):=by rw[z06l (y:=x) ha hb hv h0 hs hx hy];congr 3;obtain⟨h1,h2⟩:=zY02.1 hx;rw[<- h2,List.set_getElem_self]
theorem zj{σ ρ:Type}[Enc ρ]{ats:List Atom}{body:T}(enc:σ->Int->List Dt)(go:σ->Nat->List α->ρ)(Inv:σ->Nat->Prop)(s0:σ)(l:List α)(h:vals E ats=some (enc s0 0))(h0:Inv s0 0)(hN:l.length<N)
  (step:∀(s:σ) (k:Nat) (x:α) (r:List α),l[k]?=some x->l.drop k=x::r->k<l.length->Inv s k->∀again:List Dt->Option (List Dt),(∀s',Inv s' (k+1)->again (enc s' ((k:Int)+1))=ret (go s' (k+1) r))->den sp N body (E++enc s k) (ks++[again])=ret (go s k (x::r)))
  (last:∀(s:σ),Inv s l.length->∀again:List Dt->Option (List Dt),den sp N body (E++enc s l.length) (ks++[again])=ret (go s l.length [])):den sp N (.loop ats body) E ks=ret (go s0 0 l):=by
 refine z0y h ?_;have key:∀(n k:Nat) (s:σ),k+n=l.length->Inv s k->∀M,n<M->z04 (λagain ds=>den sp N body (E++ds) (ks++[again])) M (enc s k)=ret (go s k (l.drop k)):=by
  intro n;induction n with
  |zero =>
   intro k s hk hi M hM;obtain⟨M,rfl⟩:∃j,M=j+1:=⟨M-1,by omega⟩
   obtain rfl:k=l.length:=zX0;rw[z04,List.drop_length];exact last s hi _
  |succ n ih =>
   intro k s hk hi M hM;obtain⟨M,rfl⟩:∃j,M=j+1:=⟨M-1,by omega⟩
   have hkl:k<l.length:=zX0;have hd:l.drop k=l[k]::l.drop (k+1):=zY1z hkl;rw[z04,hd];refine step s k l[k] (l.drop (k+1)) (zY03 hkl) hd hkl hi _ λs' hi'=>?_;have:=ih (k+1) s' zX0 hi' M zX0
   rwa [show((k+1:Nat):Int)=(k:Int)+1 by omega]at this
 exact key l.length 0 s0 zX0 h0 N hN
end
section
variable {sp:Nat->zd} {N:Nat} {E E':Env} {ks:List (List Dt->Option (List Dt))} {res:Option (List Dt)} {k t e:T} {d:Dt} {ds rs:List Dt} {a:Atom}
theorem dq1{x:X}(hk:den sp N k E' ks=res)(h:denX sp E x=some d:=by first|exact z0fj rfl rfl|exact zcr rfl rfl|exact zwl rfl rfl|exact z0fl rfl rfl|exact z0fm rfl rfl|exact z0fk rfl rfl|exact z0fv rfl|exact z7t rfl rfl zX0|exact z0cw rfl rfl zX0|exact zp4 rfl rfl zX0 zX16 rfl|exact z06k rfl|exact z0d3 rfl|exact z0fn rfl rfl|exact z0fo rfl rfl|exact z0fp rfl rfl|exact z0fq rfl rfl|exact z0ft rfl rfl rfl rfl|exact z0fu rfl rfl rfl rfl|exact z0fs rfl zX0|exact z01z rfl rfl zX0 zX0 zXn|exact z1p (r:=[[I _]]) rfl rfl zX4|exact zaw rfl rfl zX0 rfl|exact z0gt rfl rfl|exact z0d2 rfl|exact z0d4 (λ_=>rfl) rfl rfl (by first|omega|(simp only[zY04,zY08,zY0p];omega)))(hE:E++[d]=E':=by(simp only[zY1g,zY16];try exact rfl)):den sp N (.W [x] [] k) E ks=res:=z4 h hk hE
theorem dqc{ck:List X}(hk:den sp N k E ks=res)(h:z0w sp E ck=true:=by exact z0fw rfl rfl zX0 zX0):den sp N (.W [] ck k) E ks=res:=z26 h hk
theorem dqm{xs:List X}(hk:den sp N k E' ks=res)(h:z0s sp E xs=some ds:=by first|exact z0gu rfl rfl zX0 zX16 zX1a|exact z0d (zp4 rfl rfl zX0 zX16 rfl) (z0d (zp4 rfl rfl zX0 zX16 rfl) z3y))(hE:E++ds=E':=by(simp only[za,eTx,eIn,z30,eOp,z3k,zl,z0a,z08,zc9,zf8,z6q,zhl,zY1g,zY16];try exact rfl)):den sp N (.W xs [] k) E ks=res:=z3g h hk hE
theorem dqk{ci j:Nat}{args:List Atom}(hv:vals E args=some ds)(hs:sp ci ds=some rs)(hk:den sp N k E' ks=res)(hj:rs[j]?=some d:=by exact rfl)(hE:E++[d]=E':=by(simp only[zY1g,zY16];try exact rfl)):den sp N (.W [.call ci args j] [] k) E ks=res:=z4 (z3h hv hs hj) hk hE
theorem dqK{ci:Nat}{args:List Atom}{xs:List X}(hv:vals E args=some ds)(hs:sp ci ds=some rs)(hk:den sp N k E' ks=res)(hx:X.call ci args 0::xs=(List.range rs.length).map (λj=>.call ci args j):=by rfl)(hE:E++rs=E':=by(simp only[za,eTx,eIn,z30,eOp,z3k,zl,z0a,z08,zc9,zf8,z6q,zhl,zY1g,zY16];try exact rfl)):den sp N (.W (.call ci args 0::xs) [] k) E ks=res:=z3g (z0a3 hv hs hx) hk hE
theorem dqT{c:Prop}{i:Decidable c}(ht:den sp N t E ks=res)(h:a.val E=some (.b (@decide c i)):=by exact rfl)(hc:c:=by first|assumption|omega):den sp N (.ite a t e) E ks=res:=z0gr h hc ht
theorem dqF{c:Prop}{i:Decidable c}(he:den sp N e E ks=res)(h:a.val E=some (.b (@decide c i)):=by exact rfl)(hc:¬c:=by first|assumption|omega):den sp N (.ite a t e) E ks=res:=z0gs h hc he
theorem zax{c:Prop}{i:Decidable c}(ht:den sp N t E ks=res)(h:a.val E=some (.b (!@decide c i)):=by exact rfl)(hc:¬c:=by first|assumption|omega):den sp N (.ite a t e) E ks=res:=z1t h (λ_=>ht) (λh=>by rw[decide_eq_false hc]at h;cases h)
theorem z5u{c:Prop}{i:Decidable c}(he:den sp N e E ks=res)(h:a.val E=some (.b (!@decide c i)):=by exact rfl)(hc:c:=by first|assumption|omega):den sp N (.ite a t e) E ks=res:=z1t h (λh=>by rw[decide_eq_true hc]at h;cases h) (λ_=>he)
theorem tZn{c:Prop}{i:Decidable c}(ht:¬c->den sp N t E ks=res)(he:c->den sp N e E ks=res)(h:a.val E=some (.b (!@decide c i)):=by exact rfl):den sp N (.ite a t e) E ks=res:=z1t h (λh=>ht zXt) (λh=>he zXt)
section
variable {ρ:Type} [Enc ρ] {r1 r2:ρ}
theorem tR{c:Prop}[Decidable c]{d:Bool}(ht:c->den sp N t E ks=ret r1)(he:¬c->den sp N e E ks=ret r2)(h:a.val E=some (.b d):=by exact rfl)(hd:d=decide c:=by with_reducible rfl):den sp N (.ite a t e) E ks=ret (if c then r1 else r2):=z0cx h hd ht he
theorem tC{c:Prop}[Decidable c]{d:Bool}(ht:¬c->den sp N t E ks=ret r2)(he:c->den sp N e E ks=ret r1)(h:a.val E=some (.b (!d)):=by exact rfl)(hd:d=decide c:=by with_reducible rfl):den sp N (.ite a t e) E ks=ret (if c then r1 else r2):=z0cy h hd ht he
theorem tB{b d:Bool}(ht:b=true->den sp N t E ks=ret r1)(he:b=false->den sp N e E ks=ret r2)(h:a.val E=some (.b d):=by exact rfl)(hd:d=b:=by with_reducible rfl):den sp N (.ite a t e) E ks=ret (if b=true then r1 else r2):=z0cz h hd ht he
theorem tN{b d:Bool}(ht:b=false->den sp N t E ks=ret r2)(he:b=true->den sp N e E ks=ret r1)(h:a.val E=some (.b (!d)):=by exact rfl)(hd:d=b:=by with_reducible rfl):den sp N (.ite a t e) E ks=ret (if b=true then r1 else r2):=z09z h hd ht he
theorem tF{b d:Bool}(ht:b=true->den sp N t E ks=ret r2)(he:b=false->den sp N e E ks=ret r1)(h:a.val E=some (.b d):=by exact rfl)(hd:d=b:=by with_reducible rfl):den sp N (.ite a t e) E ks=ret (if b=false then r1 else r2):=z0d0 h hd ht he
theorem tG{b d:Bool}(ht:b=false->den sp N t E ks=ret r1)(he:b=true->den sp N e E ks=ret r2)(h:a.val E=some (.b (!d)):=by exact rfl)(hd:d=b:=by with_reducible rfl):den sp N (.ite a t e) E ks=ret (if b=false then r1 else r2):=z0a0 h hd ht he
section
variable {p q r:Prop} [Decidable p] [Decidable r] {d:Bool}
theorem tA[Decidable q][Decidable (p/\q)](ht:p->den sp N t E ks=ret (if q then r1 else r2))(he:¬p->den sp N e E ks=ret r2)(h:a.val E=some (.b d):=by exact rfl)(hd:d=decide p:=by with_reducible rfl):den sp N (.ite a t e) E ks=ret (if p/\q then r1 else r2):=z06j h hd ht he
theorem tO[Decidable q][Decidable (p\/q)](ht:p->den sp N t E ks=ret r1)(he:¬p->den sp N e E ks=ret (if q then r1 else r2))(h:a.val E=some (.b d):=by exact rfl)(hd:d=decide p:=by with_reducible rfl):den sp N (.ite a t e) E ks=ret (if p\/q then r1 else r2):=z0a1 h hd ht he
theorem tP[Decidable ((p/\q)\/r)][Decidable (q\/r)](ht:p->den sp N t E ks=ret (if q\/r then r1 else r2))(he:¬p->den sp N e E ks=ret (if r then r1 else r2))(h:a.val E=some (.b d):=by exact rfl)(hd:d=decide p:=by with_reducible rfl):den sp N (.ite a t e) E ks=ret (if(p/\q)\/r then r1 else r2):=zzj h hd ht he
theorem tQ[Decidable ((p\/q)/\r)][Decidable (q/\r)](ht:p->den sp N t E ks=ret (if r then r1 else r2))(he:¬p->den sp N e E ks=ret (if q/\r then r1 else r2))(h:a.val E=some (.b d):=by exact rfl)(hd:d=decide p:=by with_reducible rfl):den sp N (.ite a t e) E ks=ret (if(p\/q)/\r then r1 else r2):=zzk h hd ht he
end
end
theorem tU{b q d:Bool}(ht:b=true->den sp N t E ks=ret q)(he:b=false->den sp N e E ks=ret false)(h:a.val E=some (.b d):=by exact rfl)(hd:d=b:=by with_reducible rfl):den sp N (.ite a t e) E ks=ret (b&&q):=z0a2 h hd ht he
theorem tV{b q d:Bool}(ht:b=true->den sp N t E ks=ret true)(he:b=false->den sp N e E ks=ret q)(h:a.val E=some (.b d):=by exact rfl)(hd:d=b:=by with_reducible rfl):den sp N (.ite a t e) E ks=ret (b||q):=z0d1 h hd ht he
theorem tZ{c:Prop}{i:Decidable c}(ht:c->den sp N t E ks=res)(he:¬c->den sp N e E ks=res)(h:a.val E=some (.b (@decide c i)):=by exact rfl):den sp N (.ite a t e) E ks=res:=z3r h ht he
end
section
open Go.Lib (decDigits itoa atoiAll parseMag parseUint10 NumEnd)
def z0d5(b:UInt8):Prop:=48<=b.toNat/\b.toNat<=57
theorem zfb{u:Nat}(h:u<10):decDigits u=[UInt8.ofNat (48+u)]:=by rw[decDigits,dif_pos h]
theorem zug{u:Nat}(h:¬u<10):decDigits u=decDigits (u/10)++[UInt8.ofNat (48+u%10)]:=by rw[decDigits,dif_neg h]
theorem zne{n:Int}(h:n<0):itoa n=45::decDigits n.natAbs:=zP h
theorem znf{n:Int}(h:¬n<0):itoa n=decDigits n.toNat:=zN h
def z84(c:UInt8):List UInt8->List (List UInt8)
 | []=>[[]]
 |b::l=>if b=c then[]::z84 c l else match z84 c l with
  | []=>[[b]]
  |x::xs=>(b::x)::xs
def z4n(c:UInt8):List (List UInt8)->List UInt8
 | []=>[]
 | [x]=>x
 |x::y::r=>x++c::z4n c (y::r)
theorem zp5(c:UInt8):∀xs:List (List UInt8),Go.Lib.join xs [c]=z4n c xs
 | []=>rfl
 | [x]=>Go.Lib.join_one x [c]
 |x::y::r=>by have ih:=zp5 c (y::r);rw[Go.Lib.join_cons]at ih⊢;rw[z4n,<- ih];simp[Go.Lib.joinTail]
end
section
open Go.Lib (itoa atoiAll NumEnd)
def opNames:List (List UInt8):=[[],[],[100,117,112],[115,119,97,112],[100,114,111,112],[97,100,100],[115,117,98],[115,97,109,101],[108,101,115,115],[110,111,116],[97,110,100],[118,101,114,105,102,121],[104,101,105,103,104,116],[109,105,120]]
def z28(o:Op):List UInt8:=if o.kind=1 then itoa o.n else(opNames[o.kind.toNat]?).getD []
def z6v(l:List Op):List UInt8:=z4n 32 (l.map z28)
def z3v(l:List Op):List UInt8×Int:=if zb l≠0 then([],zb l)else(z6v l,0)
def zr7(w:List UInt8):Option Int:=match atoiAll w with
 |.ok n=>if itoa n=w then some n else none
 |_=>none
def zjx(w:List UInt8):Int->Int->List (List UInt8)->Int
 |_,r,[]=>r
 |k,r,n::l=>zjx w (k+1) (if n=w/\n≠[]then k else r) l
def zjy(w:List UInt8):Int:=zjx w 0 0 opNames
def zwn(w:List UInt8):Option Op:=if zjy w=0 then(zr7 w).map λn=>⟨1,n⟩else some ⟨zjy w,0⟩
def zr8:List (List UInt8)->Option (List Op)
 | []=>some []
 |w::r=>match zwn w with
  |none=>none
  |some o=>(zr8 r).map λl=>o::l
def zp6(s:List UInt8):List Op×Int :=
 if 4000<(s.length:Int)then([],2)else if s=[]then([],0)else match zr8 (z84 32 s)with
  |none=>([],1)
  |some l=>if zb l≠0 then([],zb l)else(l,0)
theorem zng{o:Op}(h:z4o o=0):1<=o.kind/\o.kind<=13/\(o.kind=1\/o.n=0) /\ -1000000<=o.n/\o.n<=1000000:=by
 unfold z4o at h;split at h
 ·cases h
 ·split at h
  ·cases h
  ·omega
theorem z03i{k:Int}(h0:1<=k)(h1:k<=13):k=1\/k=2\/k=3\/k=4\/k=5\/k=6\/k=7\/k=8\/k=9\/k=10\/k=11\/k=12\/k=13:=zX0
theorem z06q{l:List Op}(h:z67 l=0):∀o∈l,z4o o=0:=by
 induction l with
 |nil=>intro o ho;cases ho
 |cons x l ih =>
  rw[z67]at h;split at h
  ·rename_i hx;exact absurd h hx
  ·rename_i hx;intro o ho;rcases zY0g.1 ho with rfl|ho
   ·exact zY0u.1 hx
   ·exact ih h o ho
theorem zej{l:List Op}(h:zb l=0):l.length<=16/\∀o∈l,z4o o=0:=by
 unfold zb at h;split at h
 ·cases h
 ·exact⟨by omega,z06q h⟩
def WordByte(b:UInt8):Prop:=b=45\/z0d5 b\/97<=b.toNat
theorem WordByte.ne{b:UInt8}(h:WordByte b):b≠32/\b≠58/\b≠10:=by refine⟨?_,?_,?_⟩<;>(rintro rfl;rcases h with h|⟨h1,h2⟩|h<;>first|(exact absurd h zX9)|(exact absurd h2 zX9)|(exact absurd h1 zX9))
theorem z06r:∀n∈opNames,n.length<=8:=zX9
theorem z5y:∀(k u:Nat),u<10 ^ (k+1)->(Go.Lib.decDigits u).length<=k+1:=by
 intro k;induction k with
 |zero=>intro u h;rw[zfb zX0];simp
 |succ k ih =>
  intro u h;by_cases h9:u<10
  ·rw[zfb h9];simp
  ·rw[zug h9,zY04];have:=ih (u/10) (by rw[Nat.pow_succ]at h;omega);simp only[zY08,zY0p];omega
theorem zp7{o:Op}(h:z4o o=0):(z28 o).length<=8:=by
 obtain⟨h0,h1,h2,h3,h4⟩:=zng h;unfold z28;split
 ·by_cases hn:o.n<0
  ·rw[zne hn,zY08];have:=z5y 6 o.n.natAbs zX0;omega
  ·rw[znf hn];have:=z5y 6 o.n.toNat zX0;omega
 ·cases hn:opNames[o.kind.toNat]? with
  |none=>simp
  |some n=>exact z06r n (zY06 hn)
theorem zte(c:UInt8)(m:Nat):∀xs:List (List UInt8),(∀x∈xs,x.length<=m)->(z4n c xs).length<=xs.length*(m+1)
 | [],_=>by simp[z4n]
 | [x],h=>by have:=h x (zY0i ..);simp only[z4n,zY08,zY0p];omega
 |x::y::r,h=>by
  have h1:=h x (zY0i ..);have h2:=zte c m (y::r) λz hz=>h z (zY0h _ hz);rw[z4n,zY04,zY08];simp only[zY08]at h2⊢;have e:(r.length+1+1)*(m+1)=(r.length+1)*(m+1)+(m+1):=by rw[zY21]
  omega
theorem zce{l:List Op}(h:zb l=0):(z6v l).length<=144:=by
 obtain⟨h1,h2⟩:=zej h;have:=zte 32 8 (l.map z28) λx hx=>by obtain⟨o,ho,rfl⟩:=zY2k.1 hx;exact zp7 (h2 o ho)
 rw[zY0y]at this;unfold z6v;omega
end
section
abbrev zZr:Nat×Sig:=(99999,⟨[],[],true⟩)
def zhr:List (Nat×Sig):=[(94,⟨[.one],[(false,[.scal])],true⟩),(95,⟨[.one,.one],[(false,[.scal])],true⟩),(117,⟨[.one],[(false,[.scal])],true⟩),(67,⟨[.agg 2,.agg 2],[(false,[.scal])],true⟩),(100,⟨[.agg 6,.agg 2],[(false,[.scal])],true⟩),(99,⟨[.one,.agg 2,.clos 100 []],[(false,[.scal]),(false,[.scal])],true⟩),(69,⟨[.one,.agg 2],[(false,[.scal]),(false,[.scal])],true⟩),(66,⟨[.one],[(false,[.scal])],true⟩)]
def z8f(a b:Int):Int:=if a<b then -1 else if b<a then 1 else 0
def z1w(p q:Point):Int:=if z8f p.tx q.tx≠0 then z8f p.tx q.tx else z8f p.at_ q.at_
def ltP(p q:Point):Prop:=p.tx<q.tx\/(p.tx=q.tx/\p.at_<q.at_)
instance(p q:Point):Decidable (ltP p q):=by unfold ltP;infer_instance
theorem z020(a b:Int):z8f a b<0↔a<b:=by unfold z8f;split<;>(try split)<;>omega
theorem zr9(a b:Int):z8f a b=0↔a=b:=by unfold z8f;split<;>(try split)<;>omega
theorem zln(p q:Point):z1w p q<0↔ltP p q:=by have h1:=z020 p.tx q.tx;have h2:=zr9 p.tx q.tx;have h3:=z020 p.at_ q.at_;unfold z1w ltP;split<;>omega
theorem z0d7(p q:Point):z1w p q=0↔p=q:=by have h2:=zr9 p.tx q.tx;have h3:=zr9 p.at_ q.at_;obtain⟨a,b⟩:=p;obtain⟨c,d⟩:=q;simp only[Point.mk.injEq];unfold z1w;simp only at *;split<;>omega
theorem z8g{p q r:Point}(h:ltP p q)(k:ltP q r):ltP p r:=by unfold ltP at *;omega
theorem z51(p:Point):¬ltP p p:=by unfold ltP;omega
theorem zjz{p q:Point}(h:ltP p q):¬ltP q p:=by unfold ltP at *;omega
theorem zra(p q:Point):ltP p q\/p=q\/ltP q p:=by obtain⟨a,b⟩:=p;obtain⟨c,d⟩:=q;simp only[Point.mk.injEq];unfold ltP;simp only;omega
def z05(l:List Coin):Prop:=l.Pairwise λc d=>ltP c.p d.p
def zp(l:List Coin)(p:Point):Nat:=l.countP λc=>decide (ltP c.p p)
def z1q(l:List Coin)(p:Point):Bool:=l.any λc=>decide (c.p=p)
theorem zhs(l:List Coin)(p:Point):zp l p<=l.length:=List.countP_le_length
theorem zad{l:List Coin}(h:z05 l){i j:Nat}(hi:i<j)(hj:j<l.length):ltP (l[i]' zX0).p l[j].p:=zY2t.1 h i j zX0 hj hi
theorem zwo{l:List Coin}{p:Point}{i:Nat}(hi:i<=l.length)(h1:∀t (ht:t<l.length),t<i->ltP l[t].p p)(h2:∀t (ht:t<l.length),i<=t->¬ltP l[t].p p):zp l p=i:=by
 unfold zp;induction l generalizing i with
 |nil=>simp at hi;simp[hi]
 |cons c l ih =>
  cases i with
  |zero =>rw[List.countP_eq_zero];intro x hx;obtain⟨t,ht,rfl⟩:=zY23 hx;simpa using h2 t ht (Nat.zero_le _)
  |succ i =>have h0:=h1 0 zX4 zX0;simp only[List.getElem_cons_zero]at h0;rw[List.countP_cons_of_pos (by simpa using h0),ih (i:=i) zXw (λt ht hti=>h1 (t+1) zX13 zX0) (λt ht hti=>h2 (t+1) zX13 zX0)]
theorem zm4{l:List Coin}(h:z05 l)(p:Point):(∀t (ht:t<l.length),t<zp l p->ltP l[t].p p)/\(∀t (ht:t<l.length),zp l p<=t->¬ltP l[t].p p):=by
 induction l with
 |nil=>simp
 |cons c l ih =>
  have hs:z05 l:=(zY1h.1 h).2;have hc:=(zY1h.1 h).1;obtain⟨i1,i2⟩:=ih hs;by_cases h0:ltP c.p p
  ·have e:zp (c::l) p=zp l p+1:=by unfold zp;rw[List.countP_cons_of_pos (by simpa using h0)]
   rw[e];refine⟨λt ht hti=>?_,λt ht hti=>?_⟩
   ·cases t with
    |zero=>exact h0
    |succ t=>simpa using i1 t zX13 zX0
   ·cases t with
    |zero=>omega
    |succ t=>simpa using i2 t zX13 zX0
  ·have e:zp (c::l) p=0:=by
    unfold zp;rw[List.countP_eq_zero];intro x hx;rcases zY0g.1 hx with rfl|hx
    ·simpa using h0
    ·have:=hc x hx;simp only[decide_eq_true_eq];exact λhx'=>h0 (z8g this hx')
   rw[e];refine⟨λt ht hti=>by omega,λt ht hti=>?_⟩;cases t with
   |zero=>exact h0
   |succ t =>
    have ht':t<l.length:=by simpa using ht
    have:=hc l[t] (zY1y _);simp only[List.getElem_cons_succ];exact λhx'=>h0 (z8g this hx')
theorem zht{l:List Coin}(h:z05 l)(p:Point):z1q l p=true↔∃ht:zp l p<l.length,(l[zp l p]'ht).p=p:=by
 unfold z1q;rw[zY36];obtain⟨i1,i2⟩:=zm4 h p;constructor
 ·rintro⟨c,hc,hp⟩;obtain⟨t,ht,rfl⟩:=zY23 hc;have hp:=of_decide_eq_true hp;have e:zp l p=t:=by
   refine zwo zX0 (λs hs hst=>?_) (λs hs hst=>?_)
   ·rw[<- hp];exact zad h hst ht
   ·rw[<- hp];rcases Nat.eq_or_lt_of_le hst with rfl|hlt
    ·exact z51 _
    ·exact zjz (zad h hlt hs)
  exact⟨by omega,by simpa[e]using hp⟩
 ·rintro⟨ht,hp⟩;exact⟨_,zY1y ht,by simpa using hp⟩
abbrev z03j(x:Int×Int):List Dt:=[I x.1,I x.2]
abbrev e2P(x:Point×Point):List Dt:=z3k x.1++z3k x.2
abbrev eCP(x:Coin×Point):List Dt:=za x.1++z3k x.2
abbrev z06s:={ x:List Coin×Point // z05 x.1/\x.1.length<=1000000 }
abbrev eLP(x:z06s):List Dt:=.l 6 (x.1.1.map za)::z3k x.1.2
noncomputable def spOr:zd:=z09 (λx:Int×Int=>[.l 1 ([x.1,x.2].map zl)]) λx=>[I (if x.1≠0 then x.1 else x.2)]
noncomputable def z03k:zd:=z09 z03j λx=>[I (z8f x.1 x.2)]
noncomputable def z03l:zd:=z09 (λx:Int=>[I x]) λ_=>[.b false]
noncomputable def zrb:zd:=z09 e2P λx=>[I (z1w x.1 x.2)]
noncomputable def zlo:zd:=z09 eCP λx=>[I (z1w x.1.p x.2)]
noncomputable def zp8:zd:=z09 eLP λx=>[I (zp x.1.1 x.1.2),.b (z1q x.1.1 x.1.2)]
theorem z0d8(a b:Int):spOr [.l 1 [[I a],[I b]]]=some [I (if a≠0 then a else b)]:=z8d (e:=λx:Int×Int=>[.l 1 ([x.1,x.2].map zl)]) (λx y h=>by obtain⟨a,b⟩:=x;obtain⟨c,d⟩:=y;simpa[zl]using h) (a,b)
theorem zwp(a b:Int):z03k [I a,I b]=some [I (z8f a b)]:=z8d (e:=z03j) (λx y h=>by obtain⟨a,b⟩:=x;obtain⟨c,d⟩:=y;simpa[z03j]using h) (a,b)
theorem zwq(a:Int):z03l [I a]=some [.b false]:=z8d (e:=λx:Int=>[I x]) (λx y h=>by simpa using h) a
theorem zp9(p q:Point):zrb [I p.tx,I p.at_,I q.tx,I q.at_]=some [I (z1w p q)]:=z8d (e:=e2P) (λx y h=>by obtain⟨h1,h2⟩:=List.append_inj h rfl;exact Prod.ext (zas _ _ h1) (zas _ _ h2)) (p,q)
theorem z03m(c:Coin)(p:Point):zlo (za c++z3k p)=some [I (z1w c.p p)]:=z8d (e:=eCP) (λx y h=>by obtain⟨h1,h2⟩:=List.append_inj h rfl;exact Prod.ext (zf9 _ _ h1) (zas _ _ h2)) (c,p)
theorem ztf(l:List Coin)(p:Point)(h:z05 l)(hl:l.length<=1000000):zp8 [.l 6 (l.map za),I p.tx,I p.at_]=some [I (zp l p),.b (z1q l p)]:=z8d (e:=eLP) (λx y h=>by obtain⟨⟨l,p⟩,_⟩:=x;obtain⟨⟨m,q⟩,_⟩:=y;simp only[eLP,zY22,Dt.l.injEq,true_and]at h;exact Subtype.ext (Prod.ext (z4m zf9 h.1) (zas _ _ h.2))) ⟨(l,p),h,hl⟩
attribute [local irreducible] z09
def zK0(c:Nat)(a:List Atom):Nat->Nat->List X
 |0,_=>[]
 |n+1,j=>.call c a j::zK0 c a n (j+1)
abbrev zK(c:Nat)(a:List Atom)(n:Nat):List X:=zK0 c a n 0
def zD0(a i:Atom):Nat->Nat->List X
 |0,_=>[]
 |n+1,j=>.idx a i j::zD0 a i n (j+1)
abbrev zD(a i:Atom)(n:Nat):List X:=zD0 a i n 0
abbrev zS(x:X)(k:T):T:=.W [x] [] k
abbrev zC(c:Nat)(a:List Atom)(k:T):T:=.W [.call c a 0] [] k
abbrev zL(a:Atom)(k:T):T:=.W [.len a] [] k
abbrev zB(o:BinOp)(a b:Atom)(k:T):T:=.W [.B o a b] [] k
abbrev zQ(o:BinOp)(a b c:Atom)(t e:T):T:=.W [.B o a b] [] (.ite c t e)
abbrev zE(s:Nat)(a i:Atom)(k:T):T:=.W [] [.inr s a i] (.W (zD a i s) [] k)
def zUa(a b c:Atom):T:=zB .add a (zI 1) (.again 0 [b,c])
def znh(a b:Atom)(c:Nat)(d:Atom):T:=.ite a (.ret [b]) (zUa (.v (c+1)) (.v c) d)
def zrc:T:=zL 0 (.loop [zI 0,zI 0] (zQ .lss 3 1 4 (zE 1 0 3 (zB .neq 5 (zI 0) (znh 6 5 2 7))) (.ret [zI 0])))
def zpa:T:=zB .neq 0 0 (.ret [1])
def zk0:T:=zC 2 [0] (zC 2 [1] (.ite 2 (.ite 3 (.ret [zI 0]) (.ret [zI (-1)])) (.ite 3 (.ret [zI 1]) (zQ .lss 0 1 4 (.ret [zI (-1)]) (zQ .gtr 0 1 5 (.ret [zI 1]) (.ret [zI 0]))))))
def zrd:T:=zC 1 [0,2] (zC 1 [1,3] (zS (.mk 1 [[4],[5]]) (zC 0 [6] (.ret [7]))))
def zre:T:=zC 3 [0,1,6,7] (.ret [8])
def zhu:T:=.ite 6 (zB .add 4 5 (zS (.conv .u64 7) (zB .shr 8 (.c (.i .u64 1)) (zS (.conv .i64 9) (zE 6 0 10 (zC 4 [11,12,13,14,15,16,1,2] (zQ .lss 17 (zI 0) 18 (zUa 10 19 5) (.again 0 [4,10])))))))) (zQ .lss 4 3 7 (zE 6 0 4 (zC 4 [8,9,10,11,12,13,1,2] (zB .eql 14 (zI 0) (.ret [4,15])))) (.ret [4,.c (.b false)]))
def z8h:T:=zL 0 (.loop [zI 0,3] (zB .lss 4 5 zhu))
def zwr:T:=.W (zK 5 [0,1,2] 2) [] (.ret [3,4])
theorem mNaN:Meets Tryz.prog z03l 117 zW01:=by
 refine z72 (sp:=(λci=>[].getD ci λ_=>none)) (sigs:=zhr) (cut:=[]) (hints:=[]) (fn:=Tryz.f117) (t:=zpa) zX1 zX1 zX1 ?_ ?_
 ·exact λci f s _=>z14 f s
 ·rintro ds rs-h;obtain⟨x,rfl,rfl⟩:=z38 h;refine⟨⟨1,?_⟩,z0b rfl⟩;unfold zpa;refine z4 (d:=.b false) (z0cv rfl rfl rfl) ?_;exact z5 rfl rfl
theorem mCmp:Meets Tryz.prog z03k 95 zW00:=by
 refine z72 (sp:=(λci=>[λ_=>none,λ_=>none,z03l].getD ci λ_=>none)) (sigs:=zhr) (cut:=[]) (hints:=[]) (fn:=Tryz.f95) (t:=zk0) zX1 zX1 zX1 ?_ ?_
 ·exact(z27 (z14 _ _) (z27 (z14 _ _) (z27 mNaN (λci f s _=>z14 f s))))
 ·rintro ds rs-h;obtain⟨⟨a,b⟩,rfl,rfl⟩:=z38 h;refine⟨⟨1,?_⟩,z0b rfl⟩;unfold zk0;refine z4 (d:=.b false) (z3h rfl (zwq a) rfl) ?_;refine z4 (d:=.b false) (z3h rfl (zwq b) rfl) ?_;refine z0e rfl (z0e rfl ?_);refine z4 (d:=.b (decide (a<b))) rfl ?_;unfold z8f;refine z1t rfl (λh1=>?_) (λh1=>?_)
  ·exact z5 rfl (by rw[zP (of_decide_eq_true h1)];rfl)
  rw[zN (of_decide_eq_false h1)];refine z4 (d:=.b (decide (b<a))) rfl ?_;refine z1t rfl (λh2=>?_) (λh2=>?_)
  ·exact z5 rfl (by rw[zP (of_decide_eq_true h2)];rfl)
  ·exact z5 rfl (by rw[zN (of_decide_eq_false h2)];rfl)
theorem mOr:Meets Tryz.prog spOr 94 zW01:=by
 refine z72 (sp:=(λci=>[].getD ci λ_=>none)) (sigs:=zhr) (cut:=[]) (hints:=[⟨3,[.t 2,.t 8]⟩]) (fn:=Tryz.f94) (t:=zrc) zX1 zX1 zX1 ?_ ?_
 ·exact λci f s _=>z14 f s
 ·rintro ds rs-h;obtain⟨⟨a,b⟩,rfl,rfl⟩:=z38 h;refine⟨⟨5,?_⟩,z0b rfl⟩;show den _ 5 zrc [.l 1 [[I a],[I b]]] []=some [I (if a≠0 then a else b)];unfold zrc;refine z4 (d:=I 2) rfl ?_;refine zjp (λk:Nat=>[I 0,I k]) (λk=>k<=2/\(1<=k->a=0)/\(2<=k->b=0)) (λk=>2-k) 0 rfl zX4 zX4 λk hk again hag=>?_;simp only[zY1g,zY16];obtain⟨k1,k2,k3⟩:=hk
  match k,k1,k2,k3,hag with
  |0,k1,k2,k3,hag =>
   refine z4 (d:=.b true) rfl (z0h rfl ?_);refine z26 (z1h rfl rfl zX9 zX4) ?_;refine z4 (d:=I a) (z1d (x:=[I a]) rfl rfl zX9 rfl rfl) ?_;refine z4 (d:=.b (!decide (a=0))) rfl ?_;refine z1t rfl (λh1=>?_) (λh1=>?_)
   ·exact z5 rfl (by rw[zP (by simpa using h1)])
   ·refine z4 (d:=I 1) rfl ?_;exact z6 rfl rfl (hag 1 ⟨by omega,λ_=>by simpa using h1,λh=>by omega⟩ zX0)
  |1,k1,k2,k3,hag =>
   refine z4 (d:=.b true) rfl (z0h rfl ?_);refine z26 (z1h rfl rfl zX9 zX4) ?_;refine z4 (d:=I b) (z1d (x:=[I b]) rfl rfl zX9 rfl rfl) ?_;refine z4 (d:=.b (!decide (b=0))) rfl ?_;have h0:=k2 zX0;refine z1t rfl (λh1=>?_) (λh1=>?_)
   ·exact z5 rfl (by rw[zN (by simp[h0])])
   ·refine z4 (d:=I 2) rfl ?_;exact z6 rfl rfl (hag 2 ⟨by omega,λ_=>h0,λ_=>by simpa using h1⟩ zX0)
  |2,k1,k2,k3,hag =>refine z4 (d:=.b false) rfl (z0e rfl ?_);exact z5 rfl (by rw[k2 zX0,k3 zX0];rfl)
  |k+3,k1,_,_,_=>exact absurd k1 zX0
theorem z06t:Meets Tryz.prog zrb 67 zW02:=by
 refine z72 (sp:=(λci=>[spOr,z03k].getD ci λ_=>none)) (sigs:=zhr) (cut:=[]) (hints:=[]) (fn:=Tryz.f67) (t:=zrd) zX1 zX1 zX1 ?_ ?_
 ·exact(z27 mOr (z27 mCmp (λci f s _=>z14 f s)))
 ·rintro ds rs-h;obtain⟨⟨⟨a,b⟩,⟨c,d⟩⟩,rfl,rfl⟩:=z38 h;refine⟨⟨1,?_⟩,z0b rfl⟩;show den _ 1 zrd [I a,I b,I c,I d] []=_;unfold zrd;refine z4 (d:=I (z8f a c)) (z3h rfl (zwp a c) rfl) ?_;refine z4 (d:=I (z8f b d)) (z3h rfl (zwp b d) rfl) ?_;refine z4 (z1p (r:=[[I (z8f a c)],[I (z8f b d)]]) rfl rfl zX4) ?_;refine z4 (d:=I (if z8f a c≠0 then z8f a c else z8f b d)) (z3h rfl (z0d8 _ _) rfl) ?_;exact z5 rfl rfl
theorem z0fx:Meets Tryz.prog zlo 100 zW1f:=by
 refine z72 (sp:=(λci=>[λ_=>none,λ_=>none,λ_=>none,zrb].getD ci λ_=>none)) (sigs:=zhr) (cut:=[]) (hints:=[]) (fn:=Tryz.f100) (t:=zre) zX1 zX1 zX1 ?_ ?_
 ·exact(z27 (z14 _ _) (z27 (z14 _ _) (z27 (z14 _ _) (z27 z06t (λci f s _=>z14 f s)))))
 ·rintro ds rs-h;obtain⟨⟨c,p⟩,rfl,rfl⟩:=z38 h;refine⟨⟨1,?_⟩,z0b rfl⟩;show den _ 1 zre [I c.p.tx,I c.p.at_,I c.o.coin,.l 2 (c.o.lock.map eOp),I c.height,.b c.reward,I p.tx,I p.at_] []=_;unfold zre;refine z4 (d:=I (z1w c.p p)) (z3h rfl (zp9 c.p p) rfl) ?_;exact z5 rfl rfl
theorem zws{sp:Nat->zd}{E:Env}{a i:Atom}{l:List Coin}{m:Int}{c:Coin}(ha:a.val E=some (.l 6 (l.map za)))(hi:i.val E=some (I m))(h0:0<=m)(hx:l[m.toNat]?=some c) :
  z0s sp E [.idx a i 0,.idx a i 1,.idx a i 2,.idx a i 3,.idx a i 4,.idx a i 5]=some [I c.p.tx,I c.p.at_,I c.o.coin,.l 2 (c.o.lock.map eOp),I c.height,.b c.reward]:=by
 have hx':(l.map za)[m.toNat]?=some (za c):=by rw[zY0m,hx];rfl
 exact z0d (z1d ha hi h0 hx' rfl) (z0d (z1d ha hi h0 hx' rfl) (z0d (z1d ha hi h0 hx' rfl) (z0d (z1d ha hi h0 hx' rfl) (z0d (z1d ha hi h0 hx' rfl) (z0d (z1d ha hi h0 hx' rfl) z3y)))))
theorem z0a8:Meets Tryz.prog zp8 99 zW0v:=by
 refine z72 (sp:=(λci=>[λ_=>none,λ_=>none,λ_=>none,λ_=>none,zlo].getD ci λ_=>none)) (sigs:=zhr) (cut:=[]) (hints:=[⟨3,[.t 9,.t 10]⟩]) (fn:=Tryz.f99) (t:=z8h) zX1 zX1 zX1 ?_ ?_
 ·exact(z27 (z14 _ _) (z27 (z14 _ _) (z27 (z14 _ _) (z27 (z14 _ _) (z27 z0fx (λci f s _=>z14 f s))))))
 ·rintro ds rs-h;obtain⟨⟨⟨l,⟨pt,pa⟩⟩,hs,hl⟩,rfl,rfl⟩:=z38 h;simp only at hs hl;refine⟨⟨l.length+1,?_⟩,zbw rfl rfl⟩;show den _ (l.length+1) z8h [.l 6 (l.map za),I pt,I pa] []=some [I (zp l ⟨pt,pa⟩),.b (z1q l ⟨pt,pa⟩)];generalize hp:(⟨pt,pa⟩:Point)=p;have hpc:∀c:Coin,zlo [I c.p.tx,I c.p.at_,I c.o.coin,.l 2 (c.o.lock.map eOp),I c.height,.b c.reward,I pt,I pa]=some [I (z1w c.p p)]:=λc=>by rw[<- hp];exact z03m c ⟨pt,pa⟩
  unfold z8h;refine z4 (d:=I l.length) (z2f rfl zX4) ?_;refine zjp (λs:Nat×Nat=>[I s.1,I s.2]) (λs=>s.1<=s.2/\s.2<=l.length/\(∀t (ht:t<l.length),t<s.1->ltP l[t].p p)/\∀t (ht:t<l.length),s.2<=t->¬ltP l[t].p p) (λs=>s.2-s.1) (0,l.length) rfl ⟨by omega,by omega,λt ht h=>by omega,λt ht h=>by omega⟩ zX4 ?_;rintro⟨i,j⟩ ⟨h1,h2,h3,h4⟩ again hag;simp only at h1 h2 h3 h4 hag;simp only[zY1g,zY16];by_cases hij:i<j
  ·obtain⟨m,hm⟩:∃m:Nat,m=(i+j)/2:=⟨_,rfl⟩
   have hmi:i<=m:=zX0;have hmj:m<j:=zX0;have hml:m<l.length:=zX0;have hsum:(i:Int)+(j:Int)=((i+j:Nat):Int):=zX0;have hc1:IntKind.u64.wrap ((i+j:Nat):Int)=((i+j:Nat):Int):=by unfold IntKind.wrap;simp only[IntKind.bits,IntKind.signed,zY3o,zY0x,if_false];omega
   have hdiv:(((i+j:Nat):Int)).fdiv (2 ^ (min (1:Int).toNat IntKind.u64.bits))=(m:Int):=by
    show(((i+j:Nat):Int)).fdiv 2=(m:Int)
    rw[Int.fdiv_eq_ediv_of_nonneg _ zX0];omega
   have hc2:IntKind.u64.wrap (m:Int)=m:=by unfold IntKind.wrap;simp only[IntKind.bits,IntKind.signed,zY3o,zY0x,if_false];omega
   have hc3:IntKind.i64.wrap (m:Int)=m:=wrap_i64 zX0;have hlm:l[((m:Nat):Int).toNat]?=some l[m]:=by simp[hml]
   have hcall:=hpc l[m];have hlt:=zln l[m].p p;have hup:ltP l[m].p p->∀t (ht:t<l.length),t<m+1->ltP l[t].p p:=λh t ht htm=>by
    rcases zY1w t m with h'|h'
    ·exact z8g (zad hs h' hml) h
    ·obtain rfl:t=m:=zX0;exact h
   have hdn:¬ltP l[m].p p->∀t (ht:t<l.length),m<=t->¬ltP l[t].p p:=λh t ht htm h'=>by
    rcases Nat.eq_or_lt_of_le htm with rfl|htm
    ·exact h h'
    ·exact h (z8g (zad hs htm ht) h')
   have hm1:((m+1:Nat):Int)=(m:Int)+1:=zX0;have hag1:ltP l[m].p p->again [I ((m:Int)+1),I (j:Int)]=some [I (zp l p),.b (z1q l p)]:=λh=>by rw[<- hm1];exact hag (m+1,j) ⟨by simp only;omega,h2,hup h,h4⟩ (by simp only;omega)
   have hag2:=λh=>hag (i,m) ⟨hmi,by simp only;omega,h3,hdn h⟩ (by simp only;omega);have hi0:(0:Int)<=m:=zX0;have hi1:(m:Int)<(l.map za).length:=by simp;omega
   have hlim:(m:Int)+1<=2000000:=zX0;have hlim2:(i:Int)+j<=2000000:=zX0;have hlim3:(i:Int)<j:=zX0;have hlim4:(0:Int)<=(i:Int)+j:=zX0;clear hm1;generalize l[m]=c at *;generalize hmm:(m:Int)=mm at *;generalize((i+j:Nat):Int)=ij at *;generalize(i:Int)=ii at *;generalize(j:Int)=jj at *;refine z4 (d:=.b (decide (ii<jj))) rfl ?_;refine z1t rfl (λ_=>?_) (λh=>absurd (of_decide_eq_false h) zX0);refine z4 (d:=I ij) (by rw[<- hsum];exact z7t rfl rfl zX0) ?_;refine z4 (d:=.i .u64 ij) (by show some (Dt.i .u64 (IntKind.u64.wrap ij))=_;rw[hc1]) ?_;refine z4 (d:=.i .u64 mm) (by show(if(1:Int)<0 then none else if IntKind.u64.wrap (ij.fdiv (2 ^ (min (1:Int).toNat IntKind.u64.bits)))=ij.fdiv (2 ^ (min (1:Int).toNat IntKind.u64.bits))then some (Dt.i .u64 (ij.fdiv (2 ^ (min (1:Int).toNat IntKind.u64.bits))))else none)=_;rw[hdiv,zN zX9,zP hc2]) ?_
   refine z4 (d:=I mm) (by show some (Dt.i .i64 (IntKind.i64.wrap mm))=_;rw[hc3]) ?_;refine z26 (z1h rfl rfl hi0 hi1) ?_;refine z3g (ds:=[I c.p.tx,I c.p.at_,I c.o.coin,.l 2 (c.o.lock.map eOp),I c.height,.b c.reward]) (zws rfl rfl hi0 hlm) ?_;refine z4 (d:=I (z1w c.p p)) (z3h rfl hcall rfl) ?_;refine z4 (d:=.b (decide (z1w c.p p<0))) rfl ?_;refine z1t rfl (λh=>?_) (λh=>?_)
   ·refine z4 (d:=I (mm+1)) (z7t rfl rfl zX0) ?_;exact z6 rfl rfl (hag1 (hlt.1 (of_decide_eq_true h)))
   ·exact z6 rfl rfl (hag2 λh'=>of_decide_eq_false h (hlt.2 h'))
  ·obtain rfl:i=j:=zX0;have hpos:=zwo h2 h3 h4;have hhas:=zht hs p;refine z4 (d:=.b (decide ((i:Int)<i))) rfl ?_;refine z1t rfl (λh=>absurd (of_decide_eq_true h) zX0) (λ_=>?_);refine z4 (d:=.b (decide ((i:Int)<(l.length:Int)))) rfl ?_;refine z1t rfl (λh=>?_) (λh=>?_)
   ·have h:=of_decide_eq_true h;have hil:i<l.length:=zX0;have hlm:l[((i:Nat):Int).toNat]?=some l[i]:=by simp[hil]
    have hcall:=hpc l[i];have heq:=z0d7 l[i].p p;have hi0:(0:Int)<=i:=zX0;have hi1:(i:Int)<(l.map za).length:=by simp;omega
    have hv:decide (z1w l[i].p p=0)=z1q l p:=by rw[Bool.eq_iff_iff,decide_eq_true_iff,heq,hhas,hpos];exact⟨λh=>⟨hil,h⟩,λ⟨_,h⟩=>h⟩
    rw[hpos,<- hv];generalize l[i]=c at *;generalize(i:Int)=ii at *;refine z26 (z1h rfl rfl hi0 hi1) ?_;refine z3g (ds:=[I c.p.tx,I c.p.at_,I c.o.coin,.l 2 (c.o.lock.map eOp),I c.height,.b c.reward]) (zws rfl rfl hi0 hlm) ?_;refine z4 (d:=I (z1w c.p p)) (z3h rfl hcall rfl) ?_;refine z4 (d:=.b (decide (z1w c.p p=0))) rfl ?_;exact z5 rfl rfl
   ·have h:=of_decide_eq_false h;have hv:z1q l p=false:=by rw[<- zY2j,hhas,hpos];rintro⟨h',_⟩;omega
    rw[hpos,hv];exact z5 rfl rfl
theorem z0gv:Meets Tryz.prog zp8 69 zW0t:=by
 refine z72 (sp:=(λci=>[λ_=>none,λ_=>none,λ_=>none,λ_=>none,λ_=>none,zp8].getD ci λ_=>none)) (sigs:=zhr) (cut:=[]) (hints:=[]) (fn:=Tryz.f69) (t:=zwr) zX1 zX1 zX1 ?_ ?_
 ·exact(z27 (z14 _ _) (z27 (z14 _ _) (z27 (z14 _ _) (z27 (z14 _ _) (z27 (z14 _ _) (z27 z0a8 (λci f s _=>z14 f s)))))))
 ·rintro ds rs-h;obtain⟨⟨⟨l,p⟩,hs,hl⟩,rfl,rfl⟩:=z38 h;refine⟨⟨1,?_⟩,zbw rfl rfl⟩;show den _ 1 zwr [.l 6 (l.map za),I p.tx,I p.at_] []=_;unfold zwr;refine z3g (ds:=[I (zp l p),.b (z1q l p)]) (z03e (ci:=5) rfl rfl (ztf l p hs hl)) ?_;exact z5 rfl rfl
end
def Er(n:Int):Prop:=0<=n/\n<=12
theorem Er.i64{n:Int}(h:Er n): -9223372036854775808<=n/\n<=9223372036854775807:=⟨by have:=h.1;omega,by have:=h.2;omega⟩
theorem z2n{c:Prop}[Decidable c]{a b:Int}(ha:Er a)(hb:Er b):Er (if c then a else b):=by split<;>assumption
theorem z2d(n:Int)(h:decide (0<=n/\n<=12)=true):Er n:=by unfold Er;exact of_decide_eq_true h
theorem z0gw(o:Op):Er (z4o o):=z2n (z2d _ rfl) (z2n (z2d _ rfl) (z2d _ rfl))
theorem zwu:∀l:List Op,Er (z67 l)
 | []=>z2d _ rfl
 |o::l=>z2n (z0gw o) (zwu l)
theorem zpb(l:List Op):Er (zb l):=z2n (z2d _ rfl) (zwu l)
theorem z0a9(x:In):Er (z53 x):=by unfold z53;exact z2n (z2d _ rfl) (zpb _)
theorem zwv:∀l s:List In,Er (z2w l s)
 | [],_=>z2d _ rfl
 |x::l,s=>z2n (z0a9 x) (z2n (z2d _ rfl) (zwv l _))
theorem z021:∀l:List Out,Er (z2l l)
 | []=>z2d _ rfl
 |x::l=>z2n (z2n (z2d _ rfl) (zpb _)) (z021 l)
theorem zww:∀(l:List Int) (s:Int),Er (z9u l s).2
 | [],_=>z2d _ rfl
 |x::l,s=>by
  unfold z9u;repeat' split
  all_goals first|exact z2d _ rfl|exact zww _ _
theorem z03o(t:Tx):Er (zo t):=z2n (z2n (z2d _ rfl) (z2n (z2d _ rfl) (z2n (z2d _ rfl) (z2d _ rfl)))) (z2n (zwv _ _) (z2n (z021 _) (zww _ _)))
theorem zwx(h:Int):∀(l:List Tx) (i:Nat),Er (z79 h l i)
 | [],_=>z2d _ rfl
 |t::l,i=>z2n (z03o t) (z2n (z2d _ rfl) (zwx h l _))
theorem z06u(b:Block):Er (zf b):=z2n (z2n (z2d _ rfl) (z2n (z2d _ rfl) (z2n (z2d _ rfl) (z2d _ rfl)))) (zwx _ _ _)
section
theorem ze2{W:World}{F:Nat->Prop}{n:Int}{v:Value}(h:Rep W F (I n) v):v=.int .i64 n/\I64 n:=by obtain⟨rfl,h1⟩:=z3n h;exact⟨rfl,zsz h1⟩
def z02:List (Nat×Sig):=[(94,zW01),(95,zW00),(117,zW01),(67,zW02),(100,zW1f),(99,zW0v),(69,zW0t),(66,zW01),(42,zW01),(37,zW03),(38,zW1i),(12,zW03),(65,zW0h),(71,zW09),(72,zW09),(116,zW13),(68,zW0c),(64,zW04),zZr,(59,zW00),(70,zW02),(32,zW1a),(34,zW02),(56,zW01),(57,zW02),(30,zW01),(10,zW00),(33,zW1g),(43,zW06),(133,zW07),(178,zW00),(179,zW00),(180,zW00),(182,zW00),(183,zW00),(184,zW01),(181,zW01),(185,zW01),(76,zW01),(107,zW00),(106,zW0e),zZr,(127,zW01),(112,zW07),(87,zW1e),(124,zW16),(19,zW00),(108,zW01),(86,zW0r),(89,zW03),(55,zW0h),(88,zW03),(45,zW0c),(54,zW04),(58,zW06),(47,zW18),(46,zW19),(35,zW0m),(48,zW0n),(49,zW0d),(22,zW0f),(63,zW0a),(41,zW0i),(82,zW0c),(79,zW0u),(13,zW1m),(14,zW1o),(21,zW00),(36,zW15),(15,zW0j),(24,zW0w),(62,zW1b),(17,zW0x),(11,zW08),(18,zW0y),(25,zW08),(16,zW10),(4,zW0l),(26,zW12),(23,zW0o),(8,zW1n),(20,zW0d),(83,zW0d),(51,zW17),(61,zW1j),(27,zW00),(50,zW1c),(39,zW0p),(60,zW1d),(81,zW1k),(40,zW14),(90,zW1h),(91,zW1l),zZr,(5,zW0m),(109,zW05),(84,zW0s),(53,zW01),(52,zW0g),(29,zW0k),(31,zW0z),(6,zW0p),(7,zW0b),(28,zW11),(9,zW0q),zZr,(73,zW0r),(74,zW0a),(125,zW0u),(80,zW05)]
def z0gx:List (Nat×Sig):=[(94,zW01),(95,zW00),(117,zW01),(67,zW02),(100,zW1f),(99,zW0v),(69,zW0t),(66,zW01),(42,zW01),(37,zW03),(38,zW1i),(12,zW03),(65,zW0h),(71,zW09),(72,zW09),(116,zW13),(68,zW0c),(64,zW04),zZr,(59,zW00),(70,zW02),(32,zW1a),(34,zW02),(56,zW01),(57,zW02),(30,zW01),(10,zW00),(33,zW1g),(43,zW06),(133,zW07),(178,zW00),(179,zW00),(180,zW00),(182,zW00),(183,zW00),(184,zW01),(181,zW01),(185,zW01),(76,zW01),(107,zW00),(106,zW0e),zZr,(127,zW01),(112,zW07),(87,zW1e),(124,zW16),(19,zW00),(108,zW01),(86,⟨[.one,.agg 2],[(false,[.scal])],false⟩),(89,zW03),(55,zW0h),(88,zW03),(45,zW0c),(54,zW04),(58,zW06),(47,zW18),(46,zW19),(35,zW0m),(48,zW0n),(49,zW0d),(22,zW0f),(63,zW0a),(41,zW0i),(82,zW0c),(79,zW0u),(13,zW1m),(14,zW1o),(21,zW00),(36,zW15),(15,zW0j),(24,zW0w),(62,zW1b),(17,zW0x),(11,zW08),(18,zW0y),(25,zW08),(16,zW10),(4,zW0l),(26,zW12),(23,zW0o),(8,zW1n),(20,zW0d),(83,zW0d),(51,zW17),(61,zW1j),(27,zW00),(50,zW1c),(39,zW0p),(60,zW1d),(81,zW1k),(40,zW14),(90,zW1h),(91,zW1l),zZr,(5,zW0m),(109,zW05),(84,zW0s),(53,zW01),(52,zW0g),(29,zW0k),(31,zW0z),(6,zW0p),(7,zW0b),(28,zW11),(9,zW0q),zZr,(73,zW0r),(74,zW0a),(125,zW0u),(80,zW05)]
def z0c3:List (Nat×Sig):=[(94,zW01),(95,zW00),(117,zW01),(67,zW02),(100,zW1f),(99,zW0v),(69,zW0t),(66,zW01),(42,zW01),(37,zW03),(38,zW1i),(12,zW16),(65,zW0h),(71,zW09),(72,zW09),(116,zW13),(68,zW0c),(64,zW04),zZr,(59,zW00),(70,zW02),(32,zW1a),(34,zW02),(56,zW01),(57,zW02),(30,zW01),(10,zW00),(33,zW1g),(43,zW06),(133,zW07),(178,zW00),(179,zW00),(180,zW00),(182,zW00),(183,zW00),(184,zW01),(181,zW01),(185,zW01),(76,zW01),(107,zW00),(106,zW0e),zZr,(127,zW01),(112,zW07),(87,zW1e),(124,zW16),(19,zW00),(108,zW01),(86,zW0r),(89,zW03),(55,zW0h),(88,zW03),(45,zW0c),(54,zW04),(58,zW06),(47,zW18),(46,zW19),(35,zW0m),(48,zW0n),(49,zW0d),(22,zW0f),(63,zW0a),(41,zW0i),(82,zW0c),(79,zW16),(13,zW1m),(14,zW1o),(21,zW00),(36,zW15),(15,zW0j),(24,zW0w),(62,zW1b),(17,zW0x),(11,zW08),(18,zW0y),(25,zW08),(16,zW10),(4,zW0l),(26,zW12),(23,zW0o),(8,zW1n),(20,zW0d),(83,zW0d),(51,zW17),(61,zW1j),(27,zW00),(50,zW1c),(39,zW0p),(60,zW1d),(81,zW1k),(40,zW14),(90,zW1h),(91,zW1l),zZr,(5,zW0m),(109,zW05),(84,zW0s),(53,zW01),(52,zW0g),(29,zW0k),(31,zW0z),(6,zW0p),(7,zW0b),(28,zW11),(9,zW0q),zZr,(73,zW0r),(74,zW0a),(125,zW0u),(80,zW05)]
noncomputable def z2r:zd:=spD (λ_:List Op=>True) λl=>zb l
noncomputable def z8z:zd:=spD (λ_:Tx=>True) λt=>zo t
noncomputable def z61:zd:=spD (λl:List Op=>l.length<=8796093022208) λl=>l
noncomputable def z5b:zd:=spD (λl:List Coin=>l.length<=1000000) λl=>l
noncomputable def zby:zd:=spD (λ_:List Op×List Op=>True) λx=>decide (x.1=x.2)
theorem zcf:Meets Tryz.prog z2r 66 zW01 :=
 zcb (e:=λx:{ x:List Op // True }=>Enc.e x.1) (d:=λx=>I (zb x.1)) rfl (z25 (fn:=Tryz.f66) ) (λ_=>rfl) λx W F us hF h=>by obtain⟨v,us,rfl,h1,h⟩:=z1c h;obtain rfl:=z1y h;obtain⟨A,n,c,rfl,k1⟩:=z2u zar h1;exact(zd4 x.1 A n c W F k1 hF).mono λe w' h=>⟨_,h.1,h.2,.i _ _ (wrap_i64 (zpb x.1).i64)⟩
theorem ztg:Meets Tryz.prog z8z 68 zW0c :=
 zcb (e:=λx:{ x:Tx // True }=>Enc.e x.1) (d:=λx=>I (zo x.1)) rfl (z25 (fn:=Tryz.f68) ) (λ_=>rfl) λx W F us hF h=>by obtain⟨cs,rfl,hr⟩:=zeg h;exact(zfz x.1 cs W F (she_tx.of hr) hF).mono λe w' h=>⟨_,h.1,h.2,.i _ _ (wrap_i64 (z03o x.1).i64)⟩
theorem zpc:Meets Tryz.prog z61 38 zW1i :=
 z39 (e:=λx:{ l:List Op // l.length<=8796093022208 }=>Enc.e x.1) (xs:=λx=>x.1) zar rfl rfl zX9 (z25 (fn:=Tryz.f38) ) λx W F us hF h=>by obtain⟨v,us,rfl,h1,h⟩:=z1c h;obtain rfl:=z1y h;obtain⟨A,n,c,rfl,k1⟩:=z2u zar h1;have:=x.2;have:=k1.1;exact(z09t x.1 A n c W F k1 hF zX0).mono λr W' h=>⟨n,h⟩
theorem zni:Meets Tryz.prog z5b 37 zW03 :=
 z39 (e:=λx:{ l:List Coin // l.length<=1000000 }=>Enc.e x.1) (xs:=λx=>x.1) she_coin rfl rfl zX9 (z25 (fn:=Tryz.f37) ) λx W F us hF h=>by obtain⟨v,us,rfl,h1,h⟩:=z1c h;obtain rfl:=z1y h;obtain⟨A,n,c,rfl,k1⟩:=z2u she_coin h1;have:=x.2;have:=k1.1;exact(zhm x.1 A n c W F k1 hF zX0).mono λr W' h=>⟨n,h⟩
noncomputable def zdl:zd:=spD (λ_:Point×Point=>True) λx=>z1w x.1 x.2
theorem zui(p q:Point):zdl [I p.tx,I p.at_,I q.tx,I q.at_]=some [I (z1w p q)]:=zi (f:=λx:Point×Point=>z1w x.1 x.2) (p,q) trivial
theorem z86(l:List Op):z2r [.l 2 (l.map eOp)]=some [I (zb l)]:=zi (f:=λl:List Op=>zb l) l trivial
theorem z90(l:List Op)(h:l.length<=8796093022208):z61 [.l 2 (l.map eOp)]=some [.l 2 (l.map eOp)]:=zi (f:=λl:List Op=>l) l h
theorem z8i(l:List Coin)(h:l.length<=1000000):z5b [.l 6 (l.map za)]=some [.l 6 (l.map za)]:=zi (f:=λl:List Coin=>l) l h
theorem zpd{P:Program}{s s':zd}{f:Nat}{g:Sig}(h:Meets P s f g)(he:∀ds rs,s' ds=some rs->s ds=some rs):Meets P s' f g:=by refine⟨λhm W F ds args rs hF ha hs=>h.1 hm W F ds args rs hF ha (he _ _ hs),λe sz ps hp W F base v xs vs ds args rs h1 h2 h3 h4 h5 h6 h7 hs=>h.2 e sz ps hp W F base v xs vs ds args rs h1 h2 h3 h4 h5 h6 h7 (he _ _ hs)⟩
theorem z06v:Meets Tryz.prog zdl 67 zW02:=zpd z06t λds rs h=>by obtain⟨⟨p,q⟩,-,rfl,rfl⟩:=zh h;exact zp9 p q
noncomputable def z91:zd:=spD (λx:List Coin×Point=>z05 x.1/\x.1.length<=1000000) λx=>((zp x.1 x.2:Int),z1q x.1 x.2)
theorem z7i(l:List Coin)(p:Point)(h:z05 l)(hl:l.length<=1000000):z91 [.l 6 (l.map za),I p.tx,I p.at_]=some [I (zp l p),.b (z1q l p)]:=zi (p:=λx:List Coin×Point=>z05 x.1/\x.1.length<=1000000) (f:=λx:List Coin×Point=>((zp x.1 x.2:Int),z1q x.1 x.2)) (l,p) ⟨h,hl⟩
theorem zth:Meets Tryz.prog z91 69 zW0t:=zpd z0gv λds rs h=>by obtain⟨⟨l,p⟩,⟨h1,h2⟩,rfl,rfl⟩:=zh h;exact ztf l p h1 h2
def z5d(c:Coin):Int:=if c.p.tx<1\/120<c.p.tx\/c.p.at_<0\/6<=c.p.at_\/c.o.coin<1\/1000000000<c.o.coin\/c.height<1\/1000<c.height then 3 else zb c.o.lock
def zm:List Coin->Int
 | []=>0
 |c::l=>c.o.coin+zm l
theorem z5i(l r:List Coin):zm (l++r)=zm l+zm r:=by
 induction l with
 |nil=>simp[zm]
 |cons c l ih=>simp only[zY1g,zm,ih];omega
def z7u:Point->Int->List Coin->Int
 |_,_,[]=>0
 |pv,s,c::r=>if c.p.tx<1\/120<c.p.tx\/c.p.at_<0\/6<=c.p.at_\/c.o.coin<1\/1000000000<c.o.coin\/c.height<1\/1000<c.height then 3
  else if zb c.o.lock≠0 then zb c.o.lock else if 0<=z1w pv c.p then 6 else if 1000000000<s+c.o.coin then 12 else z7u c.p (s+c.o.coin) r
def z9(l:List Coin):Int:=if 720<(l.length:Int)then 2 else z7u ⟨0,0⟩ 0 l
noncomputable def z3s:zd:=spD (λ_:List Coin=>True) λl=>z9 l
theorem z4s(l:List Coin):z3s [.l 6 (l.map za)]=some [I (z9 l)]:=zi (f:=λl:List Coin=>z9 l) l trivial
attribute [local irreducible] z09 spD z1w
def zUz(a b c d:Atom):T:=zB .add a (zI 1) (.again 0 [b,c,d])
def zUf(a:Nat):T:=zB .add 4 10 (zQ .gtr (.v a) (zI 1000000000) (.v (a+1)) (.ret [zI 12]) (zUz 6 (.v a) 5 (.v (a+2))))
def zzo:T:=.ite 20 (.ret [zI 3]) (zQ .gtr 12 (zI 1000) 21 (.ret [zI 3]) (zC 7 [11] (zQ .neq 22 (zI 0) 23 (.ret [22]) (zQ .gtr 6 (zI 0) 24 (zB .sub 6 (zI 1) (.W [] [.inr 6 0 25] (.W (zD 0 25 2) [] (zC 3 [26,27,8,9] (zQ .geq 28 (zI 0) 29 (.ret [zI 6]) (zUf 30)))))) (zUf 25)))))
def zzp:T:=zQ .lss 8 (zI 1) 14 (.ret [zI 3]) (zQ .gtr 8 (zI 120) 15 (.ret [zI 3]) (zQ .lss 9 (zI 0) 16 (.ret [zI 3]) (zQ .geq 9 (zI 6) 17 (.ret [zI 3]) (zQ .lss 10 (zI 1) 18 (.ret [zI 3]) (zQ .gtr 10 (zI 1000000000) 19 (.ret [zI 3]) (zB .lss 12 (zI 1) zzo))))))
def zk1:T:=zL 0 (zQ .gtr 1 (zI 720) 2 (.ret [zI 2]) (zL 0 (.loop [zI 0,zI 0,zI 0] (zQ .lss 6 3 7 (zE 6 0 6 zzp) (.ret [zI 0])))))
theorem zfd:Meets Tryz.prog z3s 42 zW01:=by
 refine zg (sp:=(zx [(3,zdl),(7,z2r)])) (sigs:=z02) (cut:=[]) (hints:=[⟨5,[.t 3,.t 2,.t 12]⟩]) (fn:=Tryz.f42) (t:=zk1) ?_ ?_
 ·exact(zq (L:=[(3,zdl),(7,z2r)]) ⟨z7 rfl z06v,z7 rfl zcf,trivial⟩)
 ·rintro ds rs-h;obtain⟨l,-,rfl,rfl⟩:=zh h;clear h;refine⟨⟨l.length+1,?_⟩,z0b rfl⟩;show den _ _ zk1 [.l 6 (l.map za)] []=ret (z9 l);unfold zk1 z9;repeat'(first|refine dq1 ?_|exact z5 rfl rfl|refine tR (λh=>?_) λh=>?_|fail)
  (refine zj (λ(st:Point×Int) k=>[I st.2,I 0,I k]) (λst k r=>z7u st.1 st.2 r) (λst k=>((k=0/\st.1=⟨0,0⟩)\/(0<k/\∃d,l[((k:Int)-1).toNat]?=some d/\d.p=st.1))/\0<=st.2/\st.2<=1000000000) (⟨0,0⟩,0) l ?_ ?_ ?_ ?_ ?_;rfl;exact⟨.inl ⟨rfl,rfl⟩,by decide,by decide⟩;exact zY29 _)
  ·rintro⟨pv,s⟩ k c r hx hd hk ⟨hp,hs0,hs1⟩ again hag;simp only at hp hs0 hs1⊢;rw[z7u];repeat'(first|refine dq1 ?_|refine dqc ?_|refine dqm ?_|refine dqk rfl (z86 _) ?_|exact z5 rfl rfl|((first|refine tR ?_ ?_|refine tO ?_ ?_)<;>intro h)|refine dqT ?_|fail)
   refine z3r rfl (λh=>?_) (λh=>?_)
   ·obtain⟨hk0,-⟩|⟨hk0,d,hd',rfl⟩:=hp
    ·omega
    repeat'(first|refine dq1 ?_|refine dqc ?_|refine dqm ?_|refine dqk rfl (zui _ _) ?_|exact z5 rfl rfl|refine tR (λh=>?_) λh=>?_|fail)
    exact z6 rfl rfl (hag (c.p,s+c.o.coin) ⟨.inr ⟨by omega,c,by simpa using hx,rfl⟩,by simp only;omega,by simp only;omega⟩)
   ·obtain⟨rfl,rfl⟩|⟨hk0,-⟩:=hp
    ·have ho:¬0<=z1w ⟨0,0⟩ c.p:=by have:=zln ⟨0,0⟩ c.p;unfold ltP at this;simp only at this;omega
     rw[zN ho];repeat'(first|refine dq1 ?_|exact z5 rfl rfl|refine tR (λh=>?_) λh=>?_|fail)
     exact z6 rfl rfl (hag (c.p,s+c.o.coin) ⟨.inr ⟨by omega,c,by simpa using hx,rfl⟩,by simp only;omega,by simp only;omega⟩)
    ·omega
  ·intro st hI again;simp only[z7u];repeat'(first|refine dq1 ?_|exact z5 rfl rfl|refine dqF ?_|fail)
structure CoinsOK(l:List Coin):Prop where
 len:l.length<=720
 good:∀c∈l,z5d c=0
 sorted:z05 l
 total:zm l<=1000000000
theorem z49{c:Coin}(h:z5d c=0):1<=c.p.tx/\c.p.tx<=120/\0<=c.p.at_/\c.p.at_<=5/\1<=c.o.coin/\c.o.coin<=1000000000/\1<=c.height/\c.height<=1000/\zb c.o.lock=0:=by
 unfold z5d at h;split at h
 ·cases h
 ·omega
theorem zpe:∀(l:List Coin) (p:Point) (s:Int),0<=s->s<=1000000000->(z7u p s l=0↔(∀c∈l,z5d c=0)/\z05 l/\(∀c∈l,ltP p c.p)/\s+zm l<=1000000000)
 | [],p,s,h0,h1=>by simp[z7u,z05,zm];omega
 |c::l,p,s,h0,h1=>by
  have ho:=zln p c.p;rw[z7u];by_cases hb:z5d c=0
  ·have hb':=hb;unfold z5d at hb';split at hb'
   ·cases hb'
   rename_i hr;rw[zN hr,zN (by simp[hb'])];obtain⟨_,_,_,_,hc1,hc2,_,_,_⟩:=z49 hb;by_cases hlt:ltP p c.p
   ·rw[zN (by have:=ho.2 hlt;omega)];by_cases hf:1000000000<s+c.o.coin
    ·rw[zP hf];constructor
     ·intro h;cases h
     ·rintro⟨h2,h3,h4,h5⟩;have:∀l:List Coin,(∀c∈l,z5d c=0)->0<=zm l:=by
       intro l;induction l with
       |nil=>intro _;simp[zm]
       |cons d l ih =>intro h;have:=z49 (h d (zY0i ..));have:=ih λx hx=>h x (zY0h _ hx);simp only[zm];omega
      have:=this l λx hx=>h2 x (zY0h _ hx);simp only[zm]at h5;omega
    ·rw[zN hf,zpe l c.p (s+c.o.coin) zX0 zX0];simp only[z05,zm,zY0g,forall_eq_or_imp,zY1h];constructor
     ·rintro⟨h2,h3,h4,h5⟩;exact⟨⟨hb,h2⟩,⟨h4,h3⟩,⟨hlt,λx hx=>z8g hlt (h4 x hx)⟩,by omega⟩
     ·rintro⟨⟨_,h2⟩,⟨h4,h3⟩,_,h5⟩;exact⟨h2,h3,h4,by omega⟩
   ·rw[zP (by rcases Int.lt_or_le (z1w p c.p) 0 with h|h;exact absurd (ho.1 h) hlt;exact h)];constructor
    ·intro h;cases h
    ·rintro⟨_,_,h4,_⟩;exact absurd (h4 c (zY0i ..)) hlt
  ·constructor
   ·intro h;exfalso;apply hb;unfold z5d;split
    ·rename_i hr;rw[zP hr]at h;cases h
    ·rename_i hr;rw[zN hr]at h;by_cases hc:zb c.o.lock=0
     ·exact hc
     ·rw[zP hc]at h;exact absurd h hc
   ·rintro⟨h2,_⟩;exact absurd (h2 c (zY0i ..)) hb
theorem zek{l:List Coin}(h:∀c∈l,z5d c=0):0<=zm l:=by
 induction l with
 |nil=>simp[zm]
 |cons d l ih =>have:=z49 (h d (zY0i ..));have:=ih λx hx=>h x (zY0h _ hx);simp only[zm];omega
theorem z0m(l:List Coin):z9 l=0↔CoinsOK l:=by
 unfold z9;by_cases h:(720:Int)<l.length
 ·rw[zP h];constructor
  ·intro h;cases h
  ·intro ok;have:=ok.len;omega
 ·rw[zN h,zpe l ⟨0,0⟩ 0 zX9 zX9];constructor
  ·rintro⟨h1,h2,_,h4⟩;exact⟨by omega,h1,h2,by omega⟩
  ·intro ok;refine⟨ok.good,ok.sorted,λc hc=>?_,by have:=ok.total;omega⟩;have:=z49 (ok.good c hc);unfold ltP;simp only;omega
theorem zaz{l:List Op}(h:zb l=0):l.length<=16:=by
 unfold zb at h;split at h
 ·cases h
 ·omega
end
section
open Go.Shelf
open Go.Lib (itoa atoiAll atoiSat)
structure GoErr where
 is:Bool
instance:Enc GoErr:=⟨λx=>[.e x.is],1,λ_=>rfl,λx y h=>by cases x;cases y;simpa using h⟩
section
variable {P:Program} {W:World} {F:Nat->Prop}
theorem zgo{x:List UInt8}{v:Value}(h:Rep W F (.s x) v):v=.string ⟨x.toArray⟩/\x.length<=9223372036854775807:=by cases h;exact⟨rfl,by assumption⟩
theorem z0aa{l:List (List UInt8)}{v:Value}(h:Rep W F (.l 1 (l.map z0a)) v):∃A c b o,v=.slice A l.length c/\l.length<=c/\c<=9223372036854775807/\(0<l.length->A=some ⟨b,o,none⟩/\F b)/\∀(j:Nat) x,l[j]?=some x->W.cell? ⟨b,o+j,none⟩=some (.string ⟨x.toArray⟩):=by
 cases h with
 |l _ _ A n c b o vs h0 h1 h2 h3 h4 h5 h6 =>subst h0;refine⟨A,c,b,o,by rw[zY0y],by simpa using h1,h2,by simpa using h4,λj x hx=>?_⟩;have e1:=h5 j 0 (z0a x) (.s x) (by rw[zY0m,hx];rfl) rfl;have e2:=h6 j 0 (z0a x) (.s x) (by rw[zY0m,hx];rfl) rfl;rw[(zgo e2).1]at e1;simpa using e1
theorem zaf{α β:Type}[Enc α][Enc β]{p:α->Prop}{f:α->β}{s:Sig}{fnum:Nat}(hpk:z4w s.args=false)(hen:En P fnum)
  (h:∀x,p x->∀W F us,zd1 F W->PKRs W F s.args (Enc.e x) us->Calls P fnum us.toArray W λr W'=>∃v,r=.returned v/\Below W.heap.size W W'/\∃us F',ResR W F W' s (Enc.e (f x)) v us F'):Meets P (spD p f) fnum s :=
 .mk hpk λW F ds args rs hF ha hs=>by obtain⟨x,hx,rfl,rfl⟩:=zh hs;exact .inl ⟨hen.run _ _,(h x hx W F args hF ha).mono λr W' ⟨v,h1,h2,h3⟩=>⟨v,h1,h2,h3⟩⟩
theorem zpf{α:Type}[Enc α]{p:α->Prop}{f:α->List UInt8}{pk:List PK}{fnum:Nat}(hpk:z4w pk=false)(hen:En P fnum)
  (h:∀x,p x->∀W F us,zd1 F W->PKRs W F pk (Enc.e x) us->(f x).length<=9223372036854775807/\Calls P fnum us.toArray W λr W'=>r=.returned (.string ⟨(f x).toArray⟩)/\Below W.heap.size W W'):Meets P (spD p f) fnum ⟨pk,[(false,[.scal])],true⟩ :=
 zaf hpk hen λx hx W F us hF ha=>(h x hx W F us hF ha).2.mono λr W' ⟨h1,h2⟩=>⟨_,h1,h2,zn9 rfl (.s _ (h x hx W F us hF ha).1)⟩
theorem zb0{α:Type}[Enc α]{p:α->Prop}{f:α->Int}{pk:List PK}{fnum:Nat}(hpk:z4w pk=false)(hen:En P fnum)
  (h:∀x,p x->∀W F us,zd1 F W->PKRs W F pk (Enc.e x) us->I64 (f x)/\Calls P fnum us.toArray W λr W'=>r=.returned (.int .i64 (f x))/\Below W.heap.size W W'):Meets P (spD p f) fnum ⟨pk,[(false,[.scal])],true⟩ :=
 zaf hpk hen λx hx W F us hF ha=>(h x hx W F us hF ha).2.mono λr W' ⟨h1,h2⟩=>⟨_,h1,h2,zn9 rfl (.i _ _ (wrap_i64 (h x hx W F us hF ha).1))⟩
theorem zrg{s:List PK}{l:Bool}{W':World}{d1 d2:Dt}{v1 v2:Value}(h1:d1.scal=true)(h2:d2.scal=true)(r1:Rep W' F d1 v1)(r2:Rep W' F d2 v2):∃us F',ResR W F W' ⟨s,[(false,[.scal]),(false,[.scal])],l⟩ [d1,d2] (.tuple #[v1,v2]) us F':=by
 refine⟨[v1,v2],F,znd ⟨[v1,v2],rfl,v1,[v2],[v1],[v2],rfl,rfl,⟨rfl,rfl⟩,v2,[],[v2],[],rfl,rfl,⟨rfl,rfl⟩,rfl,rfl⟩ ?_ ?_ rfl ⟨r1,r2,trivial⟩ λb hb=>.inl hb⟩
 ·intro c hc;simp only[zu,zY1x,zY2r,zY1b,zY1g,zY16,zY0g,zY1k,or_false]at hc;rcases hc with rfl|rfl<;>exact .inl rfl
 ·intro j d hj hd
  match j,hd with
  |0,hd=>simp only[zY05,zY00]at hd;subst hd;exact h1
  |1,hd=>simp only[zY05,zY2d,zY00]at hd;subst hd;exact h2
  |j+2,hd=>simp at hd
end
theorem z7a(n:Int)(h:I64 n):(itoa n).length<=20:=by
 obtain⟨h0,h1⟩:=h;by_cases hn:n<0
 ·rw[zne hn,zY08];have:=z5y 18 n.natAbs zX0;omega
 ·rw[znf hn];have:=z5y 18 n.toNat zX0;omega
noncomputable def z5e:zd:=spD (λ_:Int=>True) λn=>itoa n
theorem z7b(n:Int):z5e [I n]=some [.s (itoa n)]:=zi (f:=λn:Int=>itoa n) n trivial
theorem zpg:Meets Tryz.prog z5e 76 zW01 :=
 zpf rfl (z25 (fn:=Tryz.f76) ) λn _ W F us hF h=>by obtain⟨v,us,rfl,h1,h⟩:=z1c h;obtain rfl:=z1y h;obtain⟨rfl,hn⟩:=ze2 h1;refine⟨by have:=z7a n hn;omega,(Any.strconv_Itoa Tryz.lays171 n hn.1 hn.2 W hF.2.1).mono ?_⟩;rintro e w' ⟨rfl,k,os,rfl⟩;exact⟨rfl,Go.Lib.below_grow _ _ (zY0k _) k os⟩
noncomputable def zdm:zd:=spD (λx:List (List UInt8)×List UInt8=>x.1.length<=1000000/\(Go.Lib.join x.1 x.2).length<=1000000000) λx=>Go.Lib.join x.1 x.2
theorem zuj(l:List (List UInt8))(s:List UInt8)(h:l.length<=1000000/\(Go.Lib.join l s).length<=1000000000):zdm [.l 1 (l.map z0a),.s s]=some [.s (Go.Lib.join l s)] :=
 zi (p:=λx:List (List UInt8)×List UInt8=>x.1.length<=1000000/\(Go.Lib.join x.1 x.2).length<=1000000000) (f:=λx:List (List UInt8)×List UInt8=>Go.Lib.join x.1 x.2) (l,s) h
theorem z06w:Meets Tryz.prog zdm 107 zW00 :=
 zpf rfl (z25 (fn:=Tryz.f107) ) λ⟨l,s⟩ ⟨hl,hj⟩ W F us hF h=>by
  obtain⟨v,us,rfl,h1,h⟩:=z1c h;obtain⟨v2,us,rfl,h2,h⟩:=z1c h;obtain rfl:=z1y h;obtain⟨A,c,b,o,rfl,hc,hcm,hp,hcell⟩:=z0aa h1;obtain⟨rfl,-⟩:=zgo h2;simp only at hl hj hc hp hcell;refine⟨by simp only;omega,?_⟩;by_cases h0:l.length=0
  ·obtain rfl:l=[]:=zY0c h0;exact(Any.strings_Join_none Tryz.lays156 Tryz.Builder_Extra_156 A c ⟨s.toArray⟩ W).mono λe w' ⟨h1,h2⟩=>⟨h1,h2▸Below.refl _ _⟩
  ·obtain⟨rfl,hb⟩:=hp zX0;have hd:∀l:List (List UInt8),(l.map λx=>(⟨x.toArray⟩:ByteArray)).map (·.data.toList)=l:=λl=>by rw[zY3t];exact(List.map_congr_left λx _=>rfl).trans (List.map_id l)
   have key:=Any.strings_Join Tryz.lays156 Tryz.Builder_Extra_156 b o c (l.map λx=>(⟨x.toArray⟩:ByteArray)) ⟨s.toArray⟩ W (λj x hx=>by rw[zY0m]at hx;obtain⟨y,hy,rfl⟩:=zY0t.1 hx;exact hcell j y hy) (hF.1 b hb) (by rw[zY0y];omega) (by rw[zY0y];omega) (by rw[hd];simp only;omega)
   rw[hd,zY0y]at key;exact key
end
section
open Go.Shelf
open Go.Lib (itoa atoiAll atoiSat)
theorem z0fy(x:List UInt8):(⟨x.toArray⟩:ByteArray).size=x.length:=by show x.toArray.size=x.length;simp
section
variable {P:Program} {W:World} {F:Nat->Prop}
theorem zwy(t:Nat)(L:List (List UInt8))(hx:∀x∈L,x.length<=9223372036854775807)(hL:L.length<=9223372036854775807) :
  Rep (W.alloc (.cells (L.map λx=>Value.string ⟨x.toArray⟩).toArray t)) (λb=>F b\/b=W.heap.size) (.l 1 (L.map z0a)) (.slice (some ⟨W.heap.size,0,none⟩) L.length L.length):=by
 refine .l 1 _ _ _ _ W.heap.size 0 (λi _=>.string ⟨((L[i]?).getD []).toArray⟩) (by rw[zY0y]) (by rw[zY0y];exact zY0k _) hL (λx hx=>?_) (λ_=>⟨rfl,.inr rfl⟩) (λi j x d hi hj=>?_) (λi j x d hi hj=>?_)
 ·obtain⟨y,_,rfl⟩:=zY2k.1 hx;rfl
 ·rw[zY0m]at hi;obtain⟨y,hy,rfl⟩:=zY0t.1 hi
  match j,hj with
  |0,hj =>have hc:(W.alloc (.cells (L.map λx=>Value.string ⟨x.toArray⟩).toArray t)).heap[W.heap.size]?=some (.cells (L.map λx=>Value.string ⟨x.toArray⟩).toArray t):=heap_alloc_new W _;rw[hy];simp only[World.cell?,hc,zY0z,Nat.mul_one,zY28,List.getElem?_toArray,zY0m,hy,zY1i,zY1f];rfl
 ·rw[zY0m]at hi;obtain⟨y,hy,rfl⟩:=zY0t.1 hi
  match j,hj with
  |0,hj =>simp only[z0a,zY05,zY00]at hj;subst hj;rw[hy];exact .s y (hx y (zY06 hy))
theorem z0ab{s:List PK}{l:Bool}{t:Nat}{L:List (List UInt8)}(hx:∀x∈L,x.length<=9223372036854775807)(hL:L.length<=9223372036854775807) :
  ∃us F',ResR W F (W.alloc (.cells (L.map λx=>Value.string ⟨x.toArray⟩).toArray t)) ⟨s,[(false,[.pure])],l⟩ (Enc.e L) (.slice (some ⟨W.heap.size,0,none⟩) L.length L.length) us F':=by
 refine⟨[_],λb=>F b\/b=W.heap.size,znd ⟨rfl,rfl⟩ ?_ ?_ rfl ⟨zwy t L hx hL,trivial⟩ λb hb=>?_⟩
 ·intro c hc;simp only[zu,zY1x,zY2r,zY1b,zY0g,zY1k,or_false]at hc;exact .inr hc
 ·intro j d hj hd
  match j,hj with
  |0,hj=>cases hj
  |j+1,hj=>simp[zu]at hj
 ·rcases hb with hb|rfl
  ·exact .inl hb
  ·exact .inr ⟨zY0k _,by simp⟩
end
noncomputable def z6x:zd:=spD (λx:List UInt8=>x.length<=1000000/\(∀b∈x,b.toNat<128)/\(Go.Lib.fields x).length<=1000000/\∀y∈Go.Lib.fields x,y.length<=1000000) λx=>Go.Lib.fields x
theorem zph(x:List UInt8)(h:x.length<=1000000/\(∀b∈x,b.toNat<128)/\(Go.Lib.fields x).length<=1000000/\∀y∈Go.Lib.fields x,y.length<=1000000):z6x [.s x]=some [.l 1 ((Go.Lib.fields x).map z0a)] :=
 zi (p:=λx:List UInt8=>x.length<=1000000/\(∀b∈x,b.toNat<128)/\(Go.Lib.fields x).length<=1000000/\∀y∈Go.Lib.fields x,y.length<=1000000) (f:=λx:List UInt8=>Go.Lib.fields x) x h
theorem zzq:Meets Tryz.prog z6x 124 zW16 :=
 zaf rfl (z25 (fn:=Tryz.f124) ) λs ⟨hs,ha,hn,hy⟩ W F us hF h=>by obtain⟨v,us,rfl,h1,h⟩:=z1c h;obtain rfl:=z1y h;obtain⟨rfl,-⟩:=zgo h1;refine(Any.strings_Fields_laid Tryz.lays157 ⟨s.toArray⟩ W (by rw[z0fy];omega) (λj b hb=>ha b (zY06 hb)) hF.2.2.2.2).mono ?_;rintro e w' ⟨rfl,rfl⟩;refine⟨_,rfl,(Below.refl _ _).alloc (zY0k _) _,?_⟩;have e:Go.Lib.fields (⟨s.toArray⟩:ByteArray).data.toList=Go.Lib.fields s:=rfl;rw[e];exact z0ab (λx hx=>by have:=hy x hx;omega) zX0
def zel(s:List UInt8):Int×GoErr:=match atoiAll s with
 |.ok v=>(v,⟨false⟩)
 |.range=>(atoiSat s,⟨true⟩)
 |_=>(0,⟨true⟩)
end
section
open Go.Shelf
open Go.Lib (itoa atoiAll atoiSat)
end
theorem zti:∀ {l:List Out},z2l l=0->∀o∈l,z6w o=0
 | [],_,o,ho=>by cases ho
 |x::l,h,o,ho=>by
  rw[z2l]at h;split at h
  ·rename_i hb;exact absurd h hb
  ·rename_i hb;rcases zY0g.1 ho with rfl|ho
   ·exact zY0u.1 hb
   ·exact zti h o ho
theorem z06x{o:Out}(h:z6w o=0):1<=o.coin/\zb o.lock=0:=by
 unfold z6w at h;split at h
 ·cases h
 ·exact⟨by omega,h⟩
theorem zwz:∀(l:List Int) (s:Int),(z9u l s).2=0->∀x∈l,0<=x/\x<=1000000000
 | [],_,_,x,hx=>by cases hx
 |y::l,s,h,x,hx=>by
  unfold z9u at h;by_cases hb:0<=y/\y<=1000000000
  ·rw[zP hb]at h;by_cases hf:1000000000<s+y
   ·rw[zP hf]at h;cases h
   ·rw[zN hf]at h;rcases zY0g.1 hx with rfl|hx
    ·exact hb
    ·exact zwz l _ h x hx
  ·rw[zN hb]at h;cases h
structure TxOK(t:Tx):Prop where
 ins:t.ins.length<=6
 outs:t.outs.length<=6
 some:0<t.outs.length
 head:z2m t=0
 insOk:z2w t.ins []=0
 good:∀o∈t.outs,1<=o.coin/\o.coin<=1000000000/\zb o.lock=0
theorem z3t{t:Tx}(h:zo t=0):TxOK t:=by
 unfold zo at h;split at h
 ·rename_i hb;exact absurd h hb
 rename_i h1;split at h
 ·rename_i hb;exact absurd h hb
 rename_i h2;split at h
 ·rename_i hb;exact absurd h hb
 rename_i h3;have h1:z2m t=0:=zY0u.1 h1;have h3:z2l t.outs=0:=zY0u.1 h3;have h1':=h1;unfold z2m at h1';split at h1'
 ·cases h1'
 split at h1'
 ·cases h1'
 refine⟨by omega,by omega,by omega,h1,zY0u.1 h2,λo ho=>?_⟩;have a:=z06x (zti h3 o ho);have b:=zwz _ _ h o.coin (zY2k.2 ⟨o,ho,rfl⟩);exact⟨a.1,b.2,a.2⟩
theorem zx0{x:In}(h:z53 x=0):1<=x.p.tx/\x.p.tx<=120/\0<=x.p.at_/\x.p.at_<6/\zb x.key=0:=by
 unfold z53 at h;split at h
 ·cases h
 ·exact⟨by omega,by omega,by omega,by omega,h⟩
theorem znj:∀ {l seen:List In},z2w l seen=0->∀x∈l,z53 x=0
 | [],_,_,_,h=>by cases h
 |y::l,seen,h,x,hx=>by
  rw[z2w]at h;split at h
  ·rename_i hb;exact absurd h hb
  ·rename_i hb;split at h
   ·cases h
   ·rcases zY0g.1 hx with rfl|hx
    ·exact zY0u.1 hb
    ·exact znj h x hx
theorem zm5{h:Int}:∀ {l:List Tx} {i:Nat},z79 h l i=0->∀t∈l,zo t=0
 | [],_,_,t,ht=>by cases ht
 |y::l,i,e,t,ht=>by
  rw[z79]at e;by_cases h1:zo y≠0
  ·rw[zP h1]at e;exact absurd e h1
  ·rw[zN h1]at e;split at e
   ·cases e
   ·rcases zY0g.1 ht with rfl|ht
    ·simpa using h1
    ·exact zm5 e t ht
structure BlkOK(b:Block):Prop where
 range:¬z31 b
 len:b.txs.length<=4
 some:0<b.txs.length
 go:z79 b.height b.txs 0=0
 each:∀t∈b.txs,zo t=0
theorem z1b{b:Block}(h:zf b=0):BlkOK b:=by
 unfold zf at h;by_cases h0:z60 b=0
 ·rw[zN (λk=>k h0)]at h;unfold z60 at h0;split at h0
  ·cases h0
  split at h0
  ·cases h0
  split at h0
  ·cases h0
  exact⟨by assumption,by omega,by omega,h,zm5 h⟩
 ·rw[zP h0]at h;exact absurd h h0
section
open Go.Lib (itoa)
def z43(x:In):List UInt8:=[105,110,32]++itoa x.p.tx++[32]++itoa x.p.at_++[58]++(z3v x.key).1++[10]
def z32(x:Out):List UInt8:=[111,117,116,32]++itoa x.coin++[58]++(z3v x.lock).1++[10]
def z5f(t:Tx):List UInt8:=[116,120,32]++itoa t.height++[10]
def z0t(t:Tx):List UInt8:=z5f t++t.ins.flatMap z43++t.outs.flatMap z32
def z0q(t:Tx):List UInt8×Int:=if zo t≠0 then([],zo t)else(z0t t,0)
theorem zdn(l:List Op):(z3v l).1.length<=144:=by
 unfold z3v;by_cases h:zb l=0
 ·rw[zN (λk=>k h)];exact zce h
 ·rw[zP h];simp
def z5j(b:Block):List UInt8:=[98,108,111,99,107,32]++itoa b.parent++[32]++itoa b.height++[32]++itoa b.work++[32]++itoa b.nonce++[10]
def z1m(b:Block):List UInt8:=z5j b++b.txs.flatMap z0t
def z18(b:Block):List UInt8×Int:=if zf b≠0 then([],zf b)else(z1m b,0)
theorem zdo{α:Type}(f:α->List UInt8)(m:Nat):∀l:List α,(∀x∈l,(f x).length<=m)->(l.flatMap f).length<=m*l.length
 | [],_=>by simp
 |x::r,h=>by have h1:=h x zX4;have h2:=zdo f m r λy hy=>h y (zY0h _ hy);simp only[zY1x,zY04,zY08,Nat.mul_add,Nat.mul_one];omega
theorem z5g{n:Int}(h0: -1000000000<=n)(h1:n<=1000000000):(itoa n).length<=20:=by
 by_cases hn:n<0
 ·rw[zne hn,zY08];have:=z5y 18 n.natAbs zX0;omega
 ·rw[znf hn];have:=z5y 18 n.toNat zX0;omega
theorem ztj{x:In}(h:z53 x=0):(z43 x).length<=200:=by obtain⟨h1,h2,h3,h4,h5⟩:=zx0 h;have:=z5g (n:=x.p.tx) zX0 zX0;have:=z5g (n:=x.p.at_) zX0 zX0;have:=zdn x.key;simp[z43];omega
theorem zpi{x:Out}(h1:1<=x.coin)(h2:x.coin<=1000000000):(z32 x).length<=200:=by have:=z5g (n:=x.coin) zX0 zX0;have:=zdn x.lock;simp[z32];omega
theorem zip{t:Tx}(h:z2m t=0):0<=t.height/\t.height<=1000:=by
 unfold z2m at h;split at h
 ·cases h
 split at h
 ·cases h
 split at h
 ·cases h
 omega
theorem zk2{t:Tx}(h:zo t=0):(z0t t).length<=2500:=by have ok:=z3t h;have h0:=zip ok.head;have h1:=z5g (n:=t.height) zX0 zX0;have h2:=zdo z43 200 t.ins λx hx=>ztj (znj ok.insOk x hx);have h3:=zdo z32 200 t.outs λx hx=>zpi (ok.good x hx).1 (ok.good x hx).2.1;have h4:=ok.ins;have h5:=ok.outs;simp only[z0t,z5f,zY04,zY08,zY0p];omega
theorem zpj(t:Tx):(z0q t).1.length<=2500:=by
 unfold z0q;by_cases h:zo t=0
 ·rw[zN (λk=>k h)];exact zk2 h
 ·rw[zP h];simp
theorem zpk{t:Tx}(h:zo t=0):z0q t=(z0t t,0):=by unfold z0q;rw[zN (λk=>k h)]
theorem zzr{b:Block}(h:zf b=0):z18 b=(z1m b,0):=by unfold z18;rw[zN (λk=>k h)]
theorem z03p{b:Block}(h:zf b=0):(z1m b).length<=20000:=by have ok:=z1b h;have hr:=ok.range;unfold z31 at hr;have h1:=z5g (n:=b.parent) zX0 zX0;have h2:=z5g (n:=b.height) zX0 zX0;have h3:=z5g (n:=b.work) zX0 zX0;have h4:=z5g (n:=b.nonce) zX0 zX0;have h5:=zdo z0t 2500 b.txs λx hx=>zk2 (ok.each x hx);have h6:=ok.len;simp only[z1m,z5j,zY04,zY08,zY0p];omega
theorem zzs(b:Block):(z18 b).1.length<=20000:=by
 unfold z18;by_cases h:zf b=0
 ·rw[zN (λk=>k h)];exact z03p h
 ·rw[zP h];simp
end
section
open Go.Lib (itoa atoiAll)
def z06y:List (List UInt8)->Option (List Int)
 | []=>some []
 |w::r=>match zr7 w with
  |none=>none
  |some n=>(z06y r).map λl=>n::l
def tIn:List UInt8:=[105,110]
def tOut:List UInt8:=[111,117,116]
def tTx:List UInt8:=[116,120,32]
def z0da(o:List Out)(i:List In)(x:List UInt8)(n:List Int):Option (List Out×List In) :=
 if(zp6 (Go.Lib.cut x [58]).2.1).2≠0 then none else if Go.Lib.contains x [58]=false then none else
 if(z84 32 (Go.Lib.cut x [58]).1).headD []=tIn/\n.length=2/\o.length=0 then some (o,i++[⟨⟨n.getD 0 0,n.getD 1 0⟩,(zp6 (Go.Lib.cut x [58]).2.1).1⟩])else
 if(z84 32 (Go.Lib.cut x [58]).1).headD []=tOut/\n.length=1 then some (o++[⟨n.getD 0 0,(zp6 (Go.Lib.cut x [58]).2.1).1⟩],i)else none
def z0ac(o:List Out)(i:List In)(x:List UInt8):Option (List Out×List In):=match z06y ((z84 32 (Go.Lib.cut x [58]).1).drop 1)with
 |none=>none
 |some n=>z0da o i x n
def zTx:Tx:=⟨0,[],[]⟩
def z022(n:Int)(o:List Out)(i:List In):List (List UInt8)->Tx×Int
 | []=>if zo ⟨n,i,o⟩≠0 then(zTx,zo ⟨n,i,o⟩)else(⟨n,i,o⟩,0)
 |x::r=>match z0ac o i x with
  |none=>(zTx,1)
  |some p=>z022 n p.1 p.2 r
def z06z(s:List UInt8):Tx×Int:=if 4000<(s.length:Int)then(zTx,2)else
 if Go.Lib.hasSuffix s [10]=false then(zTx,1)else
 if Go.Lib.hasPrefix ((z84 10 (Go.Lib.trimSuffix s [10])).headD []) tTx=false then(zTx,1)else
 match zr7 (Go.Lib.trimPrefix ((z84 10 (Go.Lib.trimSuffix s [10])).headD []) tTx)with
 |none=>(zTx,1)
 |some n=>z022 n [] [] ((z84 10 (Go.Lib.trimSuffix s [10])).drop 1)
end
section
open Go.Lib (itoa atoiAll)
end
def z47(n:Int):Prop:=-1000000<=n/\n<=1000000
def z1n(b:Bool):Int:=if b=true then 1 else 0
def z1j(x:Int):Int:=(x*7919+104729).tmod 1000003
def zb1(n:Int):Int:=(z1j (z1j (z1j (n+1000000)))).tmod 1000001
def z9v(s:List Int)(n:Int):Option (List Int):=if(s.length:Int)=16\/n < -1000000\/1000000<n then none else some (s++[n])
def z5v(s:List Int):Option (Int×List Int):=match s.getLast? with
 |none=>none
 |some a=>some (a,s.dropLast)
def z21(s:List Int)(f:Int->Int):Option (List Int):=(z5v s).bind λp=>z9v p.2 (f p.1)
def z1u(s:List Int)(f:Int->Int->Int):Option (List Int):=(z5v s).bind λp=>(z5v p.2).bind λq=>z9v q.2 (f q.1 p.1)
def z3d(h:Int)(s:List Int)(o:Op):Option (List Int) :=
 if o.kind=1 then z9v s o.n
 else if o.kind=2 then(z5v s).bind λp=>(z9v p.2 p.1).bind λs=>z9v s p.1
 else if o.kind=3 then(z5v s).bind λp=>(z5v p.2).bind λq=>(z9v q.2 p.1).bind λs=>z9v s q.1
 else if o.kind=4 then(z5v s).bind λp=>some p.2
 else if o.kind=5 then z1u s λa b=>a+b
 else if o.kind=6 then z1u s λa b=>a-b
 else if o.kind=7 then z1u s λa b=>z1n (decide (a=b))
 else if o.kind=8 then z1u s λa b=>z1n (decide (a<b))
 else if o.kind=10 then z1u s λa b=>z1n (decide (a≠0)&&decide (b≠0))
 else if o.kind=9 then z21 s λa=>z1n (decide (a=0))
 else if o.kind=13 then z21 s zb1
 else if o.kind=11 then(z5v s).bind λp=>if p.1=0 then none else some p.2
 else if o.kind=12 then z9v s h
 else some s
def z3a(h:Int):List Int->List Op->Option (List Int)
 |s,[]=>some s
 |s,o::r=>match z3d h s o with
  |none=>none
  |some s'=>z3a h s' r
def z1z(s:List Int):Prop:=s.length<=16/\∀x∈s,z47 x
instance(n:Int):Decidable (z47 n):=by unfold z47;infer_instance
def z4p(l:List Op)(s:List Int)(h:Int):List Int×Int :=
 if zb l≠0 then([],zb l)
 else if h<0\/1000<h\/16<(s.length:Int)then([],3)
 else if ∀x∈s,z47 x then(match z3a h s l with|none=>([],8)|some s'=>(s',0))else([],3)
theorem zfe{s:List Int}(h:s.length=0):z5v s=none:=by rw[zY0c h];rfl
theorem zff{s:List Int}(h:s.length≠0):∃a t,z5v s=some (a,t)/\s=t++[a]/\(s.length:Int)=t.length+1/\s[((s.length:Int)-1).toNat]?=some a/\s.take ((s.length:Int)-1).toNat=t:=by
 rcases List.eq_nil_or_concat s with rfl|⟨t,a,rfl⟩
 ·exact absurd rfl h
 ·refine⟨a,t,by simp[z5v],by simp,by simp,?_,?_⟩
  ·rw[show(((t.concat a).length:Int)-1).toNat=t.length by simp];simp
  ·rw[show(((t.concat a).length:Int)-1).toNat=t.length by simp];simp
theorem z2o{s:List Int}{n:Int}(h:(s.length:Int)=16\/n < -1000000\/1000000<n):z9v s n=none:=zP h
theorem z0n{s:List Int}{n:Int}(h1:¬(s.length:Int)=16)(h2:¬n < -1000000)(h3:¬1000000<n):z9v s n=some (s++[n]):=zN zX0
theorem z8j{s s':List Int}{n:Int}(hs:z1z s)(h:z9v s n=some s'):z1z s':=by
 unfold z9v at h;split at h
 ·cases h
 ·rename_i hc;cases h;obtain⟨h1,h2⟩:=hs;refine⟨by simp;omega,λx hx=>?_⟩;rcases zY13.1 hx with hx|hx
  ·exact h2 x hx
  ·simp only[zY12]at hx;subst hx;exact⟨by omega,by omega⟩
theorem z62{s t:List Int}{a:Int}(hs:z1z s)(h:z5v s=some (a,t)):z47 a/\z1z t:=by
 rcases List.eq_nil_or_concat s with rfl|⟨u,b,rfl⟩
 ·cases h
 ·have:z5v (u.concat b)=some (b,u):=by simp[z5v]
  rw[this]at h;cases h;obtain⟨h1,h2⟩:=hs;exact⟨h2 _ zX4,by simp at h1;omega,λx hx=>h2 x (by simp[hx])⟩
theorem z7v{α:Type}{x:Option α}{f:α->Option (List Int)}{s':List Int}(h:x.bind f=some s'):∃y,x=some y/\f y=some s':=zY01.1 h
theorem zgp{s s':List Int}{f:Int->Int->Int}(hs:z1z s)(h:z1u s f=some s'):z1z s':=by obtain⟨⟨a,t⟩,h1,h⟩:=z7v h;obtain⟨⟨b,u⟩,h2,h⟩:=z7v h;exact z8j (z62 (z62 hs h1).2 h2).2 h
theorem z023{s s':List Int}{f:Int->Int}(hs:z1z s)(h:z21 s f=some s'):z1z s':=by obtain⟨⟨a,t⟩,h1,h⟩:=z7v h;exact z8j (z62 hs h1).2 h
theorem zhw{h:Int}{s s':List Int}{o:Op}(hs:z1z s)(he:z3d h s o=some s'):z1z s':=by
 unfold z3d at he;by_cases k1:o.kind=1
 ·rw[zP k1]at he;exact z8j hs he
 rw[zN k1]at he;by_cases k2:o.kind=2
 ·rw[zP k2]at he;obtain⟨⟨a,t⟩,h1,he⟩:=z7v he;obtain⟨u,h2,he⟩:=z7v he;exact z8j (z8j (z62 hs h1).2 h2) he
 rw[zN k2]at he;by_cases k3:o.kind=3
 ·rw[zP k3]at he;obtain⟨⟨a,t⟩,h1,he⟩:=z7v he;obtain⟨⟨b,u⟩,h2,he⟩:=z7v he;obtain⟨v,h3,he⟩:=z7v he;exact z8j (z8j (z62 (z62 hs h1).2 h2).2 h3) he
 rw[zN k3]at he;by_cases k4:o.kind=4
 ·rw[zP k4]at he;obtain⟨⟨a,t⟩,h1,he⟩:=z7v he;cases he;exact(z62 hs h1).2
 rw[zN k4]at he;by_cases k5:o.kind=5
 ·rw[zP k5]at he;exact zgp hs he
 rw[zN k5]at he;by_cases k6:o.kind=6
 ·rw[zP k6]at he;exact zgp hs he
 rw[zN k6]at he;by_cases k7:o.kind=7
 ·rw[zP k7]at he;exact zgp hs he
 rw[zN k7]at he;by_cases k8:o.kind=8
 ·rw[zP k8]at he;exact zgp hs he
 rw[zN k8]at he;by_cases k10:o.kind=10
 ·rw[zP k10]at he;exact zgp hs he
 rw[zN k10]at he;by_cases k9:o.kind=9
 ·rw[zP k9]at he;exact z023 hs he
 rw[zN k9]at he;by_cases k13:o.kind=13
 ·rw[zP k13]at he;exact z023 hs he
 rw[zN k13]at he;by_cases k11:o.kind=11
 ·rw[zP k11]at he;obtain⟨⟨a,t⟩,h1,he⟩:=z7v he;by_cases ha:a=0
  ·have he:(if a=0 then none else some t)=some s':=he;rw[zP ha]at he;cases he
  ·have he:(if a=0 then none else some t)=some s':=he;rw[zN ha]at he;cases he;exact(z62 hs h1).2
 rw[zN k11]at he;by_cases k12:o.kind=12
 ·rw[zP k12]at he;exact z8j hs he
 rw[zN k12]at he;cases he;exact hs
def zgq(r:List Int×Int):Bool×Int:=if r.2=3 then(false,r.2)else if r.2=0 then(if(r.1.length:Int)=1 then(decide (r.1.headD 0≠0),0)else(false,0))else(false,0)
def z2e(l k:List Op)(h:Int):Bool×Int :=
 if zb l≠0 then(false,zb l)else if zb k≠0 then(false,zb k)else
  if(z4p k [] h).2=0 then zgq (z4p l (z4p k [] h).1 h)else zgq (z4p k [] h)
section
attribute [local irreducible] z09 spD z1w
noncomputable def z4a:zd:=spD (λ_:Bool=>True) λb=>z1n b
noncomputable def zb2:zd:=spD z47 zb1
noncomputable def zgr:zd:=spD (λx:Int×Int=>z47 x.1/\z47 x.2) λx=>x.1+x.2
noncomputable def zgs:zd:=spD (λx:Int×Int=>z47 x.1/\z47 x.2) λx=>x.1-x.2
noncomputable def zem:zd:=spD (λ_:Int×Int=>True) λx=>z1n (decide (x.1=x.2))
noncomputable def zen:zd:=spD (λ_:Int×Int=>True) λx=>z1n (decide (x.1<x.2))
noncomputable def zgt:zd:=spD (λ_:Int×Int=>True) λx=>z1n (decide (x.1≠0)&&decide (x.2≠0))
noncomputable def zgu:zd:=spD (λ_:Int=>True) λx=>z1n (decide (x=0))
theorem z7j(b:Bool):z4a [.b b]=some [I (z1n b)]:=zi (f:=λb=>z1n b) b trivial
theorem ziq(n:Int)(h:z47 n):zb2 [I n]=some [I (zb1 n)]:=zi (f:=zb1) n h
theorem z03q(a b:Int)(h:z47 a/\z47 b):zgr [I a,I b]=some [I (a+b)]:=zi (p:=λx:Int×Int=>z47 x.1/\z47 x.2) (f:=λx:Int×Int=>x.1+x.2) (a,b) h
theorem z03r(a b:Int)(h:z47 a/\z47 b):zgs [I a,I b]=some [I (a-b)]:=zi (p:=λx:Int×Int=>z47 x.1/\z47 x.2) (f:=λx:Int×Int=>x.1-x.2) (a,b) h
theorem zzt(a b:Int):zem [I a,I b]=some [I (z1n (decide (a=b)))]:=zi (f:=λx:Int×Int=>z1n (decide (x.1=x.2))) (a,b) trivial
theorem zzu(a b:Int):zen [I a,I b]=some [I (z1n (decide (a<b)))]:=zi (f:=λx:Int×Int=>z1n (decide (x.1<x.2))) (a,b) trivial
theorem z03s(a b:Int):zgt [I a,I b]=some [I (z1n (decide (a≠0)&&decide (b≠0)))]:=zi (f:=λx:Int×Int=>z1n (decide (x.1≠0)&&decide (x.2≠0))) (a,b) trivial
theorem zpl(a:Int):zgu [I a]=some [I (z1n (decide (a=0)))]:=zi (f:=λx:Int=>z1n (decide (x=0))) a trivial
def zx1:T:=zB .add 0 1 (.ret [2])
def zx2:T:=zB .sub 0 1 (.ret [2])
def zrh:T:=zB .eql 0 1 (zC 36 [2] (.ret [3]))
def zri:T:=zB .lss 0 1 (zC 36 [2] (.ret [3]))
def zx3:T:=zQ .neq 0 (zI 0) 2 (zB .neq 1 (zI 0) (zC 36 [3] (.ret [4]))) (zC 36 [.c (.b false)] (.ret [3]))
def zx4:T:=zB .eql 0 (zI 0) (zC 36 [1] (.ret [2]))
def zk3:T:=.ite 0 (.ret [zI 1]) (.ret [zI 0])
def zcs:T:=zB .add 0 (zI 1000000) (.loop [1,zI 0] (zQ .lss 3 (zI 3) 4 (zB .mul 2 (zI 7919) (zB .add 5 (zI 104729) (zB .rem 6 (zI 1000003) (zUa 3 7 8)))) (zB .rem 2 (zI 1000001) (.ret [5]))))
theorem zfg:Meets Tryz.prog z4a 181 zW01:=by
 refine zg (sp:=(zx [])) (sigs:=z02) (cut:=[]) (hints:=[]) (fn:=Tryz.f181) (t:=zk3) ?_ ?_
 ·exact(zq (L:=[]) trivial)
 ·rintro ds rs-h;obtain⟨b,-,rfl,rfl⟩:=zh h;clear h;refine⟨⟨1,?_⟩,z0b rfl⟩;show den _ _ zk3 [.b b] []=ret (z1n b);unfold zk3 z1n;repeat'(first|exact z5 rfl rfl|refine tB (λh=>?_) λh=>?_|fail)
theorem z0fz:Meets Tryz.prog zgr 178 zW00:=by
 refine zg (sp:=(zx [])) (sigs:=z02) (cut:=[]) (hints:=[]) (fn:=Tryz.f178) (t:=zx1) ?_ ?_
 ·exact(zq (L:=[]) trivial)
 ·rintro ds rs-h;obtain⟨⟨a,b⟩,⟨⟨h1,h2⟩,h3,h4⟩,rfl,rfl⟩:=zh h;clear h;simp only at h1 h2 h3 h4;refine⟨⟨1,?_⟩,z0b rfl⟩;show den _ _ zx1 [I a,I b] []=ret (a+b);unfold zx1;repeat'(first|refine dq1 ?_|exact z5 rfl rfl|fail)
theorem z0g0:Meets Tryz.prog zgs 179 zW00:=by
 refine zg (sp:=(zx [])) (sigs:=z02) (cut:=[]) (hints:=[]) (fn:=Tryz.f179) (t:=zx2) ?_ ?_
 ·exact(zq (L:=[]) trivial)
 ·rintro ds rs-h;obtain⟨⟨a,b⟩,⟨⟨h1,h2⟩,h3,h4⟩,rfl,rfl⟩:=zh h;clear h;simp only at h1 h2 h3 h4;refine⟨⟨1,?_⟩,z0b rfl⟩;show den _ _ zx2 [I a,I b] []=ret (a-b);unfold zx2;repeat'(first|refine dq1 ?_|exact z5 rfl rfl|fail)
theorem z0db:Meets Tryz.prog zem 180 zW00:=by
 refine zg (sp:=(zx [(36,z4a)])) (sigs:=z02) (cut:=[]) (hints:=[]) (fn:=Tryz.f180) (t:=zrh) ?_ ?_
 ·exact(zq (L:=[(36,z4a)]) ⟨z7 rfl zfg,trivial⟩)
 ·rintro ds rs-h;obtain⟨⟨a,b⟩,-,rfl,rfl⟩:=zh h;clear h;refine⟨⟨1,?_⟩,z0b rfl⟩;show den _ _ zrh [I a,I b] []=ret (z1n (decide (a=b)));unfold zrh;repeat'(first|refine dq1 ?_|refine dqk rfl (z7j _) ?_|exact z5 rfl rfl|fail)
theorem z0dc:Meets Tryz.prog zen 182 zW00:=by
 refine zg (sp:=(zx [(36,z4a)])) (sigs:=z02) (cut:=[]) (hints:=[]) (fn:=Tryz.f182) (t:=zri) ?_ ?_
 ·exact(zq (L:=[(36,z4a)]) ⟨z7 rfl zfg,trivial⟩)
 ·rintro ds rs-h;obtain⟨⟨a,b⟩,-,rfl,rfl⟩:=zh h;clear h;refine⟨⟨1,?_⟩,z0b rfl⟩;show den _ _ zri [I a,I b] []=ret (z1n (decide (a<b)));unfold zri;repeat'(first|refine dq1 ?_|refine dqk rfl (z7j _) ?_|exact z5 rfl rfl|fail)
theorem z0g1:Meets Tryz.prog zgu 184 zW01:=by
 refine zg (sp:=(zx [(36,z4a)])) (sigs:=z02) (cut:=[]) (hints:=[]) (fn:=Tryz.f184) (t:=zx4) ?_ ?_
 ·exact(zq (L:=[(36,z4a)]) ⟨z7 rfl zfg,trivial⟩)
 ·rintro ds rs-h;obtain⟨a,-,rfl,rfl⟩:=zh h;clear h;refine⟨⟨1,?_⟩,z0b rfl⟩;show den _ _ zx4 [I a] []=ret (z1n (decide (a=0)));unfold zx4;repeat'(first|refine dq1 ?_|refine dqk rfl (z7j _) ?_|exact z5 rfl rfl|fail)
theorem z0g2:Meets Tryz.prog zgt 183 zW00:=by
 refine zg (sp:=(zx [(36,z4a)])) (sigs:=z02) (cut:=[]) (hints:=[]) (fn:=Tryz.f183) (t:=zx3) ?_ ?_
 ·exact(zq (L:=[(36,z4a)]) ⟨z7 rfl zfg,trivial⟩)
 ·rintro ds rs-h;obtain⟨⟨a,b⟩,-,rfl,rfl⟩:=zh h;clear h;refine⟨⟨1,?_⟩,z0b rfl⟩;show den _ _ zx3 [I a,I b] []=ret (z1n (decide (a≠0)&&decide (b≠0)));unfold zx3;repeat'(first|refine dq1 ?_|fail)
  refine z3r rfl (λh=>?_) (λh=>?_)
  ·rw[decide_eq_true h,zY39];repeat'(first|refine dq1 ?_|refine dqk rfl (z7j _) ?_|exact z5 rfl rfl|fail)
  ·rw[decide_eq_false h,zY3o];repeat'(first|refine dqk rfl (z7j _) ?_|exact z5 rfl rfl|fail)
theorem zhx{x:Int}(h0:0<=x):0<=z1j x/\z1j x<1000003:=by unfold z1j;exact⟨zY3u _ zX0,Int.tmod_lt_of_pos _ zX0⟩
theorem z070:Meets Tryz.prog zb2 185 zW01:=by
 refine zg (sp:=(zx [])) (sigs:=z02) (cut:=[]) (hints:=[⟨3,[.t 0,.t 5]⟩]) (fn:=Tryz.f185) (t:=zcs) ?_ ?_
 ·exact(zq (L:=[]) trivial)
 ·rintro ds rs-h;obtain⟨n,⟨h1,h2⟩,rfl,rfl⟩:=zh h;clear h;refine⟨⟨5,?_⟩,z0b rfl⟩;show den _ _ zcs [I n] []=ret (zb1 n);have b1:=zhx (x:=n+1000000) zX0;have b2:=zhx b1.1;have b3:=zhx b2.1;unfold zcs;repeat'(first|refine dq1 ?_|fail)
  refine zjp (λ(s:Nat×Int)=>[I s.2,I s.1]) (λs=>(s=(0,n+1000000)\/s=(1,z1j (n+1000000))\/s=(2,z1j (z1j (n+1000000)))\/s=(3,z1j (z1j (z1j (n+1000000)))))) (λs=>3-s.1) (0,n+1000000) rfl (.inl rfl) zX0 ?_;have go:∀(again:List Dt->Option (List Dt)) (i:Int) (x:Int) (nx:Int),0<=x->x<=3000000->nx=z1j x->i<3->0<=i->again [I nx,I (i+1)]=ret (zb1 n)->den (λci=>([]:List zd).getD ci λ_=>none) 5 (match zcs with | .W _ _ (.loop _ b)=>b|_=>.ret []) [I n,I (n+1000000),I x,I i] [again]=ret (zb1 n):=by intro again i x nx hx0 hx1 hnx hi hi0 hag;subst hnx;unfold z1j at hag;show den _ _ _ _ _=_;simp only[zcs];repeat'(first|refine dq1 ?_|refine dqT ?_|refine z4 (zgk rfl rfl zX0) ?_|refine z4 (zr3 rfl rfl zX9) ?_|exact z6 rfl rfl hag|fail)
  rintro s hs again hag;rcases hs with rfl|rfl|rfl|rfl
  ·exact go again 0 _ _ zX0 zX0 rfl zX0 zX0 (hag (1,z1j (n+1000000)) (.inr (.inl rfl)) zX4)
  ·exact go again 1 _ _ zX0 zX0 rfl zX0 zX0 (hag (2,z1j (z1j (n+1000000))) (.inr (.inr (.inl rfl))) zX4)
  ·exact go again 2 _ _ zX0 zX0 rfl zX0 zX0 (hag (3,z1j (z1j (z1j (n+1000000)))) (.inr (.inr (.inr rfl))) zX4)
  ·unfold zb1;repeat'(first|refine dq1 ?_|refine dqF ?_|refine z4 (zr3 rfl rfl zX9) ?_|exact z5 rfl rfl|fail)
end
section
attribute [local irreducible] z09 spD z1w zb1 z1n den denX z0s z0w
noncomputable def zb3:zd:=spD (λx:List Op×List Int×Int=>True) λx=>z4p x.1 x.2.1 x.2.2
theorem zrj(l:List Op)(s:List Int)(h:Int):zb3 [.l 2 (l.map eOp),.l 1 (s.map zl),I h]=some [.l 1 ((z4p l s h).1.map zl),I (z4p l s h).2]:=zi (f:=λx:List Op×List Int×Int=>z4p x.1 x.2.1 x.2.2) (l,s,h) trivial
theorem zir(l:List Op)(s:List Int)(h:Int)(hs:s.length<=1000000):zb3 [.l 2 (l.map eOp),.l 1 (s.map zl),I h]=some [.l 1 ((z4p l s h).1.map zl),I (z4p l s h).2]:=zrj l s h
def zUe(a:Nat)(b c d:Atom):T:=zB .add (.v (a+2)) (zI 1) (.again 1 [b,.v a,c,d])
def zU12(a:Atom)(b:Nat)(c:Atom):T:=zQ .eql (.v b) (zI 16) (.v (b+1)) (.ret [.c (.nil 1),zI 8]) (zQ .lss c (zI (-1000000)) (.v (b+2)) (.ret [.c (.nil 1),zI 8]) (zQ .gtr c (zI 1000000) (.v (b+3)) (.ret [.c (.nil 1),zI 8]) (zS (.mk 1 [[c]]) (zS (.app 1 a (.v (b+4))) (zUe 18 (.v (b+5)) 19 (.v (b+6)))))))
def zU2(a:Atom)(b:Nat)(c:Atom):T:=zL a (zU12 a b c)
def zU6(a:Nat):T:=zL 17 (zQ .eql (.v a) (zI 0) (.v (a+1)) (.ret [.c (.nil 1),zI 8]) (zL 17 (zB .sub (.v (a+2)) (zI 1) (zE 1 17 (.v (a+3)) (zL 17 (zB .sub (.v (a+5)) (zI 1) (zS (.sub 1 17 none (some (.v (a+6)))) (.ret [.c (.nil 1),zI 8]))))))))
def zU13(a b:Nat):T:=.ite (.v (b+1)) (.ret [.c (.nil 1),zI 8]) (zQ .lss (.v a) (zI (-1000000)) (.v (b+2)) (.ret [.c (.nil 1),zI 8]) (zQ .gtr (.v a) (zI 1000000) (.v (b+3)) (.ret [.c (.nil 1),zI 8]) (zS (.mk 1 [[.v a]]) (zS (.app 1 (.v (a+3)) (.v (b+4))) (.ret [.c (.nil 1),zI 8])))))
def zU5(a b:Nat):T:=zL (.v (a+3)) (zB .eql (.v b) (zI 16) (zU13 a b))
def zU14(b:Nat)(c:Atom):T:=zQ .eql (.v (b+8)) (zI 16) (.v (b+9)) (zU5 (b+4) (b+10)) (zQ .lss c (zI (-1000000)) (.v (b+10)) (zU5 (b+4) (b+11)) (zQ .gtr c (zI 1000000) (.v (b+11)) (zU5 (b+4) (b+12)) (zS (.mk 1 [[c]]) (zS (.app 1 (.v (b+7)) (.v (b+12))) (zU2 (.v (b+13)) (b+14) (.v (b+4)))))))
def zUk(a:Atom)(b:Nat)(c:Atom):T:=zL a (zQ .eql (.v b) (zI 0) (.v (b+1)) (.ret [.c (.nil 1),zI 8]) (zL a (zB .sub (.v (b+2)) (zI 1) (zE 1 a (.v (b+3)) (zL a (zB .sub (.v (b+5)) (zI 1) (zS (.sub 1 a none (some (.v (b+6)))) (zL (.v (b+7)) (zU14 b c)))))))))
def zzv:T:=zS (.idx 17 32 0) (zL 17 (zB .sub 34 (zI 1) (zS (.sub 1 17 none (some 35)) (zL 36 (zQ .eql 37 (zI 0) 38 (.ret [.c (.nil 1),zI 8]) (zL 36 (zB .sub 39 (zI 1) (zE 1 36 40 (zL 36 (zB .sub 42 (zI 1) (zS (.sub 1 36 none (some 43)) (zC 30 [41,33] (zU2 44 46 45)))))))))))))
def zzw:T:=zS (.idx 17 33 0) (zL 17 (zB .sub 35 (zI 1) (zS (.sub 1 17 none (some 36)) (zL 37 (zQ .eql 38 (zI 0) 39 (.ret [.c (.nil 1),zI 8]) (zL 37 (zB .sub 40 (zI 1) (zE 1 37 41 (zL 37 (zB .sub 43 (zI 1) (zS (.sub 1 37 none (some 44)) (zC 31 [42,34] (zU2 45 47 46)))))))))))))
def zzx:T:=zS (.idx 17 34 0) (zL 17 (zB .sub 36 (zI 1) (zS (.sub 1 17 none (some 37)) (zL 38 (zQ .eql 39 (zI 0) 40 (.ret [.c (.nil 1),zI 8]) (zL 38 (zB .sub 41 (zI 1) (zE 1 38 42 (zL 38 (zB .sub 44 (zI 1) (zS (.sub 1 38 none (some 45)) (zC 32 [43,35] (zU2 46 48 47)))))))))))))
def zzy:T:=zS (.idx 17 35 0) (zL 17 (zB .sub 37 (zI 1) (zS (.sub 1 17 none (some 38)) (zL 39 (zQ .eql 40 (zI 0) 41 (.ret [.c (.nil 1),zI 8]) (zL 39 (zB .sub 42 (zI 1) (zE 1 39 43 (zL 39 (zB .sub 45 (zI 1) (zS (.sub 1 39 none (some 46)) (zC 33 [44,36] (zU2 47 49 48)))))))))))))
def zzz:T:=zS (.idx 17 36 0) (zL 17 (zB .sub 38 (zI 1) (zS (.sub 1 17 none (some 39)) (zL 40 (zQ .eql 41 (zI 0) 42 (.ret [.c (.nil 1),zI 8]) (zL 40 (zB .sub 43 (zI 1) (zE 1 40 44 (zL 40 (zB .sub 46 (zI 1) (zS (.sub 1 40 none (some 47)) (zC 34 [45,37] (zU2 48 50 49)))))))))))))
def z000:T:=.ite 35 (zL 17 (zQ .eql 36 (zI 0) 37 (.ret [.c (.nil 1),zI 8]) (zL 17 (zB .sub 38 (zI 1) (zE 1 17 39 (zL 17 (zB .sub 41 (zI 1) (zS (.sub 1 17 none (some 42)) (zQ .eql 40 (zI 0) 44 (.ret [.c (.nil 1),zI 8]) (zUe 18 43 19 45)))))))))) (zQ .eql 22 (zI 12) 36 (zU2 17 37 2) (zUe 18 17 19 37))
def z001:T:=.ite 33 (zL 17 (zQ .eql 34 (zI 0) 35 (.ret [.c (.nil 1),zI 8]) (zL 17 (zB .sub 36 (zI 1) (zE 1 17 37 (zL 17 (zB .sub 39 (zI 1) (zS (.sub 1 17 none (some 40)) (zC 35 [38] (zU2 41 43 42)))))))))) (zQ .eql 22 (zI 13) 34 (zL 17 (zQ .eql 35 (zI 0) 36 (.ret [.c (.nil 1),zI 8]) (zL 17 (zB .sub 37 (zI 1) (zE 1 17 38 (zL 17 (zB .sub 40 (zI 1) (zS (.sub 1 17 none (some 41)) (zC 37 [39] (zU2 42 44 43)))))))))) (zB .eql 22 (zI 11) z000))
def z002:T:=.ite 31 (zL 17 (zQ .eql 32 (zI 0) 33 (zU6 34) (zL 17 (zB .sub 34 (zI 1) (.W [] [.inr 1 17 35] zzy))))) (zQ .eql 22 (zI 10) 32 (zL 17 (zQ .eql 33 (zI 0) 34 (zU6 35) (zL 17 (zB .sub 35 (zI 1) (.W [] [.inr 1 17 36] zzz))))) (zB .eql 22 (zI 9) z001))
def z003:T:=.ite 29 (zL 17 (zQ .eql 30 (zI 0) 31 (zU6 32) (zL 17 (zB .sub 32 (zI 1) (.W [] [.inr 1 17 33] zzw))))) (zQ .eql 22 (zI 7) 30 (zL 17 (zQ .eql 31 (zI 0) 32 (zU6 33) (zL 17 (zB .sub 33 (zI 1) (.W [] [.inr 1 17 34] zzx))))) (zB .eql 22 (zI 8) z002))
def z004:T:=.ite 27 (zL 17 (zQ .eql 28 (zI 0) 29 (.ret [.c (.nil 1),zI 8]) (zL 17 (zB .sub 30 (zI 1) (zE 1 17 31 (zL 17 (zB .sub 33 (zI 1) (zS (.sub 1 17 none (some 34)) (zUe 18 35 19 36))))))))) (zQ .eql 22 (zI 5) 28 (zL 17 (zQ .eql 29 (zI 0) 30 (zU6 31) (zL 17 (zB .sub 31 (zI 1) (.W [] [.inr 1 17 32] zzv))))) (zB .eql 22 (zI 6) z003))
def zx5:T:=.ite 24 (zU2 17 25 23) (zQ .eql 22 (zI 2) 25 (zUk 17 26 30) (zQ .eql 22 (zI 3) 26 (zL 17 (zQ .eql 27 (zI 0) 28 (zU6 29) (zL 17 (zB .sub 29 (zI 1) (zE 1 17 30 (zL 17 (zB .sub 32 (zI 1) (zS (.sub 1 17 none (some 33)) (zUk 34 35 31))))))))) (zB .eql 22 (zI 4) z004)))
def zx6:T:=.ite 15 (zE 1 1 14 (zQ .lss 16 (zI (-1000000)) 17 (.ret [.c (.nil 1),zI 3]) (zQ .gtr 16 (zI 1000000) 18 (.ret [.c (.nil 1),zI 3]) (zUz 14 12 13 19)))) (zL 0 (.loop [10,12,13,zI 0] (zQ .lss 20 16 21 (zE 2 0 20 (zB .eql 22 (zI 1) zx5)) (.ret [17,zI 0]))))
def zx7:T:=zQ .lss 2 (zI 0) 5 (.ret [.c (.nil 1),zI 3]) (zQ .gtr 2 (zI 1000) 6 (.ret [.c (.nil 1),zI 3]) (zL 1 (zQ .gtr 7 (zI 16) 8 (.ret [.c (.nil 1),zI 3]) (zS (.mk 1 []) (zS (.app 1 9 1) (zL 1 (.loop [.c (.nil 1),zI 0,zI 0] (zB .lss 14 11 zx6))))))))
def zk4:T:=zC 7 [0] (zQ .neq 3 (zI 0) 4 (.ret [.c (.nil 1),3]) zx7)
attribute [local irreducible] z2r zb2 zgr zgt zen zgu zem zgs
theorem z071:Meets Tryz.prog zb3 133 zW07:=by
 refine z73 (sp:=(zx [(7,z2r),(30,zgr),(31,zgs),(32,zem),(33,zen),(34,zgt),(35,zgu),(37,zb2)])) (sigs:=z02) (cut:=[]) (hints:=[⟨8,[.r 6 3 1,.t 7,.t 38]⟩,⟨14,[.c 35 0 360,.r 6 3 1,.t 7,.t 51,.o 32,.z 34,.z 32]⟩]) (fns:=[za0 162 Tryz.f162 [] [],za0 175 Tryz.f175 [] [35],za0 176 Tryz.f176 [] [],za0 186 Tryz.f186 [] [],za0 174 Tryz.f174 [] [],za0 177 Tryz.f177 [] []]) (dep:=6) (pool:=300) (fn:=Tryz.f133) (t:=zk4) ?_ ?_ ?_
 ·exact(z2q (fn:=Tryz.f162) zX1 zX1 zX1 zX1 zX1 (z2q (fn:=Tryz.f175) zX1 zX1 zX1 zX1 zX1 (z2q (fn:=Tryz.f176) zX1 zX1 zX1 zX1 zX1 (z2q (fn:=Tryz.f186) zX1 zX1 zX1 zX1 zX1 (z2q (fn:=Tryz.f174) zX1 zX1 zX1 zX1 zX1 (z2q (fn:=Tryz.f177) zX1 zX1 zX1 zX1 zX1 z8e))))))
 ·exact(zq (L:=[(7,z2r),(30,zgr),(31,zgs),(32,zem),(33,zen),(34,zgt),(35,zgu),(37,zb2)]) ⟨z7 rfl zcf,z7 rfl z0fz,z7 rfl z0g0,z7 rfl z0db,z7 rfl z0dc,z7 rfl z0g2,z7 rfl z0g1,z7 rfl z070,trivial⟩)
 ·rintro ds rs-h;obtain⟨⟨l,s0,ht⟩,-,rfl,rfl⟩:=zh h;clear h;refine⟨⟨l.length+s0.length+1,?_⟩,?_⟩
  ·show den _ _ zk4 [.l 2 (l.map eOp),.l 1 (s0.map zl),I ht] []=ret (z4p l s0 ht);unfold zk4 z4p;repeat'(first|refine dq1 ?_|refine dqk rfl (z86 _) ?_|exact z5 rfl rfl|((first|refine tR ?_ ?_|refine tO ?_ ?_)<;>intro h)|fail)
   have hc0:zb l=0:=zY0u.1 zXn;refine z4 (z1p (r:=[]) rfl rfl zX4) ?_;refine z4 (zjt (l:=([]:List Int)) (l':=s0) (f:=zl) rfl rfl zXa) ?_;repeat'(first|refine dq1 ?_|fail)
   (refine zj (λ(_:Unit) k=>[.l 1 (([]:List Int).map zl),I 0,I k]) (λ(_:Unit) _ (r:List Int)=>if ∀x∈r,z47 x then(match z3a ht s0 l with|none=>(([]:List Int),(8:Int))|some s'=>(s',0))else(([]:List Int),(3:Int))) (λ_ k=>∀x∈s0.take k,z47 x) () s0 ?_ ?_ ?_ ?_ ?_;rfl;exact(λx hx=>by simp at hx);omega)
   ·rintro _ k x r hx hd hk hp again hag;repeat'(first|refine dq1 ?_|refine dqc ?_|refine dqT ?_|fail)
    refine z3r rfl (λh=>?_) (λh=>?_)
    ·rw[zN (λhh=>by have:=(hh x (zY0i ..)).1;omega)];repeat'(first|exact z5 rfl rfl|fail)
    repeat'(first|refine dq1 ?_|fail)
    refine z3r rfl (λh=>?_) (λh=>?_)
    ·rw[zN (λhh=>by have:=(hh x (zY0i ..)).2;omega)];repeat'(first|exact z5 rfl rfl|fail)
    repeat'(first|refine dq1 ?_|fail)
    refine z6 rfl rfl ((hag () ?_).trans ?_)
    ·intro y hy;rw[List.take_add_one,hx]at hy;rcases zY13.1 hy with hy|hy
     ·exact hp y hy
     ·simp only[Option.toList_some,zY12]at hy;subst hy;exact⟨by omega,by omega⟩
    ·have:(∀y∈x::r,z47 y)↔∀y∈r,z47 y:=by simp only[zY0g,forall_eq_or_imp];exact⟨λh=>h.2,λh=>⟨⟨by omega,by omega⟩,h⟩⟩
     simp only[this]
   ·rintro _ hp again;rw[zY1l]at hp;rw[zP zX4];repeat'(first|refine dq1 ?_|refine dqF ?_|fail)
    (refine zj (λ(s:List Int) k=>[.l 1 (s.map zl),.l 1 (([]:List Int).map zl),I 0,I k]) (λ(s:List Int) _ (r:List Op)=>(match z3a ht s r with|none=>(([]:List Int),(8:Int))|some s'=>(s',0))) (λs _=>z1z s) s0 l ?_ ?_ ?_ ?_ ?_;rfl;exact⟨by omega,hp⟩;omega)
    ·rintro s k o r hx hd hk hs again' hag;have hF:z3d ht s o=none->(match z3a ht s (o::r)with|none=>(([]:List Int),(8:Int))|some s'=>(s',0))=([],8):=λe=>by rw[z3a,e]
     have hO:∀s',z3d ht s o=some s'->again' [.l 1 (s'.map zl),.l 1 (([]:List Int).map zl),I 0,I ((k:Int)+1)]=ret (match z3a ht s (o::r)with|none=>(([]:List Int),(8:Int))|some s'=>(s',0)):=λs' e=>by rw[z3a,e];exact hag s' (zhw hs e)
     generalize(match z3a ht s (o::r)with|none=>(([]:List Int),(8:Int))|some s'=>(s',0))=R at hF hO⊢;have hsl:=hs.1;have hfit:=hs;have hll:l.length<=16:=zaz hc0;clear hag hd hp hs;have hk13:o.kind=1\/o.kind=2\/o.kind=3\/o.kind=4\/o.kind=5\/o.kind=6\/o.kind=7\/o.kind=8\/o.kind=9\/o.kind=10\/o.kind=11\/o.kind=12\/o.kind=13\/(o.kind≠1/\o.kind≠2/\o.kind≠3/\o.kind≠4/\o.kind≠5/\o.kind≠6/\o.kind≠7/\o.kind≠8/\o.kind≠9/\o.kind≠10/\o.kind≠11/\o.kind≠12/\o.kind≠13):=zX0;have hcase:(s.length=0/\z5v s=none)\/(∃a t,z47 a/\z5v s=some (a,t)/\(s.length:Int)=t.length+1/\s[((s.length:Int)-1).toNat]?=some a/\s.take ((s.length:Int)-1).toNat=t/\((t.length=0/\z5v t=none)\/∃b u,z47 b/\z5v t=some (b,u)/\(t.length:Int)=u.length+1/\t[((t.length:Int)-1).toNat]?=some b/\t.take ((t.length:Int)-1).toNat=u)):=by
      by_cases h0:s.length=0
      ·exact .inl ⟨h0,zfe h0⟩
      ·obtain⟨a,t,p1,p2,p3,p4,p5⟩:=zff h0;have f1:=z62 hfit p1;refine .inr ⟨a,t,f1.1,p1,p3,p4,p5,?_⟩;by_cases h1:t.length=0
       ·exact .inl ⟨h1,zfe h1⟩
       ·obtain⟨b,u,q1,q2,q3,q4,q5⟩:=zff h1;exact .inr ⟨b,u,(z62 f1.2 q1).1,q1,q3,q4,q5⟩
     rcases hk13 with hk|hk|hk|hk|hk|hk|hk|hk|hk|hk|hk|hk|hk|hk;all_goals
      try simp only[z3d,hk,Int.reduceEq,if_true,if_false]at hF hO
      rcases hcase with⟨c1,c2⟩|⟨a,t,fa,p1,p3,p4,p5,⟨c1,c2⟩|⟨b,u,fb,q1,q3,q4,q5⟩⟩
      ·try simp only[c2,z1u,z21,zY0b]at hF hO
       repeat'(first|refine dq1 ?_|refine dqc ?_|refine dqm ?_|refine dqT ?_|refine dqF ?_|exact z5 rfl (by rw[hF (by(repeat'(first|rw[z2o zX0]|simp only[zY07,zY0b]|fail)))];rfl)|exact z6 rfl rfl (hO _ (by(repeat'(first|rfl|rw[z0n zX0 zX0 zX0]|fail))))|refine z3r rfl (λh=>?_) (λh=>?_)|fail)
      ·try simp only[p1,c2,z1u,z21,zY0b,zY07]at hF hO
       obtain⟨fa1,fa2⟩:=id fa;repeat'(first|refine dq1 ?_|refine dqc ?_|refine dqm ?_|refine dqk rfl (ziq _ zXn) ?_|refine dqk rfl (zpl _) ?_|refine dqT ?_|refine dqF ?_|exact z5 rfl zXg|exact z6 rfl rfl (hO _ zXl)|refine z3r rfl (λh=>?_) (λh=>?_)|fail)
      ·try simp only[p1,q1,z1u,z21,zY0b,zY07]at hF hO
       obtain⟨fa1,fa2⟩:=id fa;obtain⟨fb1,fb2⟩:=id fb;repeat'(first|refine dq1 ?_|refine dqc ?_|refine dqm ?_|refine dqk rfl (ziq _ zXn) ?_|refine dqk rfl (z03q _ _ ⟨by assumption,by assumption⟩) ?_|refine dqk rfl (z03r _ _ ⟨by assumption,by assumption⟩) ?_|refine dqk rfl (zzt _ _) ?_|refine dqk rfl (zzu _ _) ?_|refine dqk rfl (z03s _ _) ?_|refine dqk rfl (zpl _) ?_|refine dqT ?_|refine dqF ?_|exact z5 rfl zXg|exact z6 rfl rfl (hO _ zXl)|refine z3r rfl (λh=>?_) (λh=>?_)|fail)
    ·rintro s hs again';repeat'(first|refine dq1 ?_|exact z5 rfl rfl|refine dqF ?_|fail)
  ·intro i d hi hd
   match i,hi,hd with
   |0,hi,_=>simp[zu]at hi
   |1,_,hd=>simp only[Enc.e,zl,zY1g,zY16,zY05,zY2d,zY00]at hd;subst hd;rfl
   |i+2,hi,hd=>simp[zu]at hi
end
section
attribute [local irreducible] z09 spD z1w z4p
noncomputable def zb4:zd:=spD (λ_:List Op×List Op×Int=>True) λx=>z2e x.1 x.2.1 x.2.2
theorem zpm(l k:List Op)(h:Int):zb4 [.l 2 (l.map eOp),.l 2 (k.map eOp),I h]=some [.b (z2e l k h).1,I (z2e l k h).2]:=zi (f:=λx:List Op×List Op×Int=>z2e x.1 x.2.1 x.2.2) (l,k,h) trivial
theorem z024{h:Int}:∀ {l:List Op} {s s':List Int},z1z s->z3a h s l=some s'->z1z s'
 | [],s,s',hs,he=>by cases he;exact hs
 |o::l,s,s',hs,he=>by
  rw[z3a]at he;cases hm:z3d h s o with
  |none=>rw[hm]at he;cases he
  |some t=>rw[hm]at he;exact z024 (zhw hs hm) he
theorem ztk(l:List Op)(s:List Int)(h:Int):(z4p l s h).1.length<=16:=by
 unfold z4p;split
 ·simp
 split
 ·simp
 rename_i h2;split
 ·rename_i h3;have hs:z1z s:=⟨by omega,h3⟩
  cases hm:z3a h s l with
  |none=>simp
  |some t=>exact(z024 hs hm).1
 ·simp
theorem z0dd{l:List Int}(h:(l.length:Int)=1):l[(0:Int).toNat]?=some (l.headD 0):=by
 match l,h with
 | [x],_=>rfl
def zU15(a b:Nat):T:=.ite (.v b) (.ret [.c (.b false),.v (a+1)]) (zQ .eql (.v (a+1)) (zI 0) (.v (b+1)) (zL (.v a) (zQ .eql (.v (b+2)) (zI 1) (.v (b+3)) (zE 1 (.v a) (zI 0) (zB .neq (.v (b+4)) (zI 0) (.ret [.v (b+5),zI 0]))) (.ret [.c (.b false),zI 0]))) (.ret [.c (.b false),zI 0]))
def zUo(a b:Nat):T:=zB .eql (.v (a+1)) (zI 3) (zU15 a b)
def zg0:T:=.loop [.c (.b false),zI 0,zI 0] (zQ .lss 5 (zI 2) 6 (zS (.sel [0,1] 5) (zC 7 [7] (zQ .neq 8 (zI 0) 9 (.ret [.c (.b false),8]) (zUz 5 3 4 10)))) (.W (zK 29 [1,.c (.nil 1),2] 2) [] (zQ .eql 8 (zI 0) 9 (.W (zK 29 [0,7,2] 2) [] (zUo 10 12)) (zUo 7 10))))
theorem z005:Meets Tryz.prog zb4 116 zW13:=by
 refine zg (sp:=(zx [(7,z2r),(29,zb3)])) (sigs:=z02) (cut:=[]) (hints:=[⟨2,[.t 6,.t 7,.t 16]⟩]) (fn:=Tryz.f116) (t:=zg0) ?_ ?_
 ·exact(zq (L:=[(7,z2r),(29,zb3)]) ⟨z7 rfl zcf,z7 rfl z071,trivial⟩)
 ·rintro ds rs-h;obtain⟨⟨l,k,ht⟩,-,rfl,rfl⟩:=zh h;clear h;refine⟨⟨3,?_⟩,zbw rfl rfl⟩;show den _ _ zg0 [.l 2 (l.map eOp),.l 2 (k.map eOp),I ht] []=ret (z2e l k ht);unfold zg0 z2e;refine z0y rfl ?_;rw[z04];repeat'(first|refine dq1 ?_|refine dqk rfl (z86 _) ?_|exact z5 rfl rfl|refine tR (λh=>?_) λh=>?_|fail)
  refine z6 rfl rfl ?_;rw[z04];have hr1:=ztk k [] ht;have hr2:=ztk l (z4p k [] ht).1 ht;unfold zgq;repeat'(first|refine dq1 ?_|refine dqc ?_|refine dqK rfl (zir k [] ht zX4) ?_|refine dqK rfl (zir l _ ht zX0) ?_|exact z5 rfl rfl|refine tR (λh=>?_) λh=>?_|fail)
  all_goals
   have hx:=z0dd zXn;repeat'(first|refine dq1 ?_|exact z5 rfl rfl|fail)
end
def zpn(r:Option (List Int)):List Int×Int:=match r with
 |none=>([],8)
 |some s=>(s,0)
theorem ztl{l:List Op}{s:List Int}{h:Int}(hl:zb l=0)(h0:0<=h)(h1:h<=1000)(hs:z1z s):z4p l s h=zpn (z3a h s l):=by unfold z4p;rw[zN (λe=>e hl),zN (by have:=hs.1;omega),zP hs.2];rfl
theorem zcg:z1z []:=⟨by simp,by simp⟩
theorem znk{h:Int}:∀ {l:List Op} {s s':List Int},z1z s->z3a h s l=some s'->z1z s'
 | [],s,s',hs,he=>by cases he;exact hs
 |o::l,s,s',hs,he=>by
  rw[z3a]at he;cases hm:z3d h s o with
  |none=>rw[hm]at he;cases he
  |some t=>rw[hm]at he;exact znk (zhw hs hm) he
def zpo(r:Option (List Int)):Bool:=match r with
 |some [x]=>decide (x≠0)
 |_=>false
theorem z006(r:Option (List Int)):zgq (zpn r)=(zpo r,0):=by
 match r with
 |none=>rfl
 |some []=>rfl
 |some [x]=>simp[zgq,zpn,zpo]
 |some (x::y::t) =>
  show(if(0:Int)=3 then(false,0)else if(0:Int)=0 then(if((x::y::t).length:Int)=1 then(decide ((x::y::t).headD 0≠0),0)else(false,0))else(false,0))=(false,0)
  rw[zN zX9,zP rfl,zN zX1e]
theorem z03t{l k:List Op}{h:Int}(hl:zb l=0)(hk:zb k=0)(h0:0<=h)(h1:h<=1000):z2e l k h=(zpo ((z3a h [] k).bind λs=>z3a h s l),0):=by
 unfold z2e;rw[zN (λe=>e hl),zN (λe=>e hk),ztl hk h0 h1 zcg];cases hm:z3a h [] k with
 |none=>rfl
 |some s =>have hs:=znk zcg hm;rw[zP (show(zpn (some s)).2=0 from rfl),show(zpn (some s)).1=s from rfl,ztl hl h0 h1 hs,z006];rfl
section
open Go.Lib (itoa)
def z4f:zd:=λds=>match ds with
 | []=>some (opNames.map Dt.s)
 |_::_=>none
theorem zpp:z4f []=some [.s [],.s [],.s [100,117,112],.s [115,119,97,112],.s [100,114,111,112],.s [97,100,100],.s [115,117,98],.s [115,97,109,101],.s [108,101,115,115],.s [110,111,116],.s [97,110,100],.s [118,101,114,105,102,121],.s [104,101,105,103,104,116],.s [109,105,120]]:=rfl
def z007:T:=.ret [.c (.s []),.c (.s []),.c (.s [100,117,112]),.c (.s [115,119,97,112]),.c (.s [100,114,111,112]),.c (.s [97,100,100]),.c (.s [115,117,98]),.c (.s [115,97,109,101]),.c (.s [108,101,115,115]),.c (.s [110,111,116]),.c (.s [97,110,100]),.c (.s [118,101,114,105,102,121]),.c (.s [104,101,105,103,104,116]),.c (.s [109,105,120])]
def zUq(a:Atom)(b c:Nat):T:=zS (.mk 1 [[a]]) (zS (.app 1 (.v b) (.v c)) (zUa (.v (b+1)) (.v (c+1)) (.v (c+2))))
def zuk:T:=.ite 2 (.ret [.c (.s []),1]) (zL 0 (.loop [.c (.nil 1),zI 0] (zQ .lss 5 3 6 (zE 2 0 5 (.W (zK 40 [] 14) [] (zS (.sel [9,10,11,12,13,14,15,16,17,18,19,20,21,22] 7) (zQ .eql 7 (zI 1) 24 (zC 38 [8] (zUq 25 4 26)) (zUq 23 4 25))))) (zC 39 [4,.c (.s [32])] (.ret [7,zI 0])))))
def zg1:T:=zC 7 [0] (zB .neq 1 (zI 0) zuk)
theorem z008:Meets Tryz.prog z4f 106 zW0e:=by
 refine zg (sp:=(zx [])) (sigs:=z02) (cut:=[]) (hints:=[]) (fn:=Tryz.f106) (t:=z007) ?_ ?_
 ·exact(zq (L:=[]) trivial)
 ·rintro ds rs-h;cases ds with
  |cons d ds=>cases h
  |nil =>cases h;refine⟨⟨1,rfl⟩,λi d hi hd=>?_⟩;rw[zY0m]at hd;obtain⟨x,_,rfl⟩:=zY0t.1 hd;rfl
noncomputable def zk5:zd:=spD (λ_:List Op=>True) λl=>z3v l
theorem zpq(l:List Op):zk5 [.l 2 (l.map eOp)]=some [.s (z3v l).1,I (z3v l).2]:=zi (f:=λl:List Op=>z3v l) l trivial
theorem z0gy{k:Int}(h0:1<=k)(h1:k<=13):(opNames.map Dt.s)[k.toNat]?=some (.s ((opNames[k.toNat]?).getD [])):=by rcases z03i h0 h1 with rfl|rfl|rfl|rfl|rfl|rfl|rfl|rfl|rfl|rfl|rfl|rfl|rfl<;>rfl
attribute [local irreducible] z09 spD z1w itoa zb z2e z4n z4f
theorem z009:Meets Tryz.prog zk5 78 zW0a:=by
 refine zg (sp:=(zx [(7,z2r),(38,z5e),(39,zdm),(40,z4f)])) (sigs:=z02) (cut:=[]) (hints:=[⟨6,[.r 5 9 1,.t 16]⟩]) (fn:=Tryz.f78) (t:=zg1) ?_ ?_
 ·exact(zq (L:=[(7,z2r),(38,z5e),(39,zdm),(40,z4f)]) ⟨z7 rfl zcf,z7 rfl zpg,z7 rfl z06w,z7 rfl z008,trivial⟩)
 ·rintro ds rs-h;obtain⟨l,-,rfl,rfl⟩:=zh h;clear h;refine⟨⟨l.length+1,?_⟩,zbw rfl rfl⟩;show den _ _ zg1 [.l 2 (l.map eOp)] []=ret (z3v l);unfold zg1 z3v;repeat'(first|refine dq1 ?_|refine dqk rfl (z86 _) ?_|exact z5 rfl rfl|refine tR (λh=>?_) λh=>?_|fail)
  have hc0:zb l=0:=zY0u.1 zXn;obtain⟨hl16,hall⟩:=zej hc0
  (refine zj (λ(s:List (List UInt8)) k=>[.l 1 (s.map z0a),I k]) (λ(s:List (List UInt8)) _ (r:List Op)=>(z4n 32 (s++r.map z28),(0:Int))) (λs k=>s=(l.take k).map z28) [] l ?_ ?_ ?_ ?_ ?_;rfl;exact rfl;omega)
  ·rintro s k o r hx hd hk hs again hag;have hsl:s.length<=16:=by rw[hs,zY0y,zY0d];omega
   have ho:=zng (hall o (zY06 hx));obtain⟨ho1,ho2,-⟩:=ho;have hn:=z0gy ho1 ho2;have hnext:s++[z28 o]=(l.take (k+1)).map z28:=by rw[hs,List.take_add_one,hx,zY24];rfl
   have hag:=hag (s++[z28 o]) hnext;rw[<- List.append_cons]at hag;rw[zY1n];repeat'(first|refine dq1 ?_|refine dqc ?_|refine dqm ?_|refine dqK rfl (zpp) ?_|refine dqT ?_|fail)
   refine z4 (zaw rfl rfl zX0 hn) ?_;repeat'(first|refine dq1 ?_|fail)
   refine z3r rfl (λh=>?_) (λh=>?_)
   ·have ht:z28 o=itoa o.n:=zP h;rw[ht]at hag⊢;repeat'(first|refine dq1 ?_|refine dqk rfl (z7b _) ?_|refine z4 (z1p rfl rfl zX4) ?_|fail)
    exact z6 rfl rfl hag
   ·have ht:z28 o=(opNames[o.kind.toNat]?).getD []:=zN h;rw[ht]at hag⊢;repeat'(first|refine dq1 ?_|refine z4 (z1p rfl rfl zX4) ?_|fail)
    exact z6 rfl rfl hag
  ·rintro s hs again;rw[zY1l]at hs;subst hs;have hln:=zce hc0;have hj:=zp5 32 (l.map z28);have ht:z4n 32 (l.map z28)=z6v l:=rfl;simp only[zY2o,zY1b];rw[<- hj];repeat'(first|refine dq1 ?_|refine dqk rfl (zuj (l.map z28) [32] ⟨by rw[zY0y];omega,by rw[hj,ht];omega⟩) ?_|exact z5 rfl rfl|refine dqF ?_|fail)
end
section
open Go.Shelf
open Go.Lib (itoa)
def FactsW(w:World)(F:Nat->Prop)(Δ:List Res):Prop:=∀r∈Δ,r.block=none/\r.holds w.heap.size F w
theorem FactsW.nil{w:World}{F:Nat->Prop}:FactsW w F []:=λ_ h=>by cases h
theorem FactsW.cons{w:World}{F:Nat->Prop}{Δ:List Res}{r:Res}(h1:r.block=none)(h2:r.holds w.heap.size F w)(h:FactsW w F Δ):FactsW w F (r::Δ):=λq hq=>by
 rcases zY0g.1 hq with rfl|hq
 ·exact⟨h1,h2⟩
 ·exact h q hq
theorem z076{α:Type}{S:Sh α}{xs:List α}{A:Option Addr}{n c:Nat}:(rds xs A n c S).block=none:=by unfold rds znc;rfl
theorem z077{α:Type}{S:Sh α}{xs:List α}{A:Option Addr}{n c h0:Nat}{w:World}{F:Nat->Prop}(h:Rds S w F xs A n c):(rds xs A n c S).holds h0 F w:=by unfold rds znc;exact h
theorem FactsW.rds{w:World}{F:Nat->Prop}{Δ:List Res}{α:Type}{S:Sh α}{xs:List α}{A:Option Addr}{n c:Nat}(h:Rds S w F xs A n c)(hΔ:FactsW w F Δ):FactsW w F (rds xs A n c S::Δ):=.cons z076 (z077 h) hΔ
def sb(gb:Nat)(l:List UInt8):Res:={
 block:=some gb
 holds h0 F W:=h0<=gb/\∃v p,W.heap[gb]?=some (.cells #[p,v] 135 (0,0))/\W.ownsRow gb 5 1 v l.length (Lib.byteCells l)/\v.ownBlock≠some gb/\(∀g,v.ownBlock=some g->F g)/\(p=.pointer none\/p=.pointer (some ⟨gb,0,none⟩))
 keep:=λha hF hb ⟨h0,v,p,h1,h2,h3,h4,h5⟩=>⟨h0,v,p,(hb _ rfl).trans h1,zjo h2 (λg hg=>ha g (h4 g hg)),h3,λg hg=>hF g (h4 g hg),h5⟩
 lt:=λ⟨h0,v,p,h1,_⟩ e=>by injection e with e;subst e;exact⟨h0,(zY15.1 h1).1⟩ }
section
variable {w0 W:World} {F0:Nat->Prop} {Γ Δ:List Res} {gb:Nat} {l:List UInt8}
theorem FactsW.sep{r:Res}(hΔ:FactsW w0 F0 Δ)(hb:Below w0.heap.size w0 W)(hF:∀b,F0 b->b<w0.heap.size)(hr:r.holds w0.heap.size (Free w0.heap.size F0 (r::Δ) W) W)(hg:∀g,r.block=some g->w0.heap.size<=g):Sep w0 F0 (r::Δ) W:=by
 refine⟨hb,hF,?_,?_⟩
 ·intro q hq;rcases zY0g.1 hq with rfl|hq
  ·exact hr
  ·refine q.keep (λb hb'=>hb.block b (hF b hb')) (λb hb'=>⟨.inl hb',λp hp e=>?_⟩) (λg hg'=>by rw[(hΔ q hq).1]at hg';cases hg') (hΔ q hq).2;rcases zY0g.1 hp with rfl|hp
   ·have:=hg b e;have:=hF b hb';omega
   ·rw[(hΔ p hp).1]at e;cases e
 ·refine zY1h.2 ⟨λq hq g _ h2=>(by rw[(hΔ q hq).1]at h2;cases h2),?_⟩;exact List.pairwise_of_forall_mem_list λq hq p hp g h1 _=>by rw[(hΔ q hq).1]at h1;cases h1
theorem Sep.sbStart{w:World}{F:Nat->Prop}(hF:∀b,F b->b<w.heap.size)(hΔ:FactsW w F Δ):Sep w F (sb w.heap.size []::Δ) (w.alloc (.cells #[.pointer none,.slice none 0 0] 135)) :=
 hΔ.sep ((Below.refl _ _).alloc (zY0k _) _) hF ⟨zY0k _,.slice none 0 0,.pointer none,heap_alloc_new w _,World.ownsRow_nil _ _ _ _,by simp[Value.ownBlock],λg hg=>by simp[Value.ownBlock]at hg,.inl rfl⟩ (λg hg=>by injection hg with hg;omega)
theorem Sep.sbIs(hS:Sep w0 F0 Γ W)(hm:At Γ (sb gb l)):Lib.IsBuilder 135 5 gb gb (Lib.byteCells l) W:=by
 obtain⟨h0,v,p,h1,h2,h3,-,h5⟩:=hS.get hm;have e:(Lib.byteCells l).length=l.length:=Lib.byteCells_length l;rcases h5 with rfl|rfl
 ·exact .inl ⟨zY0k _,v,h1,by rw[e];exact h2,h3⟩
 ·exact .inr ⟨zY0k _,v,h1,by rw[e];exact h2,h3⟩
theorem Sep.write(hS:Sep w0 F0 Γ W)(hm:At Γ (sb w0.heap.size l))(hΔ:FactsW w0 F0 Δ)(s:ByteArray)(hl:l.length+s.size<=1000000) :
  Calls Tryz.prog 75 #[.pointer (some ⟨w0.heap.size,0,none⟩),.string s] W λe W'=>(∃v,e=.returned v)/\Sep w0 F0 (sb w0.heap.size (l++s.data.toList)::Δ) W':=by
 have hB:=hS.sbIs hm;have e:(Lib.byteCells l).length=l.length:=Lib.byteCells_length l;refine(Any.Builder_WriteString { Tryz.lays156 with } Tryz.Builder_Extra_156 w0.heap.size w0.heap.size (Lib.byteCells l) s W hB (by rw[e];omega) hS.size).mono ?_;rintro e w' ⟨rfl,⟨-,v,h1,h2,h3⟩,h4⟩;refine⟨⟨_,rfl⟩,?_⟩;have hb:Below w0.heap.size w0 w':=hS.below.trans h4;rw[Lib.strCells_eq,<- Lib.byteCells_append]at h2;rw[Lib.byteCells_length]at h2;refine hΔ.sep hb hS.low ⟨zY0k _,v,_,h1,h2,h3,λg hg=>⟨.inr ?_,?_⟩,.inr rfl⟩ (λg hg=>by injection hg with hg;omega)
 ·exact h2.lt g hg
 ·intro q hq e;rcases zY0g.1 hq with rfl|hq
  ·exact h3 (hg.trans e.symm)
  ·rw[(hΔ q hq).1]at e;cases e
theorem Sep.text(hS:Sep w0 F0 Γ W)(hm:At Γ (sb w0.heap.size l)) :
  Calls Tryz.prog 77 #[.pointer (some ⟨w0.heap.size,0,none⟩)] W λe W'=>e=.returned (.string ⟨l.toArray⟩)/\Below w0.heap.size w0 W' :=
 (Any.Builder_String_any Tryz.lays169 Tryz.Builder_Extra_169 w0.heap.size w0.heap.size l W (hS.sbIs hm) hS.size).mono λe w' ⟨h1,h2⟩=>⟨h1,hS.below.trans h2⟩
section
variable {P:Program} {ops:Array Oper} {Q:Exit->Act->World->Prop} {a:Act} {rest:List Oper} {o:Oper}
theorem wsb(hgd:Region.wanted o (yielded ops a.tmps)=true)(ho:o.op=.alloc 135)(hz:z65 P 135 [.pointer none,.slice none 0 0])(hΔ:FactsW W (Lt W.heap.size) Δ)
  (k:∀W',Sep W (Lt W.heap.size) (sb W.heap.size []::Δ) W'->wpList P ops Q rest (a.put o.dst (.pointer (some ⟨W.heap.size,0,none⟩))) W'):wpList P ops Q (o::rest) a W :=
 BigFrame.wpList_want hgd λK hK=>by obtain⟨z,hz1,hz2⟩:=hz;unfold Oper.wp execOp;simp only[ho,Instr.alloc,newVar,newRow,Sem.run_bind,run_newObj_alloc,Result.andThen_ok,Sem.run_pure,hz2,hz1];exact hK _ _ (k _ (Sep.sbStart (λ_ h=>h) hΔ))
end
end
attribute [irreducible] sb
theorem Yl.cat{P:Program}{w0:World}{F0:Nat->Prop}{Γ:List Res}{o:Oper}{a:Act}{t t':TypeId}{x y:Operand}{s r:List UInt8}(ho:o.op=.binOp .add t x y t')(hx:a.eval x=.string ⟨s.toArray⟩)(hy:a.eval y=.string ⟨r.toArray⟩)(hl:s.length+r.length<=1000000):Yl P w0 F0 Γ o a (.string ⟨(s++r).toArray⟩) :=
 Yl.pure λW=>by
  have e3:(⟨s.toArray⟩++⟨r.toArray⟩:ByteArray)=⟨(s++r).toArray⟩:=by apply ByteArray.ext;simp
  have hn:¬((((⟨s.toArray⟩:ByteArray).size+(⟨r.toArray⟩:ByteArray).size:Nat):Int)>IntKind.i64.max):=by simp only[ByteArray.size,zY2n,IntKind.max,IntKind.bits,IntKind.signed];omega
  unfold execOp;simp only[ho,hx,hy,binOp,Op.stringOp,zN hn,e3];rfl
theorem z_sb:z65 Tryz.prog 135 [.pointer none,.slice none 0 0]:=⟨.agg #[.pointer none,.slice none 0 0],rfl,Tryz.zeroValue135⟩
section
variable {P:Program} {W:World} {F:Nat->Prop}
theorem zxa{spec:zd}{f:Nat}{pk:List PK}{d1 d2:Dt}(hpk:z4w pk=false)(hen:En P f)(hM:Meets P spec f ⟨pk,[(false,[.scal]),(false,[.scal])],true⟩){ds:List Dt}{us:List Value}(hF:zd1 F W)(hs:spec ds=some [d1,d2])(hargs:PKRs W F pk ds us) :
  Calls P f us.toArray W λe w'=>(∃v1 v2 F',e=.returned (.tuple #[v1,v2])/\Rep w' F' d1 v1/\Rep w' F' d2 v2)/\Below W.heap.size W w':=by
 rcases hM.1 hpk W F ds us _ hF hargs hs with⟨_,h⟩|⟨v,W',h1,_⟩
 ·refine h.mono λe w' ⟨v,h1,h2,us,F',hR⟩=>⟨?_,h2⟩
  obtain⟨vs,rfl,v1,vs1,u1,u2,rfl,rfl,⟨rfl,-⟩,v2,vs2,u3,u4,rfl,rfl,⟨rfl,-⟩,rfl,rfl⟩:=hR.val;exact⟨v1,v2,F',h1,(hR.cells 0 .scal d1 v1 rfl rfl rfl).2,(hR.cells 1 .scal d2 v2 rfl rfl rfl).2⟩
 ·rw[hen.run]at h1;cases h1
end
theorem zct(n:Int)(hn:I64 n){W:World}(hG:Glob W):Calls Tryz.prog 76 #[.int .i64 n] W λe w'=>e=.returned (.string ⟨(itoa n).toArray⟩)/\Below W.heap.size W w':=by refine(Any.strconv_Itoa Tryz.lays171 n hn.1 hn.2 W hG.1).mono ?_;rintro e w' ⟨rfl,k,os,rfl⟩;exact⟨rfl,Go.Lib.below_grow _ _ (zY0k _) k os⟩
theorem zm7(l:List Op){A:Option Addr}{n c:Nat}{W:World}{F:Nat->Prop}(hF:zd1 F W)(h:Rds shOp W F l A n c) :
  Calls Tryz.prog 78 #[.slice A n c] W λe w'=>e=.returned (.tuple #[.string ⟨(z3v l).1.toArray⟩,.int .i64 (z3v l).2])/\Below W.heap.size W w':=by
 refine(zxa (us:=[.slice A n c]) rfl (z25 (fn:=Tryz.f78) ) z009 hF (zpq l) (zdk (zr0 zar h) zov)).mono ?_;rintro e w' ⟨⟨v1,v2,F',rfl,h1,h2⟩,h3⟩;obtain⟨rfl,-⟩:=zgo h1;obtain⟨rfl,-⟩:=ze2 h2;exact⟨rfl,h3⟩
end
section
open Go.Shelf
open Go.Lib (itoa)
set_option maxHeartbeats 4000000 in
theorem ztm (t:Tx) (cs:List Value) {w0 W:World} {F0:Nat->Prop} {Γ:List Res} (hS:Sep w0 F0 Γ W) (ht:At Γ (rep t cs shTx)) (hG:Glob w0) :
  Calls Tryz.prog 47 #[.agg cs.toArray] W (RV w0 F0 Γ (.tuple #[.string ⟨(z0q t).1.toArray⟩,.int .i64 (z0q t).2])):=by
 (have hO:=hS.open_tx ht;clear hS;obtain⟨A,n,c,A2,n2,c2,rfl,i1,hS⟩:=hO)
 obtain⟨hl1,hn1,hc1⟩:=hS.len (xs:=t.ins) zXc;obtain⟨hl2,hn2,hc2⟩:=hS.len (xs:=t.outs) zX6;have HP:=Lib.hid (show z0q t=if zo t≠0 then([],zo t)else(z0t t,0)from rfl);generalize z0q t=R at *;have L1:=Lib.hid hl1;have L2:=Lib.hid hl2;clear hl1 hl2;go_enter Tryz.func47,Tryz.ntmps47
 (go_wp2_with ((refine Sep.wbox hS zX1a rfl rfl ?_;clear hS;intro gt W hS;refine Stop.go ?_));refine Stop.mk ?_)
 go_wp2_with (((refine Sep.wloadNb hS zX1a rfl rfl zXc (zb5 rfl) ?_)));refine(hS.old (zfz t [_,_,_] _ _ (hS.ltsRep (At.s (At.s (At.s ht)))) (λb hb=>hb))).mono ?_;clear hS;rintro e W ⟨rfl,hS⟩;rcases Classical.em (zo t=0)with h0|h0
 ·rw[h0];have HR:Hid (R=(z0t t,0)):=Lib.hid (by rw[HP.out,zN (λh=>h h0)]);have H0:=Lib.hid h0;have hlen:n<=6/\n2<=6:=by
   have q:=h0;unfold zo z2m at q;have:=L1.out;have:=L2.out;by_cases h6:6<t.ins.length\/6<t.outs.length
   ·rw[zP h6]at q;simp at q
   ·omega
  clear h0 HP;have b0:=hS.boxCell (g:=gt) At.z 0 _ rfl;have b1:=hS.boxCell (g:=gt) At.z 1 _ rfl;have b2:=hS.boxCell (g:=gt) At.z 2 _ rfl;have gl:gt<W.heap.size:=(zY15.1 (hS.getBox (g:=gt) At.z).2).1;have hΔ:FactsW W (Lt W.heap.size) [rds t.ins A n c shIn,rds t.outs A2 n2 c2 shOut]:=.rds (hS.ltsRds zX6) (.rds (hS.ltsRds zX6) .nil);have hG1:Glob W:=hG.on hS.below;obtain⟨h,ins,outs⟩:=t;simp only at *
  rename World=>Wb
  have hSo:=hS;clear hS
  (go_wp2_with (first|(refine wsb zX1a rfl z_sb hΔ ?_;intro W1 hS;refine Stop.go ?_));refine Stop.mk ?_)
  have c0:=(hS.below.cell (p:=⟨gt,0,none⟩) gl).trans b0;go_wp2_with fail;refine(hS.old (zct h i1 (hG1.on hS.below))).mono ?_;clear hS;rintro e W ⟨rfl,hS⟩;have li:=z7a h i1;go_wp2_with fail;refine(hS.write (l:=[]) zXc hΔ _ zXx).mono ?_;clear hS;rintro e W2 ⟨⟨v,rfl⟩,hS⟩;have c1:=(hS.below.cell (p:=⟨gt,1,none⟩) gl).trans b1;go_wp2_with fail;have e0:[]++((⟨#[116,120,32]⟩:ByteArray)++⟨(itoa h).toArray⟩++⟨#[10]⟩).data.toList=z5f ⟨h,ins,outs⟩:=by simp[ByteArray.data_append,z5f]
  rw[e0]at hS;clear e0;have lh:(z5f ⟨h,ins,outs⟩).length<=24:=by simp[z5f];omega
  go_loopw [7,8,9,28] (λ_ _ _ i wr=>∃k:Nat,k<=n/\i=.int .i64 k/\∃l:List UInt8,l.length<=24+200*k/\Hid (l=z5f ⟨h,ins,outs⟩++(ins.take k).flatMap z43)/\Sep Wb (Lt Wb.heap.size) (sb Wb.heap.size l::rds ins A n c shIn::rds outs A2 n2 c2 shOut::[]) wr) (λ_ _ _ i _=>n-(intOf i).toNat);case atStart=>exact⟨0,by omega,rfl,z5f ⟨h,ins,outs⟩,by omega,Lib.hid zX4,hS.sub zX2⟩
  case round =>
   clear hS c1 c0;obtain⟨k,hk,rfl,l,hl,HL,hS⟩:=hrel;rcases Classical.em (k<n)with hlt|hlt
   ·(have hO:=hS.elemIn (xs:=ins) zX6 hlt;clear hS;obtain⟨b,off,x,A1,n1,c1,rfl,hx,j1,j2,hS⟩:=hO)
    have HX:=Lib.hid hx;have k1:(0:Int)<=(k:Int):=zX0;have k2:(k:Int)<(n:Int):=zX0;clear hx;obtain⟨⟨ptx,pat⟩,key⟩:=x;simp only at j1 j2 hS
    (go_wp2_with (first|(refine Sep.wloadNz hS zX1a rfl rfl zX6 (zb5 rfl) ?_)|(refine Sep.walloc hS zX1a rfl (by first|exact z_op|exact z_in) ?_;clear hS;intro g W hS)|(refine Sep.wstoreNb hS zX1a rfl rfl rfl (zb5 rfl) zX1j zX6 zX1a zXp ?_;clear hS;intro W hS;refine Stop.go ?_));refine Stop.mk ?_)
    have x2:=hS.boxCell (g:=g) (cs:=[.int .i64 ptx,.int .i64 pat,.slice A1 n1 c1]) zXc 2 _ rfl;go_wp2_with fail;refine(hS.old (zm7 key ⟨λb hb=>hb,hG1.on hS.below⟩ (hS.ltsRds zX6))).mono ?_;clear hS;rintro e W ⟨rfl,hS⟩;clear x2;have lp:=zdn key;have l1:=z7a ptx j1;have l2:=z7a pat j2;go_wp2_with fail
    (refine Sep.regionT hS [15] zX1 ?_;clear hS;intro W hS)
    (refine z2p 0 rfl rfl (by((apply Yl.pure;intro W;go_simp;with_reducible rfl))) (hS.sub zX2) zX1 (λ_ _ _ h=>h) ?_;simp only[Act.put,zY09,zY0n,zY0o])
    (refine z2p 1 rfl rfl (by((apply Yl.pure;intro W;go_simp;with_reducible rfl))) (hS.sub zX2) zX1 (λ_ _ _ h=>h) ?_;simp only[Act.put,zY09,zY0n,zY0o])
    (refine z2p 2 rfl rfl zXq (hS.sub zX2) zX1 (λ_ _ _ h=>h) ?_;simp only[Act.put,zY09,zY0n,zY0o])
    (refine z2p 6 rfl rfl (by((apply Yl.pure;intro W;go_simp;with_reducible rfl))) (hS.sub zX2) zX1 (λ_ _ _ h=>h) ?_;simp only[Act.put,zY09,zY0n,zY0o])
    (refine z2p 7 rfl rfl (by((apply Yl.pure;intro W;go_simp;with_reducible rfl))) (hS.sub zX2) zX1 (λ_ _ _ h=>h) ?_;simp only[Act.put,zY09,zY0n,zY0o])
    (refine z2p 8 rfl rfl zXq (hS.sub zX2) zX1 (λ_ _ _ h=>h) ?_;simp only[Act.put,zY09,zY0n,zY0o])
    (refine z2p 12 rfl rfl (by(exact Yl.move rfl)) (hS.sub zX2) zX1 (λ_ _ _ h=>h) ?_;simp only[Act.put,zY09,zY0n,zY0o])
    refine zk8 3 zX1 rfl ?_;go_wp2_with fail;refine(hS.old (zct ptx j1 (hG1.on hS.below))).mono ?_;clear hS;rintro e W ⟨rfl,hS⟩;go_wp2_with fail
    (refine⟨λ_=>hS.sub zX2,?_⟩;try simp only[Act.put,zY09,zY0n,zY0o])
    (refine z2p 4 rfl rfl (Yl.cat rfl rfl rfl zX8) (hS.sub zX2) zX1 (λ_ _ _ h=>h) ?_;simp only[Act.put,zY09,zY0n,zY0o])
    (refine z2p 5 rfl rfl (Yl.cat rfl rfl rfl zX8) (hS.sub zX2) zX1 (λ_ _ _ h=>h) ?_;simp only[Act.put,zY09,zY0n,zY0o])
    refine zk8 9 zX1 rfl ?_;go_wp2_with fail;refine(hS.old (zct pat j2 (hG1.on hS.below))).mono ?_;clear hS;rintro e W ⟨rfl,hS⟩;go_wp2_with fail
    (refine⟨λ_=>hS.sub zX2,?_⟩;try simp only[Act.put,zY09,zY0n,zY0o])
    (refine z2p 10 rfl rfl (Yl.cat rfl rfl rfl zX8) (hS.sub zX2) zX1 (λ_ _ _ h=>h) ?_;simp only[Act.put,zY09,zY0n,zY0o])
    (refine z2p 11 rfl rfl (Yl.cat rfl rfl rfl zX8) (hS.sub zX2) zX1 (λ_ _ _ h=>h) ?_;simp only[Act.put,zY09,zY0n,zY0o])
    (refine z2p 13 rfl rfl (Yl.cat rfl rfl rfl zX8) (hS.sub zX2) zX1 (λ_ _ _ h=>h) ?_;simp only[Act.put,zY09,zY0n,zY0o])
    (refine z2p 14 rfl rfl (Yl.cat rfl rfl rfl zX8) (hS.sub zX2) zX1 (λ_ _ _ h=>h) ?_;simp only[Act.put,zY09,zY0n,zY0o])
    refine zk8 15 zX1 rfl ?_;go_wp2_with fail;refine(hS.write (l:=l) zX6 hΔ _ zXx).mono ?_;clear hS;rintro e W2 ⟨⟨v,rfl⟩,hS⟩;go_wp2_with fail
    (refine⟨λh=>z025 zX1 h,?_⟩;try simp only[Act.put,zY09,zY0n,zY0o])
    refine zm6 zX1 ?_;go_wp2_with fail;rw[show l++105::110::32::(itoa ptx++32::(itoa pat++58::((z3v key).1++[10])))=l++z43 ⟨⟨ptx,pat⟩,key⟩by simp[z43]]at hS;go_roundw;case measure=>simp[intOf];omega
    case rel=>exact⟨k+1,by omega,by go_num,l++z43 ⟨⟨ptx,pat⟩,key⟩,by simp[z43];omega,Lib.hid (by rw[z3x HX.out,HL.out];simp),hS.sub zX2⟩
   ·obtain rfl:k=n:=zX0;have d2:=(hS.below.cell (p:=⟨gt,2,none⟩) gl).trans b2;have HL2:Hid (l=z5f ⟨h,ins,outs⟩++ins.flatMap z43):=Lib.hid (by rw[HL.out,zY0v (by have:=L1.out;omega)]);clear HL;go_wp2_with fail;clear d2;go_loopw [11,12,13,58] (λ_ _ _ i wr=>∃k:Nat,k<=n2/\i=.int .i64 k/\∃m:List UInt8,m.length<=l.length+200*k/\Hid (m=l++(outs.take k).flatMap z32)/\Sep Wb (Lt Wb.heap.size) (sb Wb.heap.size m::rds outs A2 n2 c2 shOut::[]) wr) (λ_ _ _ i _=>n2-(intOf i).toNat);case atStart=>exact⟨0,by omega,rfl,l,by omega,Lib.hid zX4,hS.sub zXj⟩
    case round =>
     clear hS;obtain⟨k,hk,rfl,m,hm,HM,hS⟩:=hrel;rcases Classical.em (k<n2)with hlt|hlt
     ·(have hO:=hS.elemOut (xs:=outs) zX6 hlt;clear hS;obtain⟨b,off,x,A1,n1,c1,rfl,hx,j1,hS⟩:=hO)
      have HX:=Lib.hid hx;have k1:(0:Int)<=(k:Int):=zX0;have k2:(k:Int)<(n2:Int):=zX0;clear hx;obtain⟨coin,lock⟩:=x;simp only at j1 hS
      (go_wp2_with (first|(refine Sep.wloadNz hS zX1a rfl rfl zX6 (zb5 rfl) ?_)|(refine Sep.walloc hS zX1a rfl (by first|exact z_op|exact z0h1) ?_;clear hS;intro g W hS)|(refine Sep.wstoreNb hS zX1a rfl rfl rfl (zb5 rfl) zX1j zX6 zX1a zXp ?_;clear hS;intro W hS;refine Stop.go ?_));refine Stop.mk ?_)
      have x1:=hS.boxCell (g:=g) (cs:=[.int .i64 coin,.slice A1 n1 c1]) zXc 1 _ rfl;go_wp2_with fail;refine(hS.old (zm7 lock ⟨λb hb=>hb,hG1.on hS.below⟩ (hS.ltsRds zX6))).mono ?_;clear hS;rintro e W ⟨rfl,hS⟩;clear x1;have lp:=zdn lock;have l1:=z7a coin j1;have x0:=hS.boxCell (g:=g) (cs:=[.int .i64 coin,.slice A1 n1 c1]) zXc 0 _ rfl;go_wp2_with fail;refine(hS.old (zct coin j1 (hG1.on hS.below))).mono ?_;clear hS;rintro e W ⟨rfl,hS⟩;clear x0;go_wp2_with fail;refine(hS.write (l:=m) zX6 hΔ _ zXx).mono ?_;clear hS;rintro e W2 ⟨⟨v,rfl⟩,hS⟩;go_wp2_with fail;have e2:((⟨#[111,117,116,32]⟩:ByteArray)++⟨(itoa coin).toArray⟩++⟨#[58]⟩++⟨(z3v lock).1.toArray⟩++⟨#[10]⟩).data.toList=z32 ⟨coin,lock⟩:=by simp[ByteArray.data_append,z32]
      rw[e2]at hS;clear e2;go_roundw;case measure=>simp[intOf];omega
      case rel=>exact⟨k+1,by omega,by go_num,m++z32 ⟨coin,lock⟩,by simp[z32];omega,Lib.hid (by rw[z3x HX.out,HM.out];simp),hS.sub zXj⟩
     ·obtain rfl:k=n2:=zX0;go_wp2_with fail;refine(hS.text zXc).mono ?_;clear hS;rintro e W3 ⟨rfl,hB⟩;have hS:=hSo.belows hB;go_wp2_with fail;have em:m=z0t ⟨h,ins,outs⟩:=by rw[HM.out,HL2.out,zY0v (by have:=L2.out;omega)];rfl
      rw[em];refine bodyPost_ret (zhy rfl zXs zXs) rfl ?_;exact⟨by rw[HR.out];rfl,hS.sub zXk⟩
 ·have q:((zo t)!=0)=true:=by simp[h0]
  have HR:Hid (R=([],zo t)):=Lib.hid (by rw[HP.out,zP h0]);clear h0 HP;go_wp2_with fail;refine bodyPost_ret (zhy rfl zXs zXs) rfl ?_;exact⟨by rw[HR.out];rfl,hS.sub zXk⟩
end
section
open Go.Shelf
open Go.Lib (itoa)
noncomputable def z92:zd:=spD (λ_:Tx=>True) λt=>z0q t
theorem zum(t:Tx):z92 (eTx t)=some [.s (z0q t).1,I (z0q t).2]:=zi (f:=λt:Tx=>z0q t) t trivial
theorem z041(t:Tx):I64 (z0q t).2:=by
 unfold z0q;split
 ·exact(z03o t).i64
 ·show I64 0;exact⟨by decide,by decide⟩
theorem z078:Meets Tryz.prog z92 47 zW18 :=
 zaf rfl (z25 (fn:=Tryz.f47) ) λt _ W F us hF h=>by obtain⟨cs,rfl,hr⟩:=zeg h;have hS:Sep W F [rep t cs shTx] W:=(Sep.start W F hF.1).addRep (S:=shTx) (shTx.more (λb hb=>⟨.inl hb,by simp⟩) (she_tx.of hr));refine(ztm t cs hS At.z hF.2).mono ?_;rintro e w' ⟨rfl,hS'⟩;exact⟨_,rfl,hS'.below,zrg rfl rfl (.s _ (by have:=zpj t;omega)) (.i _ _ (wrap_i64 (z041 t)))⟩
theorem Yl.base{P:Program}{w0:World}{F0:Nat->Prop}{Γ:List Res}{o:Oper}{a:Act}{t:TypeId}{x:Operand}{g j:Nat}{v:Value}(ho:o.op=.load t x)(hx:a.eval x=.pointer (some ⟨g,j,none⟩))(h1:OneT P t)(hg:g<w0.heap.size)(hc:w0.cell? ⟨g,j,none⟩=some v):Yl P w0 F0 Γ o a v :=
 Yl.load ho hx λW hS=>h1.load ((hS.below.cell (p:=⟨g,j,none⟩) hg).trans hc)
set_option maxHeartbeats 4000000 in
theorem z042 (t:Block) (cs:List Value) {w0 W:World} {F0:Nat->Prop} {Γ:List Res} (hS:Sep w0 F0 Γ W) (ht:At Γ (rep t cs shBlock)) (hG:Glob w0) :
  Calls Tryz.prog 46 #[.agg cs.toArray] W (RV w0 F0 Γ (.tuple #[.string ⟨(z18 t).1.toArray⟩,.int .i64 (z18 t).2])):=by
 (have hO:=hS.open_block ht;clear hS;obtain⟨A,n,c,rfl,i1,i2,i3,i4,hS⟩:=hO)
 obtain⟨hl1,hn1,hc1⟩:=hS.len (xs:=t.txs) zXc;have HP:=Lib.hid (show z18 t=if zf t≠0 then([],zf t)else(z1m t,0)from rfl);generalize z18 t=R at *;have L1:=Lib.hid hl1;clear hl1;go_enter Tryz.func46,Tryz.ntmps46
 (go_wp2_with ((refine Sep.wbox hS zX1a rfl rfl ?_;clear hS;intro gt W hS;refine Stop.go ?_));refine Stop.mk ?_)
 go_wp2_with (((refine Sep.wloadNb hS zX1a rfl rfl zXc (zb5 rfl) ?_)));refine(hS.old (zgn t [_,_,_,_,_] _ _ (hS.ltsRep (At.s (At.s ht))) (λb hb=>hb))).mono ?_;clear hS;rintro e W ⟨rfl,hS⟩;rcases Classical.em (zf t=0)with h0|h0
 ·rw[h0];have HR:Hid (R=(z1m t,0)):=Lib.hid (by rw[HP.out,zN (λh=>h h0)]);have H0:=Lib.hid h0;have hlen:n<=4:=by have:=(z1b h0).len;have:=L1.out;omega
  clear h0 HP;have b0:=hS.boxCell (g:=gt) At.z 0 _ rfl;have b1:=hS.boxCell (g:=gt) At.z 1 _ rfl;have b2:=hS.boxCell (g:=gt) At.z 2 _ rfl;have b3:=hS.boxCell (g:=gt) At.z 3 _ rfl;have b4:=hS.boxCell (g:=gt) At.z 4 _ rfl;have gl:gt<W.heap.size:=(zY15.1 (hS.getBox (g:=gt) At.z).2).1;have hΔ:FactsW W (Lt W.heap.size) [rds t.txs A n c shTx]:=.rds (hS.ltsRds zX6) .nil;have hG1:Glob W:=hG.on hS.below;obtain⟨bp,bh,bw,bn,txs⟩:=t;simp only at *
  rename World=>Wb
  have hSo:=hS;clear hS
  (go_wp2_with (first|(refine wsb zX1a rfl z_sb hΔ ?_;intro W1 hS;refine Stop.go ?_));refine Stop.mk ?_)
  have l1:=z7a bp i1;have l2:=z7a bh i2;have l3:=z7a bw i3;have l4:=z7a bn i4;go_wp2_with fail
  (refine Sep.regionT hS [20] zX1 ?_;clear hS;intro W hS)
  (refine z2p 0 rfl rfl (by((apply Yl.pure;intro W;go_simp;with_reducible rfl))) (hS.sub zX2) zX1 (λ_ _ _ h=>h) ?_;simp only[Act.put,zY09,zY0n,zY0o])
  (refine z2p 1 rfl rfl (Yl.base rfl rfl (zgw rfl) gl b0) (hS.sub zX2) zX1 (λ_ _ _ h=>h) ?_;simp only[Act.put,zY09,zY0n,zY0o])
  (refine z2p 5 rfl rfl (by((apply Yl.pure;intro W;go_simp;with_reducible rfl))) (hS.sub zX2) zX1 (λ_ _ _ h=>h) ?_;simp only[Act.put,zY09,zY0n,zY0o])
  (refine z2p 6 rfl rfl (Yl.base rfl rfl (zgw rfl) gl b1) (hS.sub zX2) zX1 (λ_ _ _ h=>h) ?_;simp only[Act.put,zY09,zY0n,zY0o])
  (refine z2p 10 rfl rfl (by((apply Yl.pure;intro W;go_simp;with_reducible rfl))) (hS.sub zX2) zX1 (λ_ _ _ h=>h) ?_;simp only[Act.put,zY09,zY0n,zY0o])
  (refine z2p 11 rfl rfl (Yl.base rfl rfl (zgw rfl) gl b2) (hS.sub zX2) zX1 (λ_ _ _ h=>h) ?_;simp only[Act.put,zY09,zY0n,zY0o])
  (refine z2p 15 rfl rfl (by((apply Yl.pure;intro W;go_simp;with_reducible rfl))) (hS.sub zX2) zX1 (λ_ _ _ h=>h) ?_;simp only[Act.put,zY09,zY0n,zY0o])
  (refine z2p 16 rfl rfl (Yl.base rfl rfl (zgw rfl) gl b3) (hS.sub zX2) zX1 (λ_ _ _ h=>h) ?_;simp only[Act.put,zY09,zY0n,zY0o])
  refine zk8 2 zX1 rfl ?_;go_wp2_with fail;refine(hS.old (zct bp i1 (hG1.on hS.below))).mono ?_;clear hS;rintro e W ⟨rfl,hS⟩;go_wp2_with fail
  (refine⟨λ_=>hS.sub zX2,?_⟩;try simp only[Act.put,zY09,zY0n,zY0o])
  (refine z2p 3 rfl rfl (Yl.cat rfl rfl rfl zX8) (hS.sub zX2) zX1 (λ_ _ _ h=>h) ?_;simp only[Act.put,zY09,zY0n,zY0o])
  (refine z2p 4 rfl rfl (Yl.cat rfl rfl rfl zX8) (hS.sub zX2) zX1 (λ_ _ _ h=>h) ?_;simp only[Act.put,zY09,zY0n,zY0o])
  refine zk8 7 zX1 rfl ?_;go_wp2_with fail;refine(hS.old (zct bh i2 (hG1.on hS.below))).mono ?_;clear hS;rintro e W ⟨rfl,hS⟩;go_wp2_with fail
  (refine⟨λ_=>hS.sub zX2,?_⟩;try simp only[Act.put,zY09,zY0n,zY0o])
  (refine z2p 8 rfl rfl (Yl.cat rfl rfl rfl zX8) (hS.sub zX2) zX1 (λ_ _ _ h=>h) ?_;simp only[Act.put,zY09,zY0n,zY0o])
  (refine z2p 9 rfl rfl (Yl.cat rfl rfl rfl zX8) (hS.sub zX2) zX1 (λ_ _ _ h=>h) ?_;simp only[Act.put,zY09,zY0n,zY0o])
  refine zk8 12 zX1 rfl ?_;go_wp2_with fail;refine(hS.old (zct bw i3 (hG1.on hS.below))).mono ?_;clear hS;rintro e W ⟨rfl,hS⟩;go_wp2_with fail
  (refine⟨λ_=>hS.sub zX2,?_⟩;try simp only[Act.put,zY09,zY0n,zY0o])
  (refine z2p 13 rfl rfl (Yl.cat rfl rfl rfl zX8) (hS.sub zX2) zX1 (λ_ _ _ h=>h) ?_;simp only[Act.put,zY09,zY0n,zY0o])
  (refine z2p 14 rfl rfl (Yl.cat rfl rfl rfl zX8) (hS.sub zX2) zX1 (λ_ _ _ h=>h) ?_;simp only[Act.put,zY09,zY0n,zY0o])
  refine zk8 17 zX1 rfl ?_;go_wp2_with fail;refine(hS.old (zct bn i4 (hG1.on hS.below))).mono ?_;clear hS;rintro e W ⟨rfl,hS⟩;go_wp2_with fail
  (refine⟨λ_=>hS.sub zX2,?_⟩;try simp only[Act.put,zY09,zY0n,zY0o])
  (refine z2p 18 rfl rfl (Yl.cat rfl rfl rfl zX8) (hS.sub zX2) zX1 (λ_ _ _ h=>h) ?_;simp only[Act.put,zY09,zY0n,zY0o])
  (refine z2p 19 rfl rfl (Yl.cat rfl rfl rfl zX8) (hS.sub zX2) zX1 (λ_ _ _ h=>h) ?_;simp only[Act.put,zY09,zY0n,zY0o])
  refine zk8 20 zX1 rfl ?_;go_wp2_with fail;refine(hS.write (l:=[]) zXc hΔ _ zXx).mono ?_;clear hS;rintro e W2 ⟨⟨v,rfl⟩,hS⟩;go_wp2_with fail
  (refine⟨λh=>z025 zX1 h,?_⟩;try simp only[Act.put,zY09,zY0n,zY0o])
  refine zm6 zX1 ?_;have e0:[]++98::108::111::99::107::32::(itoa bp++32::(itoa bh++32::(itoa bw++32::(itoa bn++[10]))))=z5j ⟨bp,bh,bw,bn,txs⟩:=by simp[z5j]
  have lh:(z5j ⟨bp,bh,bw,bn,txs⟩).length<=100:=by simp[z5j];omega
  have d4:=(hS.below.cell (p:=⟨gt,4,none⟩) gl).trans b4;go_wp2_with fail;clear d4;rw[e0]at hS;clear e0;go_loopw [7,8,9,39] (λ_ _ _ i wr=>∃k:Nat,k<=n/\i=.int .i64 k/\∃l:List UInt8,l.length<=100+2500*k/\Hid (l=z5j ⟨bp,bh,bw,bn,txs⟩++(txs.take k).flatMap λt=>(z0q t).1)/\Sep Wb (Lt Wb.heap.size) (sb Wb.heap.size l::rds txs A n c shTx::[]) wr) (λ_ _ _ i _=>n-(intOf i).toNat);case atStart=>exact⟨0,by omega,rfl,z5j ⟨bp,bh,bw,bn,txs⟩,by omega,Lib.hid zX4,hS.sub zX2⟩
  case round =>
   clear hS;obtain⟨k,hk,rfl,l,hl,HL,hS⟩:=hrel;rcases Classical.em (k<n)with hlt|hlt
   ·(have hO:=hS.elemTxR (xs:=txs) zX6 hlt;clear hS;obtain⟨b,off,x,A1,n1,c1,A2,n2,c2,rfl,hx,hS⟩:=hO)
    have HX:=Lib.hid hx;have k1:(0:Int)<=(k:Int):=zX0;have k2:(k:Int)<(n:Int):=zX0;clear hx
    (go_wp2_with (first|(refine Sep.wloadNz hS zX1a rfl rfl zX6 (zb5 rfl) ?_)|(refine Sep.walloc hS zX1a rfl (by first|exact z_op|exact z_tx) ?_;clear hS;intro g W hS)|(refine Sep.wstoreNb hS zX1a rfl rfl rfl (zb5 rfl) zX1j zX6 zX1a zXp ?_;clear hS;intro W hS;refine Stop.go ?_));refine Stop.mk ?_)
    go_wp2_with (((refine Sep.wloadNb hS zX1a rfl rfl zXc (zb5 rfl) ?_)));refine(ztm x [_,_,_] hS zX6 hG1).mono ?_;clear hS;rintro e W ⟨rfl,hS⟩;have lp:=zpj x;go_wp2_with fail;refine(hS.write (l:=l) zX6 hΔ _ zXx).mono ?_;clear hS;rintro e W2 ⟨⟨v,rfl⟩,hS⟩;go_wp2_with fail;go_roundw;case measure=>simp[intOf];omega
    case rel=>exact⟨k+1,by omega,by go_num,l++(z0q x).1,by simp;omega,Lib.hid (by rw[z3x HX.out,HL.out];simp),hS.sub zX2⟩
   ·obtain rfl:k=n:=zX0;go_wp2_with fail;refine(hS.text zXc).mono ?_;clear hS;rintro e W3 ⟨rfl,hB⟩;have hS:=hSo.belows hB;go_wp2_with fail;have em:l=z1m ⟨bp,bh,bw,bn,txs⟩:=by
     rw[HL.out,zY0v (by have:=L1.out;omega)];unfold z1m;congr 1;have key:∀t∈txs,(z0q t).1=z0t t:=λt ht=>by rw[zpk ((z1b H0.out).each t ht)]
     simp only[List.flatMap_def];rw[List.map_congr_left key]
    rw[em];refine bodyPost_ret (zhy rfl zXs zXs) rfl ?_;exact⟨by rw[HR.out];rfl,hS.sub zXk⟩
 ·have q:((zf t)!=0)=true:=by simp[h0]
  have HR:Hid (R=([],zf t)):=Lib.hid (by rw[HP.out,zP h0]);clear h0 HP;go_wp2_with fail;refine bodyPost_ret (zhy rfl zXs zXs) rfl ?_;exact⟨by rw[HR.out];rfl,hS.sub zXk⟩
noncomputable def z7w:zd:=spD (λ_:Block=>True) λt=>z18 t
theorem zro(t:Block):z7w (z08 t)=some [.s (z18 t).1,I (z18 t).2]:=zi (f:=λt:Block=>z18 t) t trivial
theorem z00c(t:Block):I64 (z18 t).2:=by
 unfold z18;split
 ·exact(z06u t).i64
 ·show I64 0;exact⟨by decide,by decide⟩
theorem z043:Meets Tryz.prog z7w 46 zW19 :=
 zaf rfl (z25 (fn:=Tryz.f46) ) λt _ W F us hF h=>by obtain⟨cs,rfl,hr⟩:=zeg h;have hS:Sep W F [rep t cs shBlock] W:=(Sep.start W F hF.1).addRep (S:=shBlock) (shBlock.more (λb hb=>⟨.inl hb,by simp⟩) (she_block.of hr));refine(z042 t cs hS At.z hF.2).mono ?_;rintro e w' ⟨rfl,hS'⟩;exact⟨_,rfl,hS'.below,zrg rfl rfl (.s _ (by have:=zzs t;omega)) (.i _ _ (wrap_i64 (z00c t)))⟩
end
section
open Go.Lib (itoa atoiAll atoiSat)
section
variable {sp:Nat->zd} {N:Nat} {E E':Env} {ks:List (List Dt->Option (List Dt))} {res:Option (List Dt)}
end
def zxb(acc:List Op)(ws:List (List UInt8)):List Op×Int:=match zr8 ws with
 |none=>([],1)
 |some l=>if zb (acc++l)≠0 then([],zb (acc++l))else(acc++l,0)
attribute [local irreducible] den denX z0s z0w z09 spD z1w itoa zb z2e z4n z4f zxb zel z84 zwn zjx zjy
end
noncomputable def z74:zd:=spD (λ_:List (List UInt8)×List UInt8=>True) λx=>idx x.1 x.2
theorem zka(a:List (List UInt8))(b:List UInt8):z74 [.l 1 (a.map z0a),.s b]=some [I (idx a b)]:=zi (f:=λx:List (List UInt8)×List UInt8=>idx x.1 x.2) (a,b) trivial
theorem zxc:Meets Tryz.prog z74 19 zW00 :=
 zb0 rfl (z25 (fn:=Tryz.f19) ) λ⟨a,b⟩ _ W F us hF h=>by
  obtain⟨v,us,rfl,h1,h⟩:=z1c h;obtain⟨v2,us,rfl,h2,h⟩:=z1c h;obtain rfl:=z1y h;obtain⟨A,n,c,rfl,k1⟩:=z2u ze1 h1;obtain⟨rfl,k2⟩:=zgo h2;have hl:a.length<=9223372036854775807:=by have h1:=k1.1;have h2:=k1.2.1;have h3:=k1.2.2.1;simp only at h1 h2 h3;omega
  have hb:=zju a b;exact⟨⟨by simp only;omega,by simp only at hb⊢;omega⟩,(z06n a b A n c W F k1).mono λe w' h=>⟨h.1,h.2▸Below.refl _ _⟩⟩
section
open Go.Lib (itoa)
end
section
open Go.Lib (itoa)
def tBlk:List UInt8:=[98,108,111,99,107]
def z0h3:List UInt8:=[10,116,120,32]
def zxd(s:List UInt8):Int:=Go.Lib.index (s.drop 1) z0h3
def z044(s:List UInt8):List UInt8:=if 0<=zxd s then s.take (zxd s+2).toNat else s
def z079:Nat->List UInt8->List (List UInt8)
 |0,_=>[]
 |f+1,s=>if s=[]then[]else z044 s::z079 f (s.drop (z044 s).length)
structure PlainL(l:List UInt8):Prop where
 ne:∀b∈l,b≠10
 no:∀s,List.isPrefixOf tTx (l++s)=false
end
section
open Go.Lib (itoa)
def zxe:List UInt8->List (List UInt8)
 | []=>[[]]
 |b::l=>if b=10 then[10]::zxe l else match zxe l with
  | []=>[[b]]
  |x::xs=>(b::x)::xs
end
section
attribute [local irreducible] z09 spD z1w
def zbz:T:=zC 9 [0] (zL 1 (.loop [zI 0,1] (zQ .lss 3 2 5 (zE 6 4 3 (zC 10 [9] (.W [] [.inr 6 4 3] (zS (.set 4 3 3 [12]) (zUa 3 14 13))))) (.ret [4]))))
def zUx(a b c:Atom):T:=zB .add a (zI 1) (.again 1 [b,c])
def zUi:T:=.loop [zI 0,zI 0] (zQ .lss 6 4 7 (zE 6 3 6 (zB .add 5 10 (zUa 6 14 15))) (zL 2 (.loop [5,zI 0] (zQ .lss 10 8 11 (zE 2 2 10 (zB .sub 9 12 (zUx 10 14 15))) (.ret [9])))))
def zrp:T:=zL 3 zUi
def z54(l:List Coin):Prop:=l.length<=1000000/\∀c∈l,c.o.lock.length<=8796093022208
theorem CoinsOK.short{l:List Coin}(h:CoinsOK l):z54 l:=⟨by have:=h.len;omega,λc hc=>by have:=zaz (z49 (h.good c hc)).2.2.2.2.2.2.2.2;omega⟩
noncomputable def zag:zd:=spD z54 λl=>l
theorem zeo(l:List Coin)(h:z54 l):zag [.l 6 (l.map za)]=some [.l 6 (l.map za)]:=zi (p:=z54) (f:=λl:List Coin=>l) l h
theorem zxf:Meets Tryz.prog zag 12 zW03:=by
 refine zg (sp:=(zx [(9,z5b),(10,z61)])) (sigs:=z02) (cut:=[]) (hints:=[⟨3,[.t 9,.o 6]⟩]) (fn:=Tryz.f12) (t:=zbz) ?_ ?_
 ·exact(zq (L:=[(9,z5b),(10,z61)]) ⟨z7 rfl zni,z7 rfl zpc,trivial⟩)
 ·rintro ds rs-h;obtain⟨l,⟨hl,hk⟩,rfl,rfl⟩:=zh h;clear h;refine⟨⟨l.length+1,?_⟩,zm3 (by simp[zu,CF.isScal])⟩;show den _ _ zbz [.l 6 (l.map za)] []=ret l;unfold zbz;repeat'(first|refine dq1 ?_|refine dqk rfl (z8i _ hl) ?_|fail)
  (refine zj (λ(_:Unit) k=>[I k,.l 6 (l.map za)]) (λ_ _ _=>l) (λ_ _=>True) () l ?_ ?_ ?_ ?_ ?_;rfl;exact trivial;exact zY29 _)
  ·rintro _ k c r hx hd hkl-again hag;repeat'(first|refine dq1 ?_|refine dqc ?_|refine dqm ?_|refine dqk rfl (z90 _ (hk c (zY06 hx))) ?_|refine dqT ?_|fail)
   refine z4 (z8y rfl rfl rfl zX0 zX4 (by exact hx) rfl) ?_;repeat'(first|refine dq1 ?_|exact z6 rfl rfl (hag () trivial)|fail)
  ·intro _ _ again;repeat'(first|refine dq1 ?_|exact z5 rfl rfl|refine dqF ?_|fail)
theorem z00d(l:List Coin):∀s:Int,l.foldl (λs c=>s+c.o.coin) s=s+zm l:=by
 induction l with
 |nil=>intro s;simp[zm]
 |cons c l ih=>intro s;rw[List.foldl_cons,ih,zm];omega
def z16(t:Tx)(l:List Coin):Int:=t.outs.foldl (λs o=>s-o.coin) (l.foldl (λs c=>s+c.o.coin) 0)
def z9l(x:Tx×List Coin):Prop:=x.2.length<=1000000/\(∀c∈x.2,0<=c.o.coin/\c.o.coin<=1000000000)/\x.1.outs.length<=1000000/\∀o∈x.1.outs,0<=o.coin/\o.coin<=1000000000
noncomputable def za1:zd:=spD z9l λx=>z16 x.1 x.2
theorem zg2(t:Tx)(l:List Coin)(h:z9l (t,l)):za1 [I t.height,.l 3 (t.ins.map eIn),.l 2 (t.outs.map z30),.l 6 (l.map za)]=some [I (z16 t l)]:=zi (p:=z9l) (f:=λx:Tx×List Coin=>z16 x.1 x.2) (t,l) h
theorem z026:Meets Tryz.prog za1 65 zW0h:=by
 refine zg (sp:=(zx [])) (sigs:=z02) (cut:=[]) (hints:=[⟨3,[.t 5,.t 12]⟩,⟨8,[.t 5,.t 25]⟩]) (fn:=Tryz.f65) (t:=zrp) ?_ ?_
 ·exact(zq (L:=[]) trivial)
 ·rintro ds rs-h;obtain⟨⟨t,l⟩,⟨h1,h2,h3,h4⟩,rfl,rfl⟩:=zh h;clear h;simp only at h1 h2 h3 h4;refine⟨⟨l.length+t.outs.length+1,?_⟩,z0b rfl⟩;show den _ _ zrp [I t.height,.l 3 (t.ins.map eIn),.l 2 (t.outs.map z30),.l 6 (l.map za)] []=ret (z16 t l);unfold zrp z16;repeat'(first|refine dq1 ?_|fail)
  (refine zj (λ(s:Int) k=>[I s,I k]) (λ(s:Int) _ (r:List Coin)=>t.outs.foldl (λs o=>s-o.coin) (r.foldl (λs c=>s+c.o.coin) s)) (λs k=>0<=s/\s<=k*1000000000) (0:Int) l ?_ ?_ ?_ ?_ ?_;rfl;exact⟨by omega,by omega⟩;omega)
  ·rintro s k c r hx hd hkl ⟨h0,h5⟩ again hag;have hc:=h2 c (zY06 hx);repeat'(first|refine dq1 ?_|refine dqc ?_|refine dqm ?_|refine dqT ?_|fail)
   exact z6 rfl rfl (hag (s+c.o.coin) ⟨by omega,by omega⟩)
  ·rintro s ⟨h0,h5⟩ again;repeat'(first|refine dq1 ?_|refine dqF ?_|fail)
   (refine zj (λ(s:Int) k=>[I s,I k]) (λ(s:Int) _ (r:List Out)=>r.foldl (λs o=>s-o.coin) s) (λs k => - (k*1000000000)<=s/\s<=l.length*1000000000) s t.outs ?_ ?_ ?_ ?_ ?_;rfl;exact⟨by omega,by omega⟩;omega)
   ·rintro s k c r hx hd hkl ⟨h0,h5⟩ again' hag;have hc:=h4 c (zY06 hx);repeat'(first|refine dq1 ?_|refine dqc ?_|refine dqm ?_|refine dqT ?_|fail)
    exact z6 rfl rfl (hag (s-c.coin) ⟨by omega,by omega⟩)
   ·rintro s ⟨h0,h5⟩ again';repeat'(first|refine dq1 ?_|exact z5 rfl rfl|refine dqF ?_|fail)
def z6s:Coin:=⟨⟨0,0⟩,⟨0,[]⟩,0,false⟩
def zgx(l:List Coin)(p:Point):Coin×Int:=if z9 l≠0 then(z6s,z9 l)else if z1q l p=true then((l[zp l p]?).getD z6s,0)else(z6s,7)
end
section
theorem zm8(l m:List Op):zby [.l 2 (l.map eOp),.l 2 (m.map eOp)]=some [.b (decide (l=m))]:=zi (f:=λx:List Op×List Op=>decide (x.1=x.2)) (l,m) trivial
theorem z027:Meets Tryz.prog zby 59 zW00 :=
 zcb (e:=λx:{ x:List Op×List Op // True }=>Enc.e x.1) (d:=λx=>.b (decide (x.1.1=x.1.2))) rfl (z25 (fn:=Tryz.f59) ) (λ_=>rfl) λx W F us hF h=>by obtain⟨v,us,rfl,h1,h⟩:=z1c h;obtain⟨v2,us,rfl,h2,h⟩:=z1c h;obtain rfl:=z1y h;obtain⟨A,n,c,rfl,k1⟩:=z2u zar h1;obtain⟨A2,n2,c2,rfl,k2⟩:=z2u zar h2;refine(z0a4 x.1.1 x.1.2 A A2 n c n2 c2 W F F k1 k2).mono ?_;rintro r W' ⟨rfl,m,rfl⟩;exact⟨_,rfl,zfv (Below.refl _ _) m,.b _⟩
attribute [local irreducible] z09 spD z1w
theorem zxg{α:Type}{sz:Nat}{l:List α}{f:α->List Dt}(h:Dt.ok (.l sz (l.map f))):l.length<=9223372036854775807:=by
 cases h with
 |l _ _ h1 _ _=>simpa using h1
theorem z07a(x y:Out):(decide (x.coin=y.coin)&&decide (x.lock=y.lock))=decide (x=y):=by cases x;cases y;simp only[Out.mk.injEq,Bool.decide_and]
noncomputable def zb6:zd:=spD (λ_:Out×Out=>True) λx=>decide (x.1=x.2)
noncomputable def z6l:zd:=spD (λ_:Out×Out=>True) λx=>decide (x.1=x.2)
theorem zpu(x y:Out):zb6 [I x.coin,.l 2 (x.lock.map eOp),I y.coin,.l 2 (y.lock.map eOp)]=some [.b (decide (x=y))]:=zi (f:=λx:Out×Out=>decide (x.1=x.2)) (x,y) trivial
theorem zgy(x y:Out):z6l [I x.coin,.l 2 (x.lock.map eOp),I y.coin,.l 2 (y.lock.map eOp)]=some [.b (decide (x=y))]:=zi (f:=λx:Out×Out=>decide (x.1=x.2)) (x,y) trivial
def zUy:T:=.ite 4 (zC 19 [1,3] (.ret [5])) (.ret [.c (.b false)])
def zg3:T:=zB .eql 0 2 zUy
def zhz:T:=zB .eql 0 2 zUy
def zd6:T:=zS (.eqs false [(0,6),(1,7)]) (.ite 12 (zC 22 [2,3,8,9] (.ite 13 (zQ .eql 4 10 14 (zS (.beq false 5 11) (.ret [15])) (.ret [.c (.b false)])) (.ret [.c (.b false)]))) (.ret [.c (.b false)]))
def zkb:T:=zL 0 (zL 1 (zQ .neq 2 3 4 (.ret [.c (.b false)]) (zL 0 (.loop [.c (.b false),zI 0] (zQ .lss 7 5 8 (zE 6 0 7 (zE 6 1 7 (zC 27 [9,10,11,12,13,14,15,16,17,18,19,20] (zS (.not 21) (znh 22 (.c (.b false)) 6 23))))) (.ret [.c (.b true)]))))))
def zep:T:=zC 21 [0,1] (.ret [2])
def zkc:T:=zQ .lss 0 2 4 (.ret [.c (.b true)]) (zQ .eql 0 2 5 (zB .lss 1 3 (.ret [6])) (.ret [.c (.b false)]))
theorem z00e:Meets Tryz.prog zb6 70 zW02:=by
 refine zg (sp:=(zx [(19,zby)])) (sigs:=z02) (cut:=[]) (hints:=[]) (fn:=Tryz.f70) (t:=zg3) ?_ ?_
 ·exact(zq (L:=[(19,zby)]) ⟨z7 rfl z027,trivial⟩)
 ·rintro ds rs-h;obtain⟨⟨x,y⟩,-,rfl,rfl⟩:=zh h;clear h;refine⟨⟨1,?_⟩,z0b rfl⟩;show den _ _ zg3 [I x.coin,.l 2 (x.lock.map eOp),I y.coin,.l 2 (y.lock.map eOp)] []=ret (decide (x=y));rw[<- z07a];unfold zg3;repeat'(first|refine dq1 ?_|refine dqk rfl (zm8 _ _) ?_|exact z5 rfl rfl|refine tU (λh=>?_) λh=>?_|fail)
theorem zpv:Meets Tryz.prog z6l 34 zW02:=by
 refine zg (sp:=(zx [(19,zby)])) (sigs:=z02) (cut:=[]) (hints:=[]) (fn:=Tryz.f34) (t:=zhz) ?_ ?_
 ·exact(zq (L:=[(19,zby)]) ⟨z7 rfl z027,trivial⟩)
 ·rintro ds rs-h;obtain⟨⟨x,y⟩,-,rfl,rfl⟩:=zh h;clear h;refine⟨⟨1,?_⟩,z0b rfl⟩;show den _ _ zhz [I x.coin,.l 2 (x.lock.map eOp),I y.coin,.l 2 (y.lock.map eOp)] []=ret (decide (x=y));rw[<- z07a];unfold zhz;repeat'(first|refine dq1 ?_|refine dqk rfl (zm8 _ _) ?_|exact z5 rfl rfl|refine tU (λh=>?_) λh=>?_|fail)
theorem z0dp(x y:Coin):(decide (x.p=y.p)&&(decide (x.o=y.o)&&(decide (x.height=y.height)&&decide (x.reward=y.reward))))=decide (x=y):=by cases x;cases y;simp only[Coin.mk.injEq,Bool.decide_and]
noncomputable def z93:zd:=spD (λ_:Coin×Coin=>True) λx=>decide (x.1=x.2)
theorem zlt(x y:Coin):z93 (za x++za y)=some [.b (decide (x=y))]:=zi (f:=λx:Coin×Coin=>decide (x.1=x.2)) (x,y) trivial
theorem zun:Meets Tryz.prog z93 33 zW1g:=by
 refine zg (sp:=(zx [(22,z6l)])) (sigs:=z02) (cut:=[]) (hints:=[]) (fn:=Tryz.f33) (t:=zd6) ?_ ?_
 ·exact(zq (L:=[(22,z6l)]) ⟨z7 rfl zpv,trivial⟩)
 ·rintro ds rs-h;obtain⟨⟨x,y⟩,-,rfl,rfl⟩:=zh h;clear h;refine⟨⟨1,?_⟩,z0b rfl⟩;show den _ _ zd6 [I x.p.tx,I x.p.at_,I x.o.coin,.l 2 (x.o.lock.map eOp),I x.height,.b x.reward,I y.p.tx,I y.p.at_,I y.o.coin,.l 2 (y.o.lock.map eOp),I y.height,.b y.reward] []=ret (decide (x=y));rw[<- z0dp];unfold zd6;repeat'(first|refine dq1 ?_|refine dqc ?_|refine dqm ?_|refine dqK rfl (zgy x.o y.o) ?_|exact z5 rfl rfl|((first|refine tR ?_ ?_|refine tB ?_ ?_|refine tC ?_ ?_|refine tN ?_ ?_|refine tF ?_ ?_|refine tG ?_ ?_|refine tP ?_ ?_|refine tQ ?_ ?_|refine tA ?_ ?_|refine tO ?_ ?_|refine tU ?_ ?_|refine tV ?_ ?_)<;>intro h)|refine dqT ?_|refine dqF ?_|refine z0h rfl ?_|refine z0e rfl ?_|refine zax ?_|refine z5u ?_)
noncomputable def zdq:zd:=spD (λ_:List Coin×List Coin=>True) λx=>decide (x.1=x.2)
noncomputable def z7k:zd:=spD (λ_:List Coin×List Coin=>True) λx=>decide (x.1=x.2)
theorem zuo(l m:List Coin):zdq [.l 6 (l.map za),.l 6 (m.map za)]=some [.b (decide (l=m))]:=zi (f:=λx:List Coin×List Coin=>decide (x.1=x.2)) (l,m) trivial
theorem zeq(l m:List Coin):z7k [.l 6 (l.map za),.l 6 (m.map za)]=some [.b (decide (l=m))]:=zi (f:=λx:List Coin×List Coin=>decide (x.1=x.2)) (l,m) trivial
theorem z07b{α:Type}[DecidableEq α](l m:List α):decide (l=m)=if(l.length:Int)≠m.length then false else decide (l=m):=by
 by_cases h:(l.length:Int)≠m.length
 ·rw[zP h,decide_eq_false];rintro rfl;exact h rfl
 ·rw[zN h]
theorem z07c:Meets Tryz.prog zdq 32 zW1a:=by
 refine zg (sp:=(zx [(27,z93)])) (sigs:=z02) (cut:=[]) (hints:=[⟨4,[.t 6,.t 17]⟩]) (fn:=Tryz.f32) (t:=zkb) ?_ ?_
 ·exact(zq (L:=[(27,z93)]) ⟨z7 rfl zun,trivial⟩)
 ·rintro ds rs hok h;obtain⟨⟨l,m⟩,-,rfl,rfl⟩:=zh h;clear h;have hll:=zxg (hok (.l 6 (l.map za)) (zY0i ..));refine⟨⟨l.length+1,?_⟩,z0b rfl⟩;show den _ _ zkb [.l 6 (l.map za),.l 6 (m.map za)] []=ret (decide (l=m));rw[z07b];unfold zkb;repeat'(first|refine dq1 ?_|refine dqc ?_|refine dqm ?_|exact z5 rfl rfl|((first|refine tR ?_ ?_|refine tB ?_ ?_|refine tC ?_ ?_|refine tN ?_ ?_|refine tF ?_ ?_|refine tG ?_ ?_|refine tP ?_ ?_|refine tQ ?_ ?_|refine tA ?_ ?_|refine tO ?_ ?_|refine tU ?_ ?_|refine tV ?_ ?_)<;>intro h)|refine dqT ?_|refine dqF ?_|refine z0h rfl ?_|refine z0e rfl ?_|refine zax ?_|refine z5u ?_)
  have hlm:l.length=m.length:=zX0
  (refine zj (λ(_:Unit) k=>[.b false,I k]) (λ(_:Unit) k (r:List Coin)=>decide (r=m.drop k)) (λ_ _=>True) () l ?_ ?_ ?_ ?_ ?_;rfl;exact trivial;first|exact zY29 _|omega)
  ·rintro _ k x r hx hd hk-again hag;have hy:m[k]?=some (m[k]' zX0):=zY03 zX0;have hdy:m.drop k=m[k]' zX0::m.drop (k+1):=zY1z zX0;rw[hdy];generalize m[k]' zX0=y at *;have e:decide (x::r=y::m.drop (k+1))=if decide (x=y)=true then decide (r=m.drop (k+1))else false:=by
    by_cases h:x=y
    ·simp[h]
    ·simp[h]
   rw[e];have hkm:k<m.length:=zX0;repeat'(first|refine dq1 ?_|refine dqc ?_|refine dqm ?_|refine dqK rfl (zlt x y) ?_|exact z5 rfl rfl|exact z6 rfl rfl (hag () trivial)|exact z6 rfl rfl (hag _ trivial)|exact z6 rfl rfl (hag _ zX0)|exact z6 rfl rfl (hag _ zXn)|((first|refine tR ?_ ?_|refine tB ?_ ?_|refine tC ?_ ?_|refine tN ?_ ?_|refine tF ?_ ?_|refine tG ?_ ?_|refine tP ?_ ?_|refine tQ ?_ ?_|refine tA ?_ ?_|refine tO ?_ ?_|refine tU ?_ ?_|refine tV ?_ ?_)<;>intro h)|refine dqT ?_|refine dqF ?_|refine z0h rfl ?_|refine z0e rfl ?_|refine zax ?_|refine z5u ?_)
  ·rintro _-again;rw[hlm,List.drop_length];repeat'(first|refine dq1 ?_|refine dqc ?_|refine dqm ?_|exact z5 rfl rfl|((first|refine tR ?_ ?_|refine tB ?_ ?_|refine tC ?_ ?_|refine tN ?_ ?_|refine tF ?_ ?_|refine tG ?_ ?_|refine tP ?_ ?_|refine tQ ?_ ?_|refine tA ?_ ?_|refine tO ?_ ?_|refine tU ?_ ?_|refine tV ?_ ?_)<;>intro h)|refine dqT ?_|refine dqF ?_|refine z0h rfl ?_|refine z0e rfl ?_|refine zax ?_|refine z5u ?_)
theorem zxh:Meets Tryz.prog z7k 10 zW00:=by
 refine zg (sp:=(zx [(21,zdq)])) (sigs:=z02) (cut:=[]) (hints:=[]) (fn:=Tryz.f10) (t:=zep) ?_ ?_
 ·exact(zq (L:=[(21,zdq)]) ⟨z7 rfl z07c,trivial⟩)
 ·rintro ds rs-h;obtain⟨⟨l,m⟩,-,rfl,rfl⟩:=zh h;clear h;refine⟨⟨1,?_⟩,z0b rfl⟩;show den _ _ zep [.l 6 (l.map za),.l 6 (m.map za)] []=ret (decide (l=m));unfold zep;repeat'(first|refine dq1 ?_|refine dqc ?_|refine dqm ?_|refine dqK rfl (zuo l m) ?_|exact z5 rfl rfl|((first|refine tR ?_ ?_|refine tB ?_ ?_|refine tC ?_ ?_|refine tN ?_ ?_|refine tF ?_ ?_|refine tG ?_ ?_|refine tP ?_ ?_|refine tQ ?_ ?_|refine tA ?_ ?_|refine tO ?_ ?_|refine tU ?_ ?_|refine tV ?_ ?_)<;>intro h)|refine dqT ?_|refine dqF ?_|refine z0h rfl ?_|refine z0e rfl ?_|refine zax ?_|refine z5u ?_)
end
section
open Go.Lib (itoa)
end
def zxi:List CF->List Dt->Prop
 |.scal::fs,d::ds=>d.scal=true/\zxi fs ds
 |_::fs,_::ds=>zxi fs ds
 |_,_=>True
theorem z028:∀ {fs:List CF} {ds:List Dt},zxi fs ds->∀(j:Nat) (d:Dt),fs[j]?=some .scal->ds[j]?=some d->d.scal=true
 | [],_,_,j,d,hf,_=>by cases hf
 |_::_,[],_,j,d,_,hd=>by cases hd
 |c::fs,x::ds,h,j,d,hf,hd=>by
  cases j with
  |zero =>simp only[zY05,zY00]at hf hd;subst hf;subst hd;exact h.1
  |succ j =>
   have h':zxi fs ds:=by
    cases c with
    |scal=>exact h.2
    |pure=>exact h
    |fresh e sz=>exact h
   exact z028 h' j d (by simpa using hf) zX1c
theorem z11{s:Sig}{rs:List Dt}(h:zxi (zu s) rs):z7g s rs:=λi d h1 h2=>z028 h i d h1 h2
section
variable {W W':World} {F F':Nat->Prop} {pk:List PK} {b:Bool}
end

section
theorem ztn:∀l s:List (List UInt8),Er (z4e l s)
 | [],_=>z2d _ rfl
 |x::l,s=>z2n (z2d _ rfl) (z2n (z2d _ rfl) (ztn l _))
theorem z0dq(k:Book):Er (zk k):=z2n (z2d _ rfl) (ztn _ _)
theorem z07e(l:List (List UInt8))(s:List UInt8):(z6r l s,z85 l s,z66 l s)=if 0<=idx l s then(l,idx l s+1,0)else if l.length=120 then([],0,12)else(l++[s],(l.length:Int)+1,0):=by
 unfold z6r z85 z66;by_cases h1:0<=idx l s
 ·rw[zP h1,zP h1,zP h1,zP h1]
 rw[zN h1,zN h1,zN h1,zN h1];by_cases h2:l.length=120
 ·rw[zP h2,zP h2,zP h2,zP h2]
 ·rw[zN h2,zN h2,zN h2,zN h2]
noncomputable def z4h:zd:=spD (λ_:Book=>True) λk=>zk k
theorem zfh(k:Book):z4h [.l 1 (k.texts.map z0a)]=some [I (zk k)]:=zi (f:=λk:Book=>zk k) k trivial
theorem zm9:Meets Tryz.prog z4h 35 zW0m :=
 zb0 rfl (z25 (fn:=Tryz.f35) ) λk _ W F us hF h=>by obtain⟨cs,rfl,hr⟩:=zeg h;exact⟨(z0dq k).i64,zuh k cs W F (she_book.of hr) hF.1⟩
noncomputable def z8l:zd:=spD (λl:List (List UInt8)=>l.length<=8796093021952) λl=>l
theorem zxl(l:List (List UInt8))(h:l.length<=8796093021952):z8l [.l 1 (l.map z0a)]=some [.l 1 (l.map z0a)]:=zi (p:=λl:List (List UInt8)=>l.length<=8796093021952) (f:=λl:List (List UInt8)=>l) l h
theorem zma(l:List (List UInt8))(h:l.length<=1000000):z8l [.l 1 (l.map z0a)]=some [.l 1 (l.map z0a)]:=zxl l zX0
theorem z029:Meets Tryz.prog z8l 79 zW0u :=
 z39 (e:=λx:{ l:List (List UInt8) // l.length<=8796093021952 }=>Enc.e x.1) (xs:=λx=>x.1) ze1 rfl rfl zX9 (z25 (fn:=Tryz.f79) ) λx W F us hF h=>by obtain⟨v,us,rfl,h1,h⟩:=z1c h;obtain rfl:=z1y h;obtain⟨A,n,c,rfl,k1⟩:=z2u ze1 h1;have:=x.2;have:=k1.1;exact(z069 x.1 A n c W F k1 hF zX0).mono λr W' h=>⟨n,h⟩
attribute [local irreducible] z09 spD zk z6r z85 z66 idx den denX z0s z0w
noncomputable def zfi:zd:=spD (λx:List (List UInt8)×List UInt8=>x.1.length<=120) λx=>(z6r x.1 x.2,z85 x.1 x.2,z66 x.1 x.2)
theorem zxm(l:List (List UInt8))(s:List UInt8)(h:l.length<=120):zfi [.l 1 (l.map z0a),.s s]=some [.l 1 ((z6r l s).map z0a),I (z85 l s),I (z66 l s)]:=zi (p:=λx:List (List UInt8)×List UInt8=>x.1.length<=120) (f:=λx:List (List UInt8)×List UInt8=>(z6r x.1 x.2,z85 x.1 x.2,z66 x.1 x.2)) (l,s) h
def zU11(a b c:Atom):T:=zB .add a (zI 1) (.ret [b,c,zI 0])
def znm:T:=zC 46 [0,1] (zQ .geq 2 (zI 0) 3 (zC 64 [0] (zU11 2 4 5)) (zL 0 (zQ .eql 4 (zI 120) 5 (.ret [.c (.nil 1),zI 0,zI 12]) (zC 64 [0] (zS (.mk 1 [[1]]) (zS (.app 1 6 7) (zL 0 (zU11 9 8 10))))))))
attribute [local irreducible] z8l z74
theorem z0ao:Meets Tryz.prog zfi 80 zW05:=by
 refine zg (sp:=(zx [(46,z74),(64,z8l)])) (sigs:=z02) (cut:=[]) (hints:=[]) (fn:=Tryz.f80) (t:=znm) ?_ ?_
 ·exact(zq (L:=[(46,z74),(64,z8l)]) ⟨z7 rfl zxc,z7 rfl z029,trivial⟩)
 ·rintro ds rs-h;obtain⟨⟨l,s⟩,hl,rfl,rfl⟩:=zh h;clear h;simp only at hl;refine⟨⟨1,?_⟩,z11 ⟨rfl,rfl,trivial⟩⟩;show den _ _ znm [.l 1 (l.map z0a),.s s] []=ret (z6r l s,z85 l s,z66 l s);rw[z07e];have a1:=zka l s;have a2:=zma l zX0;have hb:=zju l s;generalize idx l s=j at *;unfold znm;by_cases h1:0<=j
  ·rw[zP h1];repeat'(first|refine dq1 ?_|refine dqk rfl (a1) ?_|refine dqk rfl (a2) ?_|exact z5 rfl rfl|refine dqT ?_|fail)
  rw[zN h1];by_cases h2:l.length=120
  ·rw[zP h2];repeat'(first|refine dq1 ?_|refine dqk rfl (a1) ?_|exact z5 rfl rfl|refine dqT ?_|refine dqF ?_|fail)
  rw[zN h2];repeat'(first|refine dq1 ?_|refine dqk rfl (a1) ?_|refine dqk rfl (a2) ?_|refine z4 (z1p (r:=([s].map z0a)) rfl rfl zX4) ?_|exact z5 rfl rfl|refine dqF ?_|fail)
noncomputable def zb8:zd:=spD (λx:Book×List (List UInt8)=>x.2.length<=999999) λx=>z2v x.1 x.2
theorem zus(k:Book)(l:List (List UInt8))(h:l.length<=999999):zb8 [.l 1 (k.texts.map z0a),.l 1 (l.map z0a)]=some [.l 1 ((z2v k l).1.map z0a),.l 1 ((z2v k l).2.1.map zl),I (z2v k l).2.2]:=zi (p:=λx:Book×List (List UInt8)=>x.2.length<=999999) (f:=λx:Book×List (List UInt8)=>z2v x.1 x.2) (k,l) h
def z00i:T:=zS (.idx 1 10 0) (zS (.slen 12) (zQ .gtr 13 (zI 4000) 14 (.ret [.c (.nil 1),.c (.nil 1),zI 2]) (.W (zK 109 [8,12] 3) [] (zQ .neq 17 (zI 0) 18 (.ret [.c (.nil 1),.c (.nil 1),17]) (zS (.mk 1 [[16]]) (zS (.app 1 9 19) (zB .add 10 (zI 1) (.again 0 [6,7,15,20,21]))))))))
def zkd:T:=zC 57 [0] (zQ .neq 2 (zI 0) 3 (.ret [.c (.nil 1),.c (.nil 1),2]) (zC 64 [0] (zL 1 (.loop [.c (.nil 1),zI 0,4,.c (.nil 1),zI 0] (zQ .lss 10 5 11 (.W [] [.inr 1 1 10] z00i) (.ret [8,9,zI 0]))))))
attribute [local irreducible] z4h
theorem z07f:Meets Tryz.prog zb8 48 zW0n:=by
 refine zg (sp:=(zx [(57,z4h),(64,z8l),(109,zfi)])) (sigs:=z0c3) (cut:=[]) (hints:=[⟨7,[.r 5 3 1,.t 6,.t 8,.r 9 3 1,.t 26]⟩]) (fn:=Tryz.f48) (t:=zkd) ?_ ?_
 ·exact(zq (L:=[(57,z4h),(64,z8l),(109,zfi)]) ⟨z7 rfl zm9,z7 rfl (zt7 rfl z029),z7 rfl z0ao,trivial⟩)
 ·rintro ds rs-h;obtain⟨⟨k,l⟩,hll,rfl,rfl⟩:=zh h;clear h;simp only at hll;refine⟨⟨l.length+1,?_⟩,z11 ⟨rfl,trivial⟩⟩;show den _ _ zkd [.l 1 (k.texts.map z0a),.l 1 (l.map z0a)] []=ret (z2v k l);have a1:=zfh k;unfold zkd z2v;by_cases h1:zk k=0
  rotate_left
  ·rw[zP h1];generalize zk k=e at *;repeat'(first|refine dq1 ?_|refine dqk rfl (a1) ?_|exact z5 rfl rfl|refine dqT ?_|fail)
  have hl:=zd3 h1;rw[zN (λz=>z h1)];rw[h1]at a1;have a2:=zma k.texts zX0;repeat'(first|refine dq1 ?_|refine dqk rfl (a1) ?_|refine dqk rfl (a2) ?_|refine dqF ?_|fail)
  (refine zj (λ(a:List (List UInt8)×List Int) k=>[.l 1 [],I 0,.l 1 (a.1.map z0a),.l 1 (a.2.map zl),I k]) (λ(a:List (List UInt8)×List Int) _ (r:List (List UInt8))=>z2i r a.1 a.2) (λa k=>a.1.length<=120/\a.2.length=k) (k.texts,[]) l ?_ ?_ ?_ ?_ ?_;rfl;exact⟨hl,rfl⟩;omega)
  ·rintro⟨t,o⟩ i s r hx hd hk ⟨ht,ho⟩ again hag;simp only at ht ho;rw[z2i];simp only;by_cases h2:4000<s.length
   ·rw[zP h2];repeat'(first|refine dq1 ?_|refine dqc ?_|exact z5 rfl rfl|refine dqT ?_|fail)
   rw[zN h2];have b1:=zxm t s ht;have hnl:=ztd (t:=t) (s:=s) ht;generalize z6r t s=p at *;generalize z85 t s=q at *;generalize z66 t s=e at *;by_cases h3:e=0
   ·have hag:=hag (p,o++[q]) ⟨hnl h3,by simp;omega⟩;rw[zN (λz=>z h3)];simp only at hag;repeat'(first|refine dq1 ?_|refine dqc ?_|refine dqK rfl (b1) ?_|exact z6 rfl rfl hag|refine dqT ?_|refine dqF ?_|fail)
   ·rw[zP h3];repeat'(first|refine dq1 ?_|refine dqc ?_|refine dqK rfl (b1) ?_|exact z5 rfl rfl|refine dqT ?_|refine dqF ?_|fail)
  ·rintro⟨t,o⟩ ⟨ht,ho⟩ again;rw[z2i];simp only;repeat'(first|refine dq1 ?_|exact z5 rfl rfl|refine dqF ?_|fail)
end
theorem zke{n:Int}(h:0<=n/\n<=1000):I64 n:=⟨by have:=h.1;omega,by have:=h.2;omega⟩
noncomputable def z6m:zd:=spD (λ_:Block=>True) λk=>zf k
theorem zh1(b:Block):z6m [I b.parent,I b.height,I b.work,I b.nonce,.l 3 (b.txs.map eTx)]=some [I (zf b)]:=zi (f:=λk:Block=>zf k) b trivial
theorem zpx:Meets Tryz.prog z6m 49 zW0d :=
 zb0 rfl (z25 (fn:=Tryz.f49) ) λk _ W F us hF h=>by obtain⟨cs,rfl,hr⟩:=zeg h;exact⟨(z06u k).i64,zgn k cs W F (she_block.of hr) hF.1⟩
theorem zfj(n:Int):0<=z0z n/\z0z n<=1000:=by
  unfold z0z;split
  ·exact⟨by decide,by decide⟩
  ·rename_i h;have h1:(0:Int)<=2 ^ (min ((n-1)/8) 30).toNat:=Int.pow_nonneg zX9;have h2:=Int.ediv_nonneg (show(0:Int)<=64 by decide) h1;have h3:=Int.ediv_le_self (2 ^ (min ((n-1)/8) 30).toNat) (show(0:Int)<=64 by decide);exact⟨h2,by omega⟩
theorem zto(n:Int):I64 (z0z n)/\I64 (z5z n):=by
 have h1:=zfj n;have h2:0<=z5z n/\z5z n<=1000:=by unfold z5z;split<;>exact⟨by decide,by decide⟩
 exact⟨zke h1,zke h2⟩
noncomputable def z7l:zd:=spD (λ_:Int=>True) λn=>(z0z n,z5z n)
theorem znn(n:Int):z7l [I n]=some [I (z0z n),I (z5z n)]:=zi (f:=λn:Int=>(z0z n,z5z n)) n trivial
theorem z0dr(n:Int)(w:World):Calls Tryz.prog 63 #[.int .i64 n] w λe w'=>e=.returned (.tuple #[.int .i64 (z0z n),.int .i64 (z5z n)])/\w=w':=by
 by_cases h:n<1\/1000<n
 ·go_enter Tryz.func63,Tryz.ntmps63;go_wp2;all_goals(go_ret2;refine⟨ze3 ?_ ?_,rfl⟩)
  all_goals simp[z0z,z5z,h]
 ·have h1:1<=n:=zX0;have h2:n<=1000:=zX0;go_enter Tryz.func63,Tryz.ntmps63;go_wp2;all_goals(go_ret2;refine⟨ze3 ?_ ?_,rfl⟩)
  all_goals first|(simp only[z0z];rw[zN zX0])|(simp[z5z];omega)
theorem zxp:Meets Tryz.prog z7l 63 zW0a :=
 zaf rfl (z25 (fn:=Tryz.f63) ) λn _ W F us hF h=>by obtain⟨v,us,rfl,h2,h⟩:=z1c (d:=I n) h;obtain rfl:=z1y h;obtain⟨rfl,hn⟩:=ze2 h2;refine(z0dr n W).mono ?_;rintro e w' ⟨rfl,rfl⟩;exact⟨_,rfl,Below.refl _ _,zrg rfl rfl (.i _ _ (wrap_i64 (zto n).1)) (.i _ _ (wrap_i64 (zto n).2))⟩
theorem z0ds{α:Type}[DecidableEq α](l:List α)(x:α)(h:l.length<=9223372036854775807):I64 (idx l x):=by have:=zju l x;exact⟨by omega,by omega⟩
noncomputable def z1k:zd:=spD (λ_:List Int×Int=>True) λx=>idx x.1 x.2
theorem z3b(l:List Int)(n:Int):z1k [.l 1 (l.map zl),I n]=some [I (idx l n)]:=zi (f:=λx:List Int×Int=>idx x.1 x.2) (l,n) trivial
theorem z8m:Meets Tryz.prog z1k 21 zW00 :=
 zb0 rfl (z25 (fn:=Tryz.f21) ) λx _ W F us hF h=>by obtain⟨l,n⟩:=x;obtain⟨v,us,rfl,h1,h⟩:=z1c h;obtain⟨v2,us,rfl,h2,h⟩:=z1c h;obtain rfl:=z1y h;obtain⟨rfl,hn⟩:=ze2 h2;obtain⟨A,m,c,rfl,hl⟩:=z2u z45 h1;have hlm:l.length=m:=hl.1;have:=hl.2.1;have:=hl.2.2.1;refine⟨z0ds l n zX0,(z06m l n A m c W F hl).mono ?_⟩;rintro e w' ⟨rfl,rfl⟩;exact⟨rfl,Below.refl _ _⟩
noncomputable def z7c:zd:=spD (λl:List Int=>l.length<=17592186043904) λl=>l
theorem zxq(l:List Int)(h:l.length<=17592186043904):z7c [.l 1 (l.map zl)]=some [.l 1 (l.map zl)]:=zi (p:=λl:List Int=>l.length<=17592186043904) (f:=λl:List Int=>l) l h
theorem zmb(l:List Int)(h:l.length<=1000000):z7c [.l 1 (l.map zl)]=some [.l 1 (l.map zl)]:=zxq l zX0
theorem z02b:Meets Tryz.prog z7c 13 zW1m :=
 z39 (e:=λx:{ l:List Int // l.length<=17592186043904 }=>Enc.e x.1) (xs:=λx=>x.1) z45 rfl rfl zX9 (z25 (fn:=Tryz.f13) ) λx W F us hF h=>by obtain⟨v,us,rfl,h1,h⟩:=z1c h;obtain rfl:=z1y h;obtain⟨A,n,c,rfl,k1⟩:=z2u z45 h1;have:=x.2;have:=k1.1;exact(z068 x.1 A n c W F k1 hF zX0).mono λr W' h=>⟨n,h⟩
noncomputable def z75:zd:=spD (λ_:List Int=>True) λl=>l.reverse
theorem zkf(l:List Int):z75 [.l 1 (l.map zl)]=some [.l 1 (l.reverse.map zl)]:=zi (f:=λl:List Int=>l.reverse) l trivial
theorem ztp{W:World}{F:Nat->Prop}:∀ {l:List Int} {vs:List Value},Reps W F (l.map zl).flatten vs->vs=l.map (Value.int .i64)/\∀x∈l,I64 x
 | [],[],_=>⟨rfl,by simp⟩
 | [],_::_,h=>absurd h id
 |x::l,vs,h=>by
  cases vs with
  |nil=>exact absurd h id
  |cons v vs =>
   have h':Rep W F (I x) v/\Reps W F (l.map zl).flatten vs:=h;obtain⟨rfl,hx⟩:=ze2 h'.1;obtain⟨rfl,hl⟩:=ztp h'.2;refine⟨rfl,λy hy=>?_⟩;rcases zY0g.1 hy with rfl|hy
   ·exact hx
   ·exact hl y hy
theorem ztq{W:World}{F:Nat->Prop}:∀ {l:List Int},(∀x∈l,I64 x)->Reps W F (l.map zl).flatten (l.map (Value.int .i64))
 | [],_=>trivial
 |x::l,h=>⟨.i _ _ (wrap_i64 (h x zX4)),ztq λy hy=>h y (zY0h _ hy)⟩
theorem zxr:Meets Tryz.prog z75 14 zW1o:=⟨λh=>zX1l,λe sz ps he=>by
 cases he;intro W F base v xs vs ds args rs hF hbase hno hlen hown hreps hpk hs;obtain⟨l,-,h1,rfl⟩:=zh hs;have h1':xs=l.map zl/\ds=[]:=by injection h1 with ha hb;injection ha with _ ha;exact⟨ha,hb⟩
 obtain⟨rfl,rfl⟩:=h1';obtain rfl:=z1y hpk;obtain⟨rfl,hI⟩:=ztp hreps;refine⟨l.reverse.map zl,rfl,by simp[zl],.inl ⟨(z25 (fn:=Tryz.f14) ).run _ _,?_⟩⟩;rw[zY0y]at hown;have hown':=hown;rcases hown.2 with⟨rfl,hn⟩|⟨g,cap,cur,rfl,hg,hh,hnc,hcm,hcs,ht⟩
 ·obtain rfl:l=[]:=zY0c hn;refine(zur none 0 W).mono ?_;rintro e w' ⟨rfl,rfl⟩;exact⟨_,rfl,.slice none 0 0,[],⟨λ_=>rfl,λh=>absurd rfl h⟩,World.grownBy.refl _ _,hown',trivial,λb hb=>.inl hb⟩
 ·unfold maxLen at hcm;have hcell:∀j,j<l.length->W.cell? ⟨g,0+j,none⟩=some (.int .i64 (l.getD j 0)):=by
   intro j hj;have e1:(cur.toList.take (l.length*1))[j]?=some (.int .i64 l[j]):=by rw[ht];simp[hj]
   rw[zY17]at e1;split at e1
   ·rw[cell_of_row W g _ cur _ (0,0) hh];simpa[List.getD,hj]using e1
   ·cases e1
  refine(zuq g 0 l.length cap l W zX0 zX0 hcell (λj _=>zna hh)).mono ?_;rintro e w' ⟨rfl,q,rfl⟩;rw[zY0v (zY0k _)];obtain⟨s1,s2,s3,s4⟩:=zut (g:=g) (l.reverse.map (Value.int .i64)) 0 (W.drewN q);have hb0:=zfv (Below.refl W.heap.size W) q;have hgr:W.grownBy ((W.drewN q).setCells g 0 (l.reverse.map (Value.int .i64))) (Value.slice (some ⟨g,0,none⟩) l.length cap).ownBlock :=
   ⟨s2.trans hb0.os,s3.trans hb0.tape,s4.trans hb0.output,by have:=hb0.size;omega,λb hlt hb=>(zxo _ _ _ _ (λe=>hb zX1n)).trans (hb0.block b hlt)⟩
  have hown2:(W.drewN q).ownsRow base 3 1 (.slice (some ⟨g,0,none⟩) l.length cap) l.length (l.map (Value.int .i64)):=zj9 hown' (λb hb=>hb0.block b (by simp only[Value.ownBlock,zY00]at hb;subst hb;exact zjn hh))
  have hset:=zk9 rfl (l.reverse.map (Value.int .i64)) 0 _ _ hown2;rw[z0ak _ _ zX4]at hset;exact⟨_,rfl,_,l.reverse.map (Value.int .i64),⟨λ_=>rfl,λh=>absurd rfl h⟩,hgr,by rw[zY0y,List.length_reverse];exact hset,ztq λx hx=>hI x (List.mem_reverse.1 hx),λb hb=>.inl hb⟩⟩
section
open Go.Lib (itoa)
def zh2(b:Block):List (List UInt8):=b.txs.map λt=>(z0q t).1
def zes(k:Book)(s:List UInt8)(l:List (List UInt8)):List (List UInt8)×Int×List Int×Int :=
 if(z2v k (l++[s])).2.2≠0 then([],0,[],(z2v k (l++[s])).2.2)else
 ((z2v k (l++[s])).1,((z2v k (l++[s])).2.1).getD l.length 0,((z2v k (l++[s])).2.1).take l.length,0)
def z0c(k:Book)(b:Block):List (List UInt8)×Int×List Int×Int :=
 if(z18 b).2≠0 then([],0,[],(z18 b).2)else zes k (z18 b).1 (zh2 b)
theorem zfk:∀(l t:List (List UInt8)) (o:List Int),(z2i l t o).2.2=0->(z2i l t o).2.1.length=o.length+l.length
 | [],t,o,_=>by simp[z2i]
 |s::l,t,o,h=>by
  rw[z2i]at h⊢;split at h
  ·cases h
  rename_i h1;rw[zN h1];split at h
  ·rename_i h2;exact absurd h h2
  rename_i h2;rw[zN h2];rw[zfk l _ _ h];simp;omega
theorem zmc{k:Book}{l:List (List UInt8)}(h:(z2v k l).2.2=0):(z2v k l).2.1.length=l.length:=by
 unfold z2v at h⊢;split at h
 ·rename_i h1;exact absurd h h1
 rename_i h1;rw[zN h1];simpa using zfk l k.texts [] h
theorem ziu{b:Block}(h:(z18 b).2=0):zf b=0:=by
 unfold z18 at h;by_cases hb:zf b=0
 ·exact hb
 ·rw[zP hb]at h;exact absurd h hb
attribute [local irreducible] z09 spD z2v z18 z0q den denX z0s z0w
noncomputable def z3o:zd:=spD (λ_:Book×Block=>True) λx=>z0c x.1 x.2
theorem z94(k:Book)(b:Block):z3o [.l 1 (k.texts.map z0a),I b.parent,I b.height,I b.work,I b.nonce,.l 3 (b.txs.map eTx)]=some [.l 1 ((z0c k b).1.map z0a),I (z0c k b).2.1,.l 1 ((z0c k b).2.2.1.map zl),I (z0c k b).2.2.2]:=zi (f:=λx:Book×Block=>z0c x.1 x.2) (k,b) trivial
theorem zpy(b:Block):z7w [I b.parent,I b.height,I b.work,I b.nonce,.l 3 (b.txs.map eTx)]=some [.s (z18 b).1,I (z18 b).2]:=zro b
theorem zrr(t:Tx):z92 [I t.height,.l 3 (t.ins.map eIn),.l 2 (t.outs.map z30)]=some [.s (z0q t).1,I (z0q t).2]:=zum t
def zxs:T:=zS (.mk 1 [[6]]) (zS (.app 1 10 13) (.W (zK 58 [0,14] 3) [] (zQ .neq 17 (zI 0) 18 (.ret [.c (.nil 1),zI 0,.c (.nil 1),17]) (zL 10 (zE 1 16 19 (zL 10 (zL 10 (.W [.sub 1 16 none (some 21),.sub 1 16 (some 21) (some 22)] [] (.ret [15,20,23,zI 0])))))))))
def zi2:T:=.W (zK 56 [1,2,3,4,5] 2) [] (zQ .neq 7 (zI 0) 8 (.ret [.c (.nil 1),zI 0,.c (.nil 1),7]) (zL 5 (.loop [.c (.nil 1),zI 0] (zQ .lss 11 9 12 (zE 3 5 11 (.W (zK 55 [13,14,15] 2) [] (zUq 16 10 18))) zxs))))
attribute [local irreducible] z7w zb8 z92
theorem zi3:Meets Tryz.prog z3o 22 zW0f:=by
 refine zg (sp:=(zx [(55,z92),(56,z7w),(58,zb8)])) (sigs:=z02) (cut:=[]) (hints:=[⟨6,[.r 9 9 1,.t 27]⟩]) (fn:=Tryz.f22) (t:=zi2) ?_ ?_
 ·exact(zq (L:=[(55,z92),(56,z7w),(58,zb8)]) ⟨z7 rfl z078,z7 rfl z043,z7 rfl z07f,trivial⟩)
 ·rintro ds rs hok h;obtain⟨⟨k,b⟩,-,rfl,rfl⟩:=zh h;clear h;refine⟨⟨100,?_⟩,z11 ⟨rfl,rfl,trivial⟩⟩;show den _ _ zi2 [.l 1 (k.texts.map z0a),I b.parent,I b.height,I b.work,I b.nonce,.l 3 (b.txs.map eTx)] []=ret (z0c k b);have a1:=zpy b;unfold zi2 z0c;have hpz:=λh=>(z1b (ziu (b:=b) h)).len;generalize z18 b=pb at *;obtain⟨s,e⟩:=pb;simp only at *;repeat'(first|refine dq1 ?_|refine dqK rfl (a1) ?_|exact z5 rfl rfl|refine tR (λh=>?_) λh=>?_|fail)
  have hlen:b.txs.length<=4:=hpz zX0
  (refine zj (λ(a:List (List UInt8)) k=>[.l 1 (a.map z0a),I k]) (λ(a:List (List UInt8)) _ (r:List Tx)=>zes k s (a++r.map λt=>(z0q t).1)) (λa k=>a.length=k) [] b.txs ?_ ?_ ?_ ?_ ?_;rfl;exact rfl;omega)
  ·rintro a i x r hx hd hk ha again hag;have a2:=zrr x;have e:a++((x::r).map λt=>(z0q t).1)=(a++[(z0q x).1])++r.map λt=>(z0q t).1:=zX4;rw[e];have hag':=hag (a++[(z0q x).1]) zXa;generalize z0q x=px at *;obtain⟨z,f⟩:=px;simp only at *;repeat'(first|refine dq1 ?_|refine dqc ?_|refine dqm ?_|refine dqK rfl (a2) ?_|refine z4 (z1p rfl rfl zX4) ?_|refine dqT ?_|fail)
   exact z6 rfl rfl hag'
  ·rintro a ha again;simp only[zY2o,zY1b];have a3:=zus k (a++[s]) zXa;have hl:=λh=>zmc (k:=k) (l:=a++[s]) h;unfold zes;generalize z2v k (a++[s])=q at *;obtain⟨tx,ns,e2⟩:=q;simp only at *;repeat'(first|refine dq1 ?_|refine dqK rfl (a3) ?_|refine z4 (z1p rfl rfl zX4) ?_|exact z5 rfl rfl|refine tR (λh=>?_) λh=>?_|refine dqF ?_|fail)
   have hl:=hl zX0;simp only[zY04,zY08,zY0p]at hl;have hg:ns[((a.length:Int)).toNat]?=some (ns.getD a.length 0):=by rw[zY1d,zY0r,zY03 zX0];rfl
   generalize ns.getD a.length 0=y at *;have ht:ns.take ((a.length:Int)).toNat=ns.take a.length:=by rw[zY1d]
   repeat'(first|refine dq1 ?_|refine dqc ?_|fail)
   refine z3g (z0d (z01z rfl rfl zX0 zX0 ht) (z0d (zei (m:=(a.length:Int)) (n:=(a.length:Int)) rfl rfl rfl zX0 zX0 zX0) z3y)) ?_ rfl;exact z5 rfl rfl
end
end Go.Proofs.YtmjelcjgllkapaaGreatDoor
