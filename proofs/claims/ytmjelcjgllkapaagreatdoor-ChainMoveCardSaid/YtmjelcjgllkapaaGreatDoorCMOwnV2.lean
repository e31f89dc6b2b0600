/- Own texts, put together by wip/bundle.py: VdL, VdF, VdM, VdN, VdO, VdP, VdR, VdQ, VdS, VdU, VdV. -/
import Derived.Laws.OwnMore
import Derived.Laws.Small
import Derived.MapKept
import Derived.Orders
import Derived.Test.YtmjelcjgllkapaaGreatDoorCMOwnB
import Derived.Test.YtmjelcjgllkapaaGreatDoorCMOwnV1
set_option linter.unusedVariables false
set_option linter.unusedSimpArgs false
set_option maxRecDepth 100000
set_option maxHeartbeats 8000000
namespace Go.Proofs.YtmjelcjgllkapaaGreatDoor
open Go.RowKit
variable {a:Act} {K:Act->World->Prop} {c:Call} {Q:Exit->Act->World->Prop} {as0:List Atom} {ops:List Oper} {rs:List Rec} {xs:List X} {base ci et f i j k m n nt off sz t:Nat} {F:Nat->Prop} {o:Oper} {r:Rec} {s sig:Sig} {α β:Type} {W W' w:World} {x:X}
theorem z038{vs:List SV}{l:List (Nat×Sig)}(h:zlf f vs l i=some (ci,s)):i<=ci/\l[ci-i]?=some (f,s):=by
 induction l generalizing i with
 |nil=>cases h
 |cons p l ih =>
  obtain⟨g,s'⟩:=p;unfold zlf at h;split at h
  ·rename_i hc;simp only[zY00,zY19]at h;obtain⟨rfl,rfl⟩:=h;rw[Nat.sub_self,<- hc.1];exact⟨zY0k _,rfl⟩
  ·obtain⟨h1,h2⟩:=ih h;refine⟨by omega,?_⟩;rw[show ci-i=(ci-(i+1))+1 by omega];exact h2
def KeyAt(d nt:Nat)(cfs:List CF)(k i:Nat):Prop:=∃e sz,cfs[i]?=some (.fresh e sz)/\k=d+nt*i
theorem KeyAt.inj{d nt:Nat}(hnt:nt≠0){cfs:List CF}(h:KeyAt d nt cfs k i)(h':KeyAt d nt cfs k j):i=j:=by obtain⟨_,_,_,h1⟩:=h;obtain⟨_,_,_,h2⟩:=h';have:nt*i=nt*j:=zX0;exact Nat.eq_of_mul_eq_mul_left (Nat.pos_of_ne_zero hnt) this
theorem zdz{n d nt:Nat}(hnt:nt≠0):∀(fs:List CF) (j0:Nat) (τ:List SV) (ω:List (Option Ob)),(wr τ ω (z6u n d nt j0 fs)).1=τ/\(wr τ ω (z6u n d nt j0 fs)).2.length=ω.length /\
  ∀k,(∀i e sz,fs[i]?=some (.fresh e sz)->k=d+nt*(j0+i)->k<ω.length->(wr τ ω (z6u n d nt j0 fs)).2[k]?=some (some (.row e sz (.v (n+(j0+i)))))) /\
   ((∀i,¬(∃e sz,fs[i]?=some (.fresh e sz)/\k=d+nt*(j0+i)))->(wr τ ω (z6u n d nt j0 fs)).2[k]?=ω[k]?)
 | [],j0,τ,ω=>⟨rfl,rfl,λk=>⟨λi e sz h=>by simp at h,λ_=>rfl⟩⟩
 |f::fs,j0,τ,ω=>by
  have shift:∀(fs:List CF) (f:CF) (k:Nat),(∀i,¬(∃e sz,(f::fs)[i]?=some (.fresh e sz)/\k=d+nt*(j0+i)))->∀i,¬(∃e sz,fs[i]?=some (.fresh e sz)/\k=d+nt*(j0+1+i)):=by rintro fs f k h i ⟨e,sz,h1,h2⟩;exact h (i+1) ⟨e,sz,by simpa using h1,by rw[h2];congr 2;omega⟩
  cases f with
  |fresh e sz =>
   rw[z6u,wr];obtain⟨h1,h2,h3⟩:=zdz hnt fs (j0+1) τ (ω.set (d+nt*j0) (some (.row e sz (.v (n+j0)))));refine⟨h1,by rw[h2];simp,λk=>⟨λi e' sz' hi hk hlt=>?_,λhno=>?_⟩⟩
   ·cases i with
    |zero =>
     simp only[zY05,zY00,CF.fresh.injEq]at hi;obtain⟨rfl,rfl⟩:=hi;rw[(h3 k).2 (by rintro i ⟨e2,sz2,_,h5⟩;have:nt*(j0+0)=nt*(j0+1+i):=zX0;have:=Nat.eq_of_mul_eq_mul_left (Nat.pos_of_ne_zero hnt) this;omega)]
     rw[hk,zY28,zY0f (by rw[hk,zY28]at hlt;exact hlt)]
    |succ i =>have:=(h3 k).1 i e' sz' zXw (by rw[hk];congr 2;omega) zXi;rw[this];congr 4;omega
   ·rw[(h3 k).2 (shift fs _ k hno)];refine zY0j λe1=>hno 0 ⟨e,sz,rfl,by rw[zY28];omega⟩
  |pure =>
   rw[z6u]
   ·obtain⟨h1,h2,h3⟩:=zdz hnt fs (j0+1) τ ω;refine⟨h1,h2,λk=>⟨λi e' sz' hi hk hlt=>?_,λhno=>(h3 k).2 (shift fs _ k hno)⟩⟩;cases i with
    |zero=>simp at hi
    |succ i =>have:=(h3 k).1 i e' sz' zXw (by rw[hk];congr 2;omega) hlt;rw[this];congr 4;omega
   ·intro _ _ h;cases h
  |scal =>
   rw[z6u]
   ·obtain⟨h1,h2,h3⟩:=zdz hnt fs (j0+1) τ ω;refine⟨h1,h2,λk=>⟨λi e' sz' hi hk hlt=>?_,λhno=>(h3 k).2 (shift fs _ k hno)⟩⟩;cases i with
    |zero=>simp at hi
    |succ i =>have:=(h3 k).1 i e' sz' zXw (by rw[hk];congr 2;omega) hlt;rw[this];congr 4;omega
   ·intro _ _ h;cases h
theorem zeb{n d nt:Nat}:∀(fs:List CF) (j0:Nat),(zbr n d nt j0 fs).length=fs.length
 | [],_=>rfl
 |.fresh e sz::fs,j0=>by simp[zbr,zeb fs]
 |.pure::fs,j0=>by simp[zbr,zeb fs]
 |.scal::fs,j0=>by simp[zbr,zeb fs]
theorem zn4{n d nt:Nat}:∀(fs:List CF) (j0 i:Nat) (c:C1),(zbr n d nt j0 fs)[i]?=some c->(∃e sz,fs[i]?=some (.fresh e sz)/\c=.row (d+nt*(j0+i)))\/((fs[i]?=some .pure\/fs[i]?=some .scal)/\c=.at (.v (n+(j0+i))))
 | [],_,_,_,h=>by simp[zbr]at h
 |f::fs,j0,i,c,h=>by
  cases i with
  |zero =>cases f<;>(simp only[zbr,zY05,zY00]at h;subst h;simp)
  |succ i =>
   have h':(zbr n d nt (j0+1) fs)[i]?=some c:=by cases f<;>simpa[zbr]using h
   rw[show j0+(i+1)=j0+1+i by omega];simpa using zn4 fs (j0+1) i c h'
theorem zfx{τ:List SV}{ω:List (Option Ob)}:∀ {ws:List Wr} {u:Unit},(zbs ws).run τ ω=some u->∀k v,Wr.o k v∈ws->ω[k]?=some none
 | [],_,_,_,_,h=>by cases h
 |.t i v::ws,u,hr,k,v',h=>by
  rcases zY0g.1 h with h|h
  ·cases h
  ·exact zfx (ws:=ws) (u:=u) (by simpa[zbs]using hr) k v' h
 |.o i v::ws,u,hr,k,v',h=>by
  simp only[zbs,run_bind,z2y,zY01]at hr;obtain⟨x,hx,hr⟩:=hr;cases x with
  |none =>
   rcases zY0g.1 h with h|h
   ·injection h with h1 h2;subst h1;exact hx
   ·exact zfx hr k v' h
  |some y=>cases hr
theorem zvy{n d nt:Nat}:∀(fs:List CF) (j0 i e sz:Nat),fs[i]?=some (.fresh e sz)->Wr.o (d+nt*(j0+i)) (some (.row e sz (.v (n+(j0+i)))))∈z6u n d nt j0 fs
 | [],_,_,_,_,h=>by simp at h
 |f::fs,j0,0,e,sz,h=>by simp only[zY05,zY00]at h;subst h;simp[z6u]
 |f::fs,j0,i+1,e,sz,h=>by
  have:=zvy (n:=n) (d:=d) (nt:=nt) fs (j0+1) i e sz zXt;rw[show j0+(i+1)=j0+1+i by omega];cases f with
  |fresh e' sz'=>rw[z6u];exact zY0h _ this
  |pure=>rw[z6u];exact this;intro _ _ h;cases h
  |scal=>rw[z6u];exact this;intro _ _ h;cases h
theorem z01r{c:Ctx}{p:Bool×List CF}{v:Value}{us:List Value}{cs:List C1}(h:PartV p v us)(hc:C1Rs c cs us):PR c (p.1,cs) v:=by
 obtain⟨g,fs⟩:=p;cases g with
 |true =>simp only[PR,if_true];exact⟨us,h.1,hc⟩
 |false =>
  simp only[PR,zY0x,if_false];obtain⟨rfl,_⟩:=h
  match cs,hc with
  | [x],hc=>exact⟨x,rfl,hc.1⟩
  | [],hc=>exact absurd hc id
  |_::_::_,hc=>exact absurd hc.2 id
theorem PartV.len{p:Bool×List CF}{v:Value}{us:List Value}(h:PartV p v us):us.length=p.2.length:=by
 obtain⟨g,fs⟩:=p;cases g with
 |true=>exact h.2
 |false=>obtain⟨rfl,h2⟩:=h;exact h2.symm
theorem C1Rs.split{c:Ctx}:∀ {u1 u2:List Value} {cs:List C1},C1Rs c cs (u1++u2)->C1Rs c (cs.take u1.length) u1/\C1Rs c (cs.drop u1.length) u2
 | [],u2,cs,h=>⟨by simp[C1Rs],by simpa using h⟩
 |u::u1,u2,x::cs,h=>by obtain⟨h1,h2⟩:=C1Rs.split h.2;exact⟨⟨h.1,by simpa using h1⟩,by simpa using h2⟩
 |u::u1,u2,[],h=>absurd h id
theorem zje{c:Ctx}:∀ {ps:List (Bool×List CF)} {vs us:List Value} {cs:List C1},zoo ps vs us->C1Rs c cs us->PRs c (zge ps cs) vs
 | [],vs,us,cs,h,hc=>by obtain⟨rfl,rfl⟩:=h;exact trivial
 |p::ps,vs,us,cs,h,hc=>by obtain⟨v,vs',u1,u2,rfl,rfl,h1,h2⟩:=h;obtain⟨k1,k2⟩:=C1Rs.split hc;rw[h1.len]at k1 k2;exact⟨z01r h1 k1,zje h2 k2⟩
theorem zvz{τ:List SV}{ω:List (Option Ob)}{c:Ctx}{ps:List (Bool×List CF)}{cs:List C1}{sv:SV}(hr:(z02o ps cs).run τ ω=some sv){v:Value}{us:List Value}(hv:zvx ps v us)(hc:C1Rs c cs us):SVR c sv v:=by
 unfold z02o at hr
 match ps,hv with
 | [p],hv =>have hl:=PartV.len hv;have e:zge [p] cs=[(p.1,cs.take p.2.length)]:=rfl;rw[e]at hr;simp only at hr;refine zgh hr (z01r hv ?_);rw[zY0v (by rw[hc.len,hl];exact zY0k _)];exact hc
 | [],hv =>obtain⟨vs,rfl,h2⟩:=hv;simp only[zge,run_pure,zY00]at hr;subst hr;exact⟨vs,rfl,zje h2 hc⟩
 |p::q::ps,hv =>obtain⟨vs,rfl,h2⟩:=hv;have:=zje h2 hc;simp only[zge,run_pure,zY00]at hr;subst hr;exact⟨vs,rfl,this⟩
theorem zgj{P:Program}{W:World}{a:Act}{o:Oper}{us caps:List Value}{fx:Operand}(ho:o.op=.call c)(hc:c.callee=.value fx)(hf:a.eval fx=.func (.func f) #[] caps.toArray)(hus:(c.args.map a.eval).toList=us)
  {R:Value->World->Prop} (hd:Does P f (us++caps).toArray W R) {K:Act->World->Prop} {Q:Exit->Act->World->Prop} (hk:∀v W',R v W'->K (a.put o.dst v) W'):o.wp P a W K Q:=by
 have e1:c.args.map a.eval=us.toArray:=by rw[<- hus,zY1r]
 have hrun:(execOp a.eval o).run P W=(callFunc f (us++caps).toArray).run P W:=by unfold execOp;simp only[ho,resolve,hc,hf,Deferred.ofValue,invoke,Sem.run_bind,Sem.run_pure,Result.andThen_ok,e1];congr 2;simp
 unfold Oper.wp;rw[hrun];rcases hd with⟨h1,h2⟩|⟨v,W',h1,h2⟩
 ·rw[h1,Oper.upon_enter];exact h2.mono λe w' ⟨v,he,hR⟩=>by subst he;exact hk v w' hR
 ·rw[h1];exact hk v W' h2
section
variable {P:Program} {w0 W:World} {F0:Bk} {E:Env} {τ:List SV} {ω ω1:List (Option Ob)} {a:Act} {ρ:Nat->Value} {cx:Cx} {o:Oper} {e:Eff} {sp:Nat->zd} {n nt kb:Nat} {kn:List (Nat×Bool)} {Q:Exit->Act->World->Prop}
open Classical in
theorem Sim.called(h:Sim w0 F0 E τ ω a W ρ)(hb:Below W.heap.size W W'){rs:List Dt}{v:Value}{us:List Value}{F':Nat->Prop}(hres:ResR W (Frr w0 F0 ω ρ W) W' s rs v us F'){d:Nat}(hnt:nt≠0)
  (hfree:∀(i e sz:Nat),(zu s)[i]?=some (.fresh e sz)->ω[d+nt*i]?=some none) (hE:∀(i:Nat) (x:Dt),rs[i]?=some x->E[n+i]?=some x) :
  ∃ρ',Sim w0 F0 E τ (wr τ ω (z6u n d nt 0 (zu s))).2 a W' ρ'/\C1Rs (ctx w0 F0 E (wr τ ω (z6u n d nt 0 (zu s))).2 ρ' W') (zbr n d nt 0 (zu s)) us:=by
 obtain⟨g1,g2,g3⟩:=zdz (n:=n) (d:=d) hnt (zu s) 0 τ ω;generalize hω3:(wr τ ω (z6u n d nt 0 (zu s))).2=ω3 at *;have gkey:∀i e sz,(zu s)[i]?=some (.fresh e sz)->ω3[d+nt*i]?=some (some (.row e sz (.v (n+i)))):=by intro i e sz hi;have:=(g3 (d+nt*i)).1 i e sz hi (by rw[zY0z]) (zY02.1 (hfree i e sz hi)).1;rw[zY0z]at this;exact this
 have gno:∀k,(∀i,¬KeyAt d nt (zu s) k i)->ω3[k]?=ω[k]?:=λk hk=>(g3 k).2 λi ⟨e,sz,h1,h2⟩=>hk i ⟨e,sz,h1,by rw[zY0z]at h2;exact h2⟩
 let ρ':Nat->Value:=λk=>if hk:∃i,KeyAt d nt (zu s) k i then us.getD (Classical.choose hk) undef else ρ k
 have hρk:∀k i,KeyAt d nt (zu s) k i->ρ' k=us.getD i undef:=by
  intro k i hk;have hex:∃i,KeyAt d nt (zu s) k i:=⟨i,hk⟩
  simp only[ρ',dif_pos hex];rw[KeyAt.inj hnt (zY3j hex) hk]
 have hρn:∀k,(¬ ∃i,KeyAt d nt (zu s) k i)->ρ' k=ρ k:=λk hk=>by simp only[ρ',dif_neg hk]
 have hus:∀i e sz,(zu s)[i]?=some (.fresh e sz)->∃u x,us[i]?=some u/\rs[i]?=some x/\us.getD i undef=u/\CFR W' F' W.heap.size (.fresh e sz) x u:=by
  intro i e sz hi;have hlt:=(zY02.1 hi).1;have h1:i<us.length:=by rw[hres.lus];exact hlt
  have h2:i<rs.length:=by rw[hres.lrs];exact hlt
  exact⟨us[i],rs[i],zY03 h1,zY03 h2,by simp[zY0r,h1],hres.cells i _ _ _ hi (zY03 h2) (zY03 h1)⟩
 have hkeyω:∀k i,KeyAt d nt (zu s) k i->ω[k]?=some none/\∃e sz,(zu s)[i]?=some (.fresh e sz)/\ω3[k]?=some (some (.row e sz (.v (n+i)))):=by rintro k i ⟨e,sz,h1,rfl⟩;exact⟨hfree i e sz h1,e,sz,h1,gkey i e sz h1⟩
 have hlive:∀k,live ω k->live ω3 k/\ρ' k=ρ k:=by
  intro k hk;have hno:¬ ∃i,KeyAt d nt (zu s) k i:=λ⟨i,hi⟩=>by obtain⟨q,hq⟩:=hk;rw[(hkeyω k i hi).1]at hq;cases hq
  refine⟨?_,hρn k hno⟩;obtain⟨q,hq⟩:=hk;exact⟨q,by rw[gno k λi hi=>hno ⟨i,hi⟩];exact hq⟩
 have hF:(∀b,Frr w0 F0 ω ρ W b->Frr w0 F0 ω3 ρ' W' b)->∀b,F' b->Frr w0 F0 ω3 ρ' W' b:=by
  intro hle b hb';rcases hres.own b hb' with h1|h1
  ·exact hle b h1
  ·refine⟨.inr ⟨by have:=h.bsz;omega,h1.2⟩,?_⟩;rintro⟨k,q,h2,h3⟩;by_cases hk:∃i,KeyAt d nt (zu s) k i
   ·obtain⟨i,hi⟩:=hk;obtain⟨_,e,sz,h4,h5⟩:=hkeyω k i hi;rw[h5]at h2;simp only[zY00]at h2;subst h2;rw[hρk k i hi]at h3;simp only[own]at h3;obtain⟨u,x,h6,_,h7,_⟩:=hus i e sz h4;rw[h7]at h3;exact hres.apart i e sz u b h4 h6 h3 hb'
   ·rw[gno k λi hi=>hk ⟨i,hi⟩]at h2;rw[hρn k hk]at h3;have:=((h.objs k q h2).lt h3).2;simp only[ctx]at this;omega
 have key:∀k i q,KeyAt d nt (zu s) k i->ω3[k]?=some (some q)->∃e sz u x xs vs,(zu s)[i]?=some (.fresh e sz)/\q=.row e sz (.v (n+i))/\us[i]?=some u/\ρ' k=u/\rs[i]?=some x/\x=.l sz xs/\(∀y∈xs,y.length=sz)/\W'.ownsRow W.heap.size e sz u xs.length vs/\Reps W' F' xs.flatten vs:=by intro k i q hi hq;obtain⟨_,e,sz,h4,h5⟩:=hkeyω k i hi;rw[h5]at hq;simp only[zY00]at hq;obtain⟨u,x,h6,h6',h7,h8⟩:=hus i e sz h4;obtain⟨xs,vs,h9,h10,h11,h12⟩:=h8;exact⟨e,sz,u,x,xs,vs,h4,hq.symm,h6,by rw[hρk k i hi,h7],h6',h9,h10,h11,h12⟩
 have hks:∀k,k∈(List.range ω.length).filter (λk=>decide (∃i,KeyAt d nt (zu s) k i))↔∃i,KeyAt d nt (zu s) k i:=by intro k;simp only[zY3w,zY2i,decide_eq_true_eq];exact⟨λh=>h.2,λ⟨i,hi⟩=>⟨(zY02.1 (hkeyω k i hi).1).1,i,hi⟩⟩
 have hsim:Sim w0 F0 E τ ω3 a W' ρ':=by
  refine h.gen ((List.range ω.length).filter (λk=>decide (∃i,KeyAt d nt (zu s) k i))) (hb.mono h.bsz) h.defers h.size (λk hk=>?_) hlive (λb hlt _=>hb.block b hlt) (λk hk q hq b hb'=>?_) (λk hk k' hk' q q' g h1 h2 h3 h4=>?_) (λhle _ k hk q hq=>?_) (λ_ _ t sv ht=>.inl ⟨ht,rfl⟩)
  ·rw[hks]at hk;exact gno k λi hi=>hk ⟨i,hi⟩
  ·obtain⟨i,hi⟩:=(hks k).1 hk;obtain⟨e,sz,u,x,xs,vs,h1,rfl,h3,h4,h5,h6,h7,h8,h9⟩:=key k i q hi hq;rw[h4]at hb';exact .inr (z3p h8 hb').1
  ·obtain⟨i,hi⟩:=(hks k).1 hk;obtain⟨i',hi'⟩:=(hks k').1 hk';obtain⟨e,sz,u,x,xs,vs,a1,rfl,a3,a4,_⟩:=key k i q hi h1;obtain⟨e',sz',u',x',xs',vs',b1,rfl,b3,b4,_⟩:=key k' i' q' hi' h2;rw[a4]at h3;rw[b4]at h4;have:=hres.dj i i' e sz e' sz' u u' g a1 a3 b1 b3 h3 h4;subst this;obtain⟨_,_,_,e1⟩:=hi;obtain⟨_,_,_,e2⟩:=hi';rw[e1,e2]
  ·obtain⟨i,hi⟩:=(hks k).1 hk;obtain⟨e,sz,u,x,xs,vs,h1,rfl,h3,h4,h5,rfl,h7,h8,h9⟩:=key k i q hi hq;refine⟨xs,vs,hE i _ h5,h7,?_,h9.mono (λ_ _=>rfl) (hF hle.more)⟩;rw[show(ctx w0 F0 E ω3 ρ' W').ρ k=u from h4];refine⟨h8.1,h8.2.imp id λ⟨g,cap,cur,k1,k2,k3⟩=>⟨g,cap,cur,k1,zY3n h.bsz k2,k3⟩⟩
 refine⟨ρ',hsim,C1Rs.of (by rw[zeb,hres.lus]) λj c u hc hu=>?_⟩;have hlt:j<us.length:=(zY02.1 hu).1;have hrl:j<rs.length:=by rw[hres.lrs,<- hres.lus];exact hlt
 have hx:=zY03 hrl;have hmore:∀b,Frr w0 F0 ω ρ W b->Frr w0 F0 ω3 ρ' W' b:=by
  intro b hb';have hlt:=h.frLt hb';refine⟨hb'.1.imp id λx=>⟨x.1,zY1v x.2 hb.size⟩,?_⟩;rintro⟨k,q,h2,h3⟩;by_cases hk:∃i,KeyAt d nt (zu s) k i
  ·obtain⟨i,hi⟩:=hk;obtain⟨e,sz,u,x,xs,vs,h1,rfl,h3',h4,h5,h6,h7,h8,h9⟩:=key k i q hi h2;rw[h4]at h3;have:=(z3p h8 h3).1;omega
  ·rw[gno k λi hi=>hk ⟨i,hi⟩]at h2;rw[hρn k hk]at h3;exact hb'.2 ⟨k,q,h2,h3⟩
 rcases zn4 _ _ _ _ hc with⟨e,sz,h1,rfl⟩|⟨h1,rfl⟩
 ·rw[zY0z];have hk:KeyAt d nt (zu s) (d+nt*j) j:=⟨e,sz,h1,rfl⟩
  obtain⟨e,sz,u',x,xs,vs,k1,k2,k3,k4,k5,k6,k7,k8,k9⟩:=key _ j _ hk (gkey j e sz h1);rw[hu]at k3;injection k3 with k3;subst k3;exact⟨⟨_,gkey j _ _ h1⟩,k4.symm,zc6 k8⟩
 ·rw[zY0z];refine⟨rs[j],hE j _ hx,?_⟩;rcases h1 with h1|h1
  ·exact(hres.cells j _ _ _ h1 hx hu).mono (λ_ _=>rfl) (hF hmore)
  ·exact(hres.cells j _ _ _ h1 hx hu).2.mono (λ_ _=>rfl) (hF hmore)
theorem zjf:∀(ws:List Wr) (τ:List SV) (ω:List (Option Ob)) (k:Nat),ws.any (λw=>decide (w.loc=.o k))=false->(wr τ ω ws).2[k]?=ω[k]?
 | [],τ,ω,k,_=>rfl
 |.t i v::ws,τ,ω,k,h=>by rw[zY3a,zY31]at h;exact zjf ws _ _ k h.2
 |.o i v::ws,τ,ω,k,h=>by
  rw[zY3a,zY31]at h;have h1:i≠k:=λe=>by subst e;simp[Wr.loc]at h
  have:=zjf ws τ (ω.set i v) k h.2;rw[zY0j h1]at this;exact this
theorem Sim.reRow(h:Sim w0 F0 E τ ω a W ρ){k0 e:Nat}{xa xb:Atom}(hob:ω[k0]?=some (some (.row e sz xa))){xs':List (List Dt)}{vs':List Value}(hn:xb.val E=some (.l sz xs'))(hsz:∀x∈xs',x.length=sz)
  (g3:W'.ownsRow w0.heap.size e sz (ρ k0) xs'.length vs') (g4:W.grownBy W' (ρ k0).ownBlock) (hr:Reps W' (Frr w0 F0 ω ρ W) xs'.flatten vs'):Sim w0 F0 E τ (ω.set k0 (some (.row e sz xb))) a W' ρ:=by
 obtain⟨xs,vs,b1,b2,b3,b4⟩:=h.objs k0 _ hob;have hlt0:=(zY02.1 hob).1;have hb3:∀g,(ρ k0).ownBlock=some g->w0.heap.size<=g/\g<W.heap.size:=λg hg=>z3p b3 hg;have hgk:∀o',(ω.set k0 (some (.row e sz xb)))[k0]?=some (some o')->o' = .row e sz xb:=by intro o' h1;rw[zY0f hlt0]at h1;simp only[zY00]at h1;exact h1.symm
 refine h.gen [k0] (zc5 g4 (λg hg=>(hb3 g hg).1) h.bsz) h.defers h.size (λj hj=>?_) (λj hj=>⟨z6h hlt0 hj,rfl⟩) (λb hb hno=>?_) (λj hj o' ho' b hb=>?_) (λj hj j' hj' o1 o2 g h1 h2 h3 h4=>?_) (λhle _ j hj o' ho'=>?_) (λ_ _ t sv ht=>.inl ⟨ht,rfl⟩)
 ·simp only[zY12]at hj;rw[zY0j (Ne.symm hj)]
 ·refine g4.block b hb λe=>hno k0 zX4 _ hob ?_;simp only[own];exact e.symm
 ·simp only[zY12]at hj;subst hj;rw[hgk o' ho']at hb;simp only[own]at hb;exact .inl ⟨j,by simp,_,hob,by simp only[own];exact hb⟩
 ·simp only[zY12]at hj hj';rw[hj,hj']
 ·simp only[zY12]at hj;subst hj;rw[hgk o' ho'];exact⟨xs',vs',hn,hsz,g3,hr.mono (λ_ _=>rfl) hle.more⟩
theorem Sim.newRow(h:Sim w0 F0 E τ ω a W ρ){k0 e:Nat}{xa xb:Atom}(hob:ω[k0]?=some (some (.row e sz xa)))(hk:ω[k]?=some none){v':Value}{xs':List (List Dt)}{vs':List Value}(hn:xb.val E=some (.l sz xs'))(hsz:∀x∈xs',x.length=sz)
  (g3:W'.ownsRow w0.heap.size e sz v' xs'.length vs') (g4:W.grownBy W' (ρ k0).ownBlock) (hr:Reps W' (Frr w0 F0 ω ρ W) xs'.flatten vs') (g5:∀b,v'.ownBlock=some b->(ρ k0).ownBlock=some b\/W.heap.size<=b) :
  Sim w0 F0 E τ ((ω.set k0 (some .dead)).set k (some (.row e sz xb))) a W' (upd ρ k v'):=by
 obtain⟨xs,vs,b1,b2,b3,b4⟩:=h.objs k0 _ hob;have hlt:=(zY02.1 hk).1;have hkk:k≠k0:=λe=>by rw[e]at hk;rw[hk]at hob;cases hob
 have hlt0:=(zY02.1 hob).1;have hb3:∀g,(ρ k0).ownBlock=some g->w0.heap.size<=g/\g<W.heap.size:=λg hg=>z3p b3 hg;have hgk:∀o',((ω.set k0 (some .dead)).set k (some (.row e sz xb)))[k0]?=some (some o')->o' = .dead:=by intro o' h1;rw[zY0j hkk,zY0f hlt0]at h1;simp only[zY00]at h1;exact h1.symm
 have hgd:∀o',((ω.set k0 (some .dead)).set k (some (.row e sz xb)))[k]?=some (some o')->o' = .row e sz xb:=by intro o' h1;rw[zY0f zXi]at h1;simp only[zY00]at h1;exact h1.symm
 refine h.gen [k0,k] (zc5 g4 (λg hg=>(hb3 g hg).1) h.bsz) h.defers h.size (λj hj=>?_) (λj hj=>?_) (λb hb hno=>?_) (λj hj o' ho' b hb=>?_) (λj hj j' hj' o1 o2 g h1 h2 h3 h4=>?_) (λhle _ j hj o' ho'=>?_) (λ_ _ t sv ht=>.inl ⟨ht,rfl⟩)
 ·simp only[zY0g,zY1k,or_false,not_or]at hj;rw[zY0j (Ne.symm hj.2),zY0j (Ne.symm hj.1)]
 ·refine⟨z6h zXi (z6h hlt0 hj),zgf _ _ λe=>?_⟩;obtain⟨q,hq⟩:=hj;rw[e,hk]at hq;cases hq
 ·refine g4.block b hb λe=>hno k0 zX4 _ hob ?_;simp only[own];exact e.symm
 ·simp only[zY0g,zY1k,or_false]at hj;rcases hj with rfl|rfl
  ·rw[hgk o' ho']at hb;simp only[own]at hb;cases hb
  ·rw[hgd o' ho',z1g]at hb;simp only[own]at hb;rcases g5 b hb with g5|g5
   ·exact .inl ⟨k0,by simp,_,hob,by simp only[own];exact g5⟩
   ·exact .inr g5
 ·simp only[zY0g,zY1k,or_false]at hj hj';rcases hj with rfl|rfl
  ·rw[hgk o1 h1]at h3;simp only[own]at h3;cases h3
  ·rcases hj' with rfl|rfl
   ·rw[hgk o2 h2]at h4;simp only[own]at h4;cases h4
   ·rfl
 ·simp only[zY0g,zY1k,or_false]at hj;rcases hj with rfl|rfl
  ·rw[hgk o' ho'];trivial
  ·rw[hgd o' ho'];refine⟨xs',vs',hn,hsz,?_,hr.mono (λ_ _=>rfl) hle.more⟩;rw[show(ctx w0 F0 E ((ω.set k0 (some .dead)).set j (some (.row e sz xb))) (upd ρ j v') W').ρ j=v' from z1g _ _ _];exact g3
theorem z0f2{fx:Operand}{vs:List SV}{us0 cus us:List Value}(h:Sim w0 F0 E τ ω a W ρ)(ho:o.op=.call c)(hcl:c.callee=.value fx)(hcv:a.eval fx=.func (.func f) #[] cus.toArray)(hus0:(c.args.map a.eval).toList=us0)
  (hus:us0++cus=us) (hul:us.length=vs.length) (huj:∀(j:Nat) (sv:SV) (u:Value),vs[j]?=some sv->us[j]?=some u->SVR (ctx w0 F0 E ω ρ W) sv u) (hM:Meets P (sp ci) f s) (hr:(z02p kb n o ci s vs).run τ ω=some e) (hf:Facts sp E n e) :
  o.wp P a W (z2h w0 F0 E τ ω e.ws) Q:=by
 unfold z02p at hr;split at hr
 ·rename_i e0 sz ps k0 vs hsa
  match us,hul,huj with
  |u::us',hul,huj =>
  have hrow:=huj 0 _ u rfl rfl;simp only[run_bind,zY01]at hr;obtain⟨⟨as0,ws⟩,hargs,hr⟩:=hr;simp only[run_ite]at hr;split at hr
  ·cases hr
  rename_i hws;simp only[zY2j]at hws;simp only[run_bind,z2y,zY01]at hr;obtain⟨ob,hob,hr⟩:=hr;obtain⟨g1,g2,ds,g3,g4⟩:=zfw (us:=us') (FrzRel.refl ω) h hargs (by simpa using hul) (λj sv u' h1 h2=>huj (j+1) sv u' (by simpa using h1) (by simpa using h2));have hob':(wr τ ω ws).2[k0]?=some ob:=by rw[zjf ws τ ω k0 hws];exact hob
  split at hr
  ·rename_i e' z xa;simp only[run_ite]at hr;split at hr
   ·cases hr
   rename_i hez;simp only[not_or,ne_eq,zY0u]at hez;obtain⟨rfl,rfl⟩:=hez;obtain⟨xs,vs0,b1,b2,b3,b4⟩:=g2.sim.objs k0 _ hob';simp only[ctx]at b1 b3 b4;obtain⟨_,hu,_⟩:=hrow;simp only[ctx]at hu;have hblk:∀b,u.ownBlock=some b->¬Frr w0 F0 (wr τ ω ws).2 ρ W b:=by intro b hb hfr;exact hfr.2 ⟨k0,_,hob',by simp only[own];rw[<- hu];exact hb⟩
   have hcall:∀d,denX sp E (.call ci (xa::as0) 0)=some d->∃xs',d=.l z xs'/\(∀x∈xs',x.length=z)/\Does P f (us0++cus).toArray W λr W'=>∃v' vs',((s.res=[]->v'=u)/\(s.res≠[]->r=v'))/\W.grownBy W' u.ownBlock /\
     W'.ownsRow w0.heap.size e' z v' xs'.length vs'/\Reps W' (Frr w0 F0 (wr τ ω ws).2 ρ W) xs'.flatten vs'/\(∀b,v'.ownBlock=some b->u.ownBlock=some b\/W.heap.size<=b):=by
    intro d hd;have hv:vals E (xa::as0)=some (.l z xs::ds):=by simp only[vals,b1,g3,zY0a,zY07,zY1e]
    simp only[denX,hv,zY0a,zY07,zY01]at hd;obtain⟨rs,h1,h2⟩:=hd;obtain⟨xs',rfl,h3,h4⟩:=hM.2 _ _ _ hsa W _ w0.heap.size u xs vs0 ds us' rs g2.sim.lows g2.sim.bsz hblk b2 (by rw[hu];exact b3) b4 g4 h1;simp only[zY05,zY00]at h2;rw[hus];exact⟨xs',h2.symm,h3,h4⟩
   split at hr
   ·rename_i hres;simp only[run_pure,zY00]at hr;subst hr;obtain⟨d,hd,hn⟩:=hf.one;obtain⟨xs',rfl,h3,hdo⟩:=hcall d hd;refine zgj ho hcl hcv hus0 hdo ?_;rintro r W' ⟨v',vs',⟨q1,_⟩,q2,q3,q4,q5⟩;obtain rfl:=q1 hres;rw[hu]at q2 q3;have hs:=g2.sim.reRow hob' (xb:=.v n) hn h3 q3 q2 q4;refine⟨ρ,?_⟩;simp only[z1f,g1];exact hs.dst o (sv:=.one .top) trivial
   ·rename_i e2 z2 hres;simp only[run_ite]at hr;split at hr
    ·cases hr
    simp only[run_bind,run_pure,zY01,zY00]at hr;obtain⟨d0,hk,rfl⟩:=hr;obtain⟨_,hk⟩:=z70 hk;obtain⟨d,hd,hn⟩:=hf.one;obtain⟨xs',rfl,h3,hdo⟩:=hcall d hd;refine zgj ho hcl hcv hus0 hdo ?_;rintro r W' ⟨v',vs',⟨_,q1⟩,q2,q3,q4,q5⟩;obtain rfl:=q1 (by rw[hres];simp);rw[hu]at q2 q5;have hkf:=zn3 g2.rel hk;have hs:=g2.sim.newRow hob' hkf (xb:=.v n) hn h3 q3 q2 q4 q5;refine⟨upd ρ d0 r,?_⟩;simp only[z1f,g1];have hlt:=(zY02.1 hkf).1;exact hs.dst o (sv:=.one (.row d0)) ⟨⟨_,zY0f zXi⟩,(z1g _ _ _).symm,zc6 q3⟩
   ·cases hr
  ·cases hr
 ·cases hr
theorem z0ch{fx:Operand}(h:Sim w0 F0 E τ ω a W ρ)(ho:o.op=.call c)(hcl:c.callee=.value fx)(hr:(zt cx kb n nt kn o).run τ ω=some e)(hf:Facts sp E n e)(hsig:∀ci f s,cx.sigs[ci]?=some (f,s)->Meets P (sp ci) f s):o.wp P a W (z2h w0 F0 E τ ω e.ws) Q:=by
 unfold zt at hr;rw[ho]at hr;simp only[ze5,hcl]at hr;simp only[run_bind,zY01]at hr;obtain⟨cf,hcf,hr⟩:=hr;have hfn:=z35 h hcf;cases cf with
 |fn f caps =>
  simp only[run_bind,z0l,zY01]at hr;obtain⟨vs0,hvs,⟨ci,s⟩,hfs,hr⟩:=hr;obtain⟨hvl,hvj⟩:=zf7 h hvs;obtain⟨hci,hget⟩:=z038 hfs;have hM0:=hsig ci f s (by simpa using hget);obtain⟨cus,hcv,hcaps⟩:=hfn;have hcl':caps.length=cus.length:=by
   clear hfs hcv hcf hr;induction caps generalizing cus with
   |nil=>cases cus with
    |nil=>rfl
    |cons _ _=>exact absurd hcaps id
   |cons p ps ih=>cases cus with
    |nil=>exact absurd hcaps id
    |cons v vs=>simp[ih vs hcaps.2]
  have hcj:∀(j:Nat) (p:Nat×Nat) (u:Value),caps[j]?=some p->cus[j]?=some u->CapR (ctx w0 F0 E ω ρ W) p u:=by
   clear hfs hcv hcl' hcf hr;induction caps generalizing cus with
   |nil=>intro j p u hp;simp at hp
   |cons q qs ih=>cases cus with
    |nil=>exact absurd hcaps id
    |cons v vs =>
     intro j p u hp hu;cases j with
     |zero=>simp only[zY05,zY00]at hp hu;subst hp;subst hu;exact hcaps.1
     |succ j=>exact ih vs hcaps.2 j p u (by simpa using hp) zXy
  let us0:=(c.args.map a.eval).toList
  have hus0:us0=c.args.toList.map a.eval:=by simp[us0]
  have hul:(us0++cus).length=(vs0++caps.map λp=>SV.one (.bp p.1 p.2)).length:=by simp[hus0,hvl,hcl']
  have huj:∀(j:Nat) (sv:SV) (u:Value),(vs0++caps.map λp=>SV.one (.bp p.1 p.2))[j]?=some sv->(us0++cus)[j]?=some u->SVR (ctx w0 F0 E ω ρ W) sv u:=by
   intro j sv u h1 h2;have hll:us0.length=vs0.length:=by simp[hus0,hvl]
   by_cases hj:j<vs0.length
   ·rw[zY0l hj]at h1;rw[zY0l zX0,hus0,zY0m,zY0t]at h2;obtain⟨x,hx,rfl⟩:=h2;exact hvj j sv x h1 hx
   ·rw[zY0q zX0,zY0m,zY0t]at h1;obtain⟨p,hp,rfl⟩:=h1;rw[zY0q zX0,hll]at h2;exact hcj _ p u hp h2
  simp only[run_ite]at hr;split at hr
  ·exact z0f2 h ho hcl hcv rfl rfl hul huj hM0 hr hf
  rename_i hmine;simp only[zY2j]at hmine;have hM:=hM0.1 hmine;split at hr
  ·cases hr
  rename_i hnot;simp only[not_or,not_and,zY2v,zY2j]at hnot;obtain⟨hne,hnt,hlend,hdst⟩:=hnot;simp only[run_bind,run_pure,zY01,zY00]at hr;obtain⟨⟨as0,ws⟩,hargs,u0,hfree,sv,hsv,rfl⟩:=hr;have hrs:∀ds,vals E as0=some ds->∃rs,sp ci ds=some rs/\∀(i:Nat),i<(zu s).length->∃x,rs[i]?=some x/\E[n+i]?=some x:=by
   intro ds hds;have hp:∀i,i<(zu s).length->∃rs,sp ci ds=some rs/\∃x,rs[i]?=some x/\E[n+i]?=some x:=by intro i hi;obtain⟨x,hx,hE⟩:=hf.1 i (.call ci as0 i) (by simp[hi]);simp only[denX,hds,zY0a,zY07,zY01]at hx;obtain⟨rs,h1,h2⟩:=hx;exact⟨rs,h1,x,h2,hE⟩
   obtain⟨rs,h1,_⟩:=hp 0 zX0;refine⟨rs,h1,λi hi=>?_⟩;obtain⟨rs',h2,h3⟩:=hp i hi;rw[h1]at h2;injection h2 with h2;subst h2;exact h3
  cases hld:s.lend with
  |false =>
   rw[hld]at hargs;obtain⟨g1,g2,ds,g3,g4⟩:=zfw (FrzRel.refl ω) h hargs hul huj;obtain⟨rs,hrs1,hrs2⟩:=hrs ds g3;have hdo:=hM W _ ds _ rs g2.sim.lows g4 hrs1;refine zgj ho hcl hcv rfl hdo λv W' ⟨hb,us,F',hres⟩=>?_;have hcalled:=g2.sim.called (nt:=nt) (n:=n) hb hres (d:=kb+o.dst.getD 0) hnt (λi e sz hi=>?_) (λi x hx=>?_)
   ·obtain⟨ρ',hs,hcs⟩:=hcalled;refine⟨ρ',?_⟩;obtain⟨k1,_,_⟩:=zdz (n:=n) (d:=kb+o.dst.getD 0) hnt (zu s) 0 τ (wr τ ω ws).2;simp only[z1f,g1,k1];exact hs.dst o (zvz hsv hres.val hcs)
   ·exact zn3 g2.rel (by have:=zfx hfree _ _ (zvy (n:=n) (d:=kb+o.dst.getD 0) (nt:=nt) (zu s) 0 i e sz hi);rw[zY0z]at this;exact this)
   ·have hi:i<(zu s).length:=by rw[<- hres.lrs];exact(zY02.1 hx).1
    obtain⟨y,h1,h2⟩:=hrs2 i hi;rw[hx]at h1;injection h1 with h1;subst h1;exact h2
  |true =>
   rw[hld]at hargs;obtain⟨rfl,ds,g3,g4⟩:=zm1 h hargs hul huj;obtain⟨rs,hrs1,hrs2⟩:=hrs ds g3;have hdo:=hM W _ ds _ rs ⟨λb hb=>hb,h.low.2.on h.below⟩ g4 hrs1;refine zgj ho hcl hcv rfl hdo λv W' ⟨hb,us,F',hres⟩=>?_;have hall:=hlend hld;have hsc:∀(i:Nat) (f:CF),(zu s)[i]?=some f->f=.scal:=by intro i f hi;have:=zY1j.1 hall f (zY06 hi);cases f<;>first|rfl|cases this
   have hs:=h.belows hb;obtain⟨k1,_,k3⟩:=zdz (n:=n) (d:=kb+o.dst.getD 0) hnt (zu s) 0 τ ω;have hω:(wr τ ω (z6u n ((kb+o.dst.getD 0)) nt 0 (zu s))).2=ω:=by apply zY2w;intro k;exact(k3 k).2 λi ⟨e,sz,h1,_⟩=>by have:=hsc i _ h1;cases this
   refine⟨ρ,?_⟩;simp only[zY16,z1f,k1,hω];refine hs.dst o (zvz hsv hres.val (C1Rs.of (by rw[zeb,hres.lus]) λj cc u hc hu=>?_));have hlt:j<us.length:=(zY02.1 hu).1;have hrl:j<rs.length:=by rw[hres.lrs,<- hres.lus];exact hlt
   have hx:=zY03 hrl;rcases zn4 _ _ _ _ hc with⟨e,sz,h1,rfl⟩|⟨h1,rfl⟩
   ·have:=hsc j _ h1;cases this
   ·rw[zY0z];obtain⟨y,h2,h3⟩:=hrs2 j (by rw[<- hres.lrs];exact hrl);rw[hx]at h2;injection h2 with h2;subst h2;refine⟨rs[j],h3,?_⟩;have hj:(zu s)[j]?=some .scal:=by
     rcases h1 with h1|h1
     ·have:=hsc j _ h1;cases this
     ·exact h1
    obtain⟨c1,c2⟩:=hres.cells j _ _ _ hj hx hu;exact c2.scal c1
 |_=>cases hr
end
section
variable {P:Program} {w0 W:World} {F0:Bk} {E:Env} {τ:List SV} {ω:List (Option Ob)} {a:Act} {ρ:Nat->Value} {cx:Cx} {o:Oper} {e:Eff} {sp:Nat->zd} {n nt kb:Nat} {kn:List (Nat×Bool)} {Q:Exit->Act->World->Prop}
theorem z09i{d:TypeDesc}(hu:P.underlying et=some d)(hd:d.isRow=false){xs:Array Value}{v:Value}(hx:xs[off]?=some v):(part et xs off).run P W=.ok v W:=by
 have h1:(isAgg et).run P W=.ok false W:=by unfold isAgg;simp only[Sem.run_bind,run_underlying hu,Result.andThen_ok];cases d<;>first|rfl|cases hd
 simp[part,h1,hx]
theorem zsr{len:Nat}{ti:TyI}(ht:TyOk P t ti)(ha:ti.arr=some (len,et)){us:List Value}(hl:us.length=len){m:Int}(h0:0<=m){u:Value}(hx:us[m.toNat]?=some u)(k:IntKind) :
  (Instr.index t (.agg us.toArray) (.int k m)).run P W=.ok u W:=by
 obtain⟨hu,ie,d,hie,hsz,hud,hd⟩:=ht.arr _ _ ha;have hm:=(zY02.1 hx).1;have hcond:0<=m/\m<(len:Int):=⟨h0,by omega⟩
 have hp:=z09i (P:=P) (W:=W) (et:=et) (xs:=us.toArray) (off:=m.toNat*1) (v:=u) hud hd zXo;simp[Instr.index,asIntOf,run_underlying hu,hcond,sizeOf,typeInfo,hie,hsz]at hp⊢;exact hp
theorem z09j{x y:Operand}(h:Sim w0 F0 E τ ω a W ρ)(ho:o.op=.index t x y)(hr:(zt cx kb n nt kn o).run τ ω=some e)(hf:Facts sp E n e)(hty:∀t i,cx.ti t=some i->TyOk P t i):o.wp P a W (z2h w0 F0 E τ ω e.ws) Q:=by
 unfold zt at hr;rw[ho]at hr;simp only[z01h,run_bind,z0l,zY01]at hr;obtain⟨ti,hti,⟨len,et⟩,harr,sv,hsv,hr⟩:=hr;have ht:=hty t ti hti;have hsvr:=z5h h hsv;have hexec:∀u k m us,a.eval x=.agg us->a.eval y=.int k m->(Instr.index t (.agg us) (.int k m)).run P W=.ok u W->(execOp a.eval o).run P W=.ok (.value u) W:=by intro u k m us h1 h2 h3;unfold execOp;simp only[ho,h1,h2,Sem.run_bind,h3,Result.andThen_ok,Sem.run_pure]
 match sv,hsvr,hr with
 |.agg cs,⟨us,hus,hcs⟩,hr =>
  simp only[run_ite]at hr;split at hr
  ·cases hr
  rename_i hlen;simp only[ne_eq,zY0u]at hlen;have hul:us.length=len:=by rw[<- hcs.len];exact hlen
  simp only[run_bind,zY01]at hr;obtain⟨ia,hia,hr⟩:=hr;obtain⟨di,hdi,hri⟩:=z36 h hia;split at hr
  ·rename_i k;simp only[run_ite]at hr;split at hr
   ·cases hr
   rename_i hk0;simp only[run_bind,z0l,z2s,run_pure,zY01,zY00]at hr;obtain⟨c,hc,rfl⟩:=hr;obtain⟨u,hu,hcr⟩:=hcs.get hc;injection hdi with hdi;subst hdi;have hey:=(z3n hri).1;exact zr (hexec u _ _ _ hus hey (zsr ht harr hul zX0 hu _)) (h.goes o hcr)
  ·simp only[run_bind,z0l,run_pure,zY01,zY00]at hr;obtain⟨as0,has,rfl⟩:=hr;obtain⟨d,hd,hn⟩:=hf.one;obtain⟨ds,hds,hreps⟩:=zao has hcs;have hds':vals E as0=some ds:=hds;simp only[denX]at hd;split at hd
   ·rename_i m ds' hm hds2;rw[hds']at hds2;injection hds2 with hds2;subst hds2;split at hd
    ·rename_i hm0;rw[z2z hm]at hdi;injection hdi with hdi;subst hdi;have hey:=(z3n hri).1;obtain⟨u,hu,hru⟩:=hreps.get hd;exact zr (hexec u _ _ _ hus hey (zsr ht harr hul hm0 hu _)) (h.goes o ⟨d,hn,hru⟩)
    ·cases hd
   ·cases hd
 |.one _,_,hr=>cases hr
 |.tup _,_,hr=>cases hr
theorem z0f3(h:Sim w0 F0 E τ ω a W ρ)(ho:o.op=.call c)(hcl:c.callee=.builtin .min)(hr:(zt cx kb n nt kn o).run τ ω=some e)(hf:Facts sp E n e):o.wp P a W (z2h w0 F0 E τ ω e.ws) Q:=by
 unfold zt at hr;rw[ho]at hr;simp only[ze5,hcl]at hr;split at hr
 ·rename_i x y t t' hx htt;simp only[run_bind,run_pure,zY01,zY00]at hr;obtain⟨xa,h1,ya,h2,rfl⟩:=hr;obtain⟨dx,hdx,hrx⟩:=z36 h h1;obtain⟨dy,hdy,hry⟩:=z36 h h2;obtain⟨d,hd,hn⟩:=hf.one;simp only[denX,hdx,hdy]at hd;split at hd
  ·rename_i k i k' j e1 e2;injection e1 with e1;subst e1;injection e2 with e2;subst e2;split at hd
   ·rename_i hk;subst hk;injection hd with hd;subst hd;obtain⟨g1,w1⟩:=z3n hrx;obtain⟨g2,w2⟩:=z3n hry;have e1:c.args=#[x,y]:=by rw[<- zY1r (xs:=c.args),hx]
    have e2:c.argTypes=#[t,t']:=by rw[<- zY1r (xs:=c.argTypes),htt]
    refine zr (v:=.int k (if j<i then j else i)) (W':=W) ?_ (h.goes o ⟨_,hn,.i _ _ (by split<;>assumption)⟩);unfold execOp;simp only[ho,resolve,hcl,e1,e2,invoke,builtin,Sem.run_bind,Sem.run_pure,Result.andThen_ok,zY3f,zY1n,zY2o,g1,g2,run_min_int2]
   ·cases hd
  ·cases hd
 ·cases hr
theorem z039(hu:P.underlying t=some (.slice et)){ie:TypeInfo}(hie:P.info? et=some ie){A:Option Addr}{c:Nat}(hmc:m<=c){lo:Option Value}{l hh mx:Int}{k1 k2:IntKind}(hlo:(lo=none/\l=0)\/∃k,lo=some (.int k l))(h0:0<=l)(h1:l<=hh)(h2:hh<=mx)(h3:mx<=m) :
  (Instr.sliceAt t (.slice A m c) lo (some (.int k1 hh)) (some (.int k2 mx))).run P W=.ok (.slice (if mx.toNat=l.toNat then A else A.map (·.add (l.toNat*ie.size))) (hh.toNat-l.toNat) (mx.toNat-l.toNat)) W:=by
 have e1:(Instr.sliceBounds true m c lo (some (.int k1 hh)) (some (.int k2 mx))).run P W=.ok (l.toNat,hh.toNat,mx.toNat) W:=by
  unfold Instr.sliceBounds;rcases hlo with⟨rfl,rfl⟩|⟨k,rfl⟩
  ·simp[z3j (P:=P) (W:=W) (i:=mx) (y:=c) zX0 zX0,z3j (P:=P) (W:=W) (i:=hh) (y:=mx.toNat) zX0 zX0]
  ·simp[z3j (P:=P) (W:=W) (i:=mx) (y:=c) zX0 zX0,z3j (P:=P) (W:=W) (i:=hh) (y:=mx.toNat) zX0 zX0,z3j (P:=P) (W:=W) (i:=l) (y:=hh.toNat) zX0 zX0]
 simp[Instr.sliceAt,Instr.slice,run_underlying hu,e1,sizeOf,typeInfo,hie]
theorem z09k{W:World}{xs:List (List Dt)}{A:Option Addr}{c:Nat}(h:Rep W F (.l sz xs) (.slice A m c)){l hh mx:Nat}(h1:l<=hh)(h2:hh<=mx)(h3:mx<=xs.length) :
  Rep W F (.l sz ((xs.take hh).drop l)) (.slice (if mx=l then A else A.map (·.add (l*sz))) (hh-l) (mx-l)):=by
 by_cases hml:mx=l
 ·have he:(xs.take hh).drop l=[]:=zY0c (by rw[zY0w,zY0d];omega);rw[he,zP hml,show hh-l=0 by omega,show mx-l=0 by omega];exact .l sz [] _ 0 0 0 0 (λ_ _=>undef) rfl zX4 zX0 zX4 zX4 zX4 zX4
 ·have hk:=z01p h (l:=l) (hh:=hh) h1 zX0;rw[zN hml];cases h with
  |l _ _ _ _ _ b q vs g0 g1 g2 g3 g4 g5 g6 =>
   rw[zN (show ¬c=l by omega)]at hk;generalize hA:A.map (·.add (l*sz))=B at hk⊢;generalize hX:(xs.take hh).drop l=X at hk⊢;have hXl:X.length<=mx-l:=by rw[<- hX,zY0w,zY0d];omega
   cases hk with
   |l _ _ _ _ _ b' q' vs' f0 f1 f2 f3 f4 f5 f6=>exact .l sz X B _ _ b' q' vs' f0 hXl zX0 f3 f4 f5 f6
theorem z05q{x m:Operand}{lo hi:Option Operand}(h:Sim w0 F0 E τ ω a W ρ)(ho:o.op=.slice t x lo hi (some m))(hr:(zt cx kb n nt kn o).run τ ω=some e)(hf:Facts sp E n e)(hty:∀t i,cx.ti t=some i->TyOk P t i):o.wp P a W (z2h w0 F0 E τ ω e.ws) Q:=by
 unfold zt at hr;rw[ho]at hr;simp only[zvi,run_bind,z0l,run_ite,zY01]at hr;obtain⟨ti,hti,⟨et,sz,by_⟩,hel,l,hl,hh,hhh,hr⟩:=hr;have ht:=hty t ti hti;obtain⟨hu,ie,z,hie,_,hsz,_⟩:=ht.el _ _ _ hel;split at hr
 ·cases hr
 rename_i hsome;simp only[run_bind,run_pure,zY01,zY00]at hr;obtain⟨ma,hma,c,hc,⟨xa,ws⟩,hfr,rfl⟩:=hr;obtain⟨g1,g2,d0,g3,g4⟩:=zol (FrzRel.refl ω) h hfr (z35 h hc);obtain⟨d,hd,hn⟩:=hf.1 0 _ rfl;obtain⟨d',hd',_⟩:=hf.1 1 _ rfl;rcases z05m h hhh with⟨_,rfl⟩|⟨y',r',rfl,rfl,hq⟩
 ·simp at hsome
 simp only[denX,g3]at hd hd'
 match d0,g4 with
 |.l z0 xs,g4 =>
  simp only[zY0a,zY01]at hd hd';obtain⟨lv,hlv,hv,hhv,hd⟩:=hd;obtain⟨lv',hlv',mv,hmv,hd'⟩:=hd';split at hd
  ·rename_i hcond;obtain⟨rfl,c0,c1,c2⟩:=hcond;split at hd'
   ·rename_i hcond';obtain⟨_,_,c3,c4⟩:=hcond';injection hd with hd;subst hd;have hhl:hv=lv':=by have h1:bndI E (xs.length:Int) (some r')=some hv:=hhv;have h2:bndI E 0 (some r')=some lv':=hlv';simp only[bndI]at h1 h2;rw[h1]at h2;injection h2
    subst hhl;obtain⟨dm,hdm,hrm⟩:=z36 h hma;have hme:a.eval m=.int .i64 mv:=by have h1:asI (ma.val E)=some mv:=hmv;rw[z2z h1]at hdm;injection hdm with hdm;subst hdm;exact(z3n hrm).1
    have hye:a.eval y' = .int .i64 hv:=hq _ hhv;generalize hgx:a.eval x=vx at g4;have g4':=g4;cases g4' with
    |l _ _ A len cp b q vs k0 k1 k2 k3 k4 k5 k6 =>
     have hrun:=z039 (P:=P) (W:=W) hu hie (A:=A) (m:=len) (c:=cp) (k1:=.i64) (k2:=.i64) zX0 (zvt h hl hlv) c0 c1 c3 zX0;have hrep:=z09k g4 (l:=lv.toNat) (hh:=hv.toNat) (mx:=mv.toNat) zX0 zX0 zX0;rw[hsz]at hrun;refine zr (v:=.slice (if mv.toNat=lv.toNat then A else A.map (·.add (lv.toNat*z0))) (hv.toNat-lv.toNat) (mv.toNat-lv.toNat)) (W':=W) ?_ ⟨ρ,?_⟩
     ·unfold execOp;simp only[ho,zY1i,hye,hme,hgx,Sem.run_bind,hrun,Result.andThen_ok,Sem.run_pure]
     ·simp only[z1f,g1];exact g2.sim.dst o (sv:=.one (.at (.v n))) ⟨_,hn,hrep⟩
   ·cases hd'
  ·cases hd
 |.s xs,g4=>cases hd
 |.i k m,g4=>cases hd
 |.b z,g4=>cases hd
 |.e z,g4=>cases hd
theorem z0ci{x y:Operand}(h:Sim w0 F0 E τ ω a W ρ)(ho:o.op=.makeSlice t x y)(hr:(zt cx kb n nt kn o).run τ ω=some e)(hf:Facts sp E n e)(hty:∀t i,cx.ti t=some i->TyOk P t i):o.wp P a W (z2h w0 F0 E τ ω e.ws) Q:=by
 unfold zt at hr;rw[ho]at hr;simp only[z05c,run_bind,z0l,run_ite,zY01]at hr;obtain⟨ti,hti,⟨et,sz,by_⟩,hel,te,hte,xa,hxa,ya,hya,hr⟩:=hr;simp only at hr;split at hr
 ·cases hr
 rename_i hnot;simp only[not_or,ne_eq,zY0u]at hnot;obtain⟨rfl,hzn⟩:=hnot;simp only[run_bind,run_pure,zY01,zY00]at hr;obtain⟨k,hk,rfl⟩:=hr;have ht:=hty t ti hti;have hte':=hty et te hte;obtain⟨hu,ie,z,hie,hz,hsz,hby,hzs,hpos,hsz2,hby2⟩:=ht.el _ _ _ hel;obtain⟨it2,z2,hi2,hz2,hzl⟩:=hte'.zero hzn;rw[hie]at hi2;injection hi2 with hi2;subst hi2;rw[hz]at hz2;injection hz2 with hz2;subst hz2;obtain⟨hd,hk⟩:=z70 hk;obtain⟨d,hd0,hn⟩:=hf.one;simp only[denX]at hd0;split at hd0
 ·rename_i m hm;split at hd0
  ·rename_i hcond;obtain⟨m0,m1,hzsz⟩:=hcond;injection hd0 with hd0;subst hd0;have hev:∀y:Operand,(evA cx 3 y).run τ ω=some xa->a.eval y=.int .i64 m:=by intro y hy;obtain⟨dd,hdd,hrr⟩:=z36 h hy;rw[z2z hm]at hdd;injection hdd with hdd;subst hdd;exact(z3n hrr).1
   have hb1:ie.bytes*m.toNat<=281474976710656:=by have:=Nat.mul_le_mul (show ie.bytes<=10000 by omega) (show m.toNat<=100000 by omega);omega
   have hb2:m.toNat<=maxLen:=by unfold maxLen;omega
   obtain⟨W',hrun,hown,hgr⟩:=run_make_full (P:=P) W w0.heap.size t et ie z sz hu hie hz hsz .i64 .i64 m.toNat hb1 hb2 h.bsz;have hm':((m.toNat:Nat):Int)=m:=Int.toNat_of_nonneg m0;rw[hm']at hrun;have hexec:(execOp a.eval o).run P W=.ok (.value (.slice (some ⟨W.heap.size,0,none⟩) m.toNat m.toNat)) W':=by unfold execOp;simp only[ho,hev _ hxa,hev _ hya,Sem.run_bind,hrun,Result.andThen_ok,Sem.run_pure]
   have hlt:=(zY02.1 hk).1;have hbel:Below W.heap.size W W':=⟨hgr.os,hgr.tape,hgr.output,hgr.size,λb hb=>hgr.block b hb zX4⟩
   have hnew:=h.new (W':=W') hk hbel (.row et sz (.v n)) (.slice (some ⟨W.heap.size,0,none⟩) m.toNat m.toNat) (λb hb=>by simp only[own,Value.ownBlock,zY00]at hb;omega) (λhle=>?_)
   ·refine zr hexec ⟨upd ρ k (.slice (some ⟨W.heap.size,0,none⟩) m.toNat m.toNat),?_⟩;exact hnew.dst o (sv:=.one (.row k)) ⟨⟨_,zY0f hlt⟩,(z1g _ _ _).symm,rfl⟩
   ·have hzlen:z.cells.size=sz:=hzs;have hlits:=z6z hzl (ctx w0 F0 E ω ρ W);refine⟨List.replicate m.toNat (te.z.map Lit.dt),(madeCells z.cells (m.toNat*sz)).toList,hn,λx hx=>?_,?_,?_⟩
    ·obtain⟨_,rfl⟩:=List.mem_replicate.1 hx;rw[zY0y,hzsz]
    ·rw[show(ctx w0 F0 E (ω.set k (some (.row et sz (.v n)))) (upd ρ k (.slice (some ⟨W.heap.size,0,none⟩) m.toNat m.toNat)) W').ρ k=.slice (some ⟨W.heap.size,0,none⟩) m.toNat m.toNat from z1g _ _ _,zY25];exact hown
    ·have hrl:∀x∈List.replicate m.toNat (te.z.map Lit.dt),x.length=sz:=λx hx=>by obtain⟨_,rfl⟩:=List.mem_replicate.1 hx;rw[zY0y,hzsz]
     have hfl:(List.replicate m.toNat (te.z.map Lit.dt)).flatten.length=m.toNat*sz:=by
      have key:∀(n:Nat) (l:List Dt),(List.replicate n l).flatten.length=n*l.length:=by
       intro n l;induction n with
       |zero=>simp
       |succ n ih=>rw[List.replicate_succ,zY1q,zY04,ih,zY21];omega
      rw[key,zY0y,hzsz]
     refine Reps.of (by rw[hfl,zY2h,size_madeCells]) λj dd v hdd hv=>?_;have hj:j<m.toNat*sz:=by rw[<- hfl];exact(zY02.1 hdd).1
     have hmod:j%sz<sz:=Nat.mod_lt _ hpos;have hdiv:j/sz<m.toNat:=(Nat.div_lt_iff_lt_mul hpos).2 hj;have hc:(te.z.map λl=>(C1.at (.c l)))[j%sz]?=some (.at (.c (te.z[j%sz]' zX0))):=by rw[zY0m,zY03 zX0];rfl
     obtain⟨u,hu1,hu2⟩:=hlits.get hc;obtain⟨d2,hd2,hr2⟩:=C1R.at_ hu2;injection hd2 with hd2;subst hd2;have hx1:(List.replicate m.toNat (te.z.map Lit.dt))[j/sz]?=some (te.z.map Lit.dt):=by rw[zY32,zP hdiv]
     have hx2:(te.z.map Lit.dt)[j%sz]?=some (te.z[j%sz]' zX0).dt:=by rw[zY0m,zY03 zX0];rfl
     have hx3:=zhd hrl hx1 hx2;rw[Nat.mul_comm,Nat.div_add_mod]at hx3;rw[hx3]at hdd;injection hdd with hdd;subst hdd;have hv':v=u:=by
      have hg:(madeCells z.cells (m.toNat*sz)).toList[j]?=some (z.cells[j%z.cells.size]!):=by unfold madeCells;simp[hj]
      rw[hg]at hv;injection hv with hv;rw[<- hv,hzlen];have:z.cells[j%sz]?=some u:=by rw[<- zY1t];exact hu1
      simp[getElem!_def,this]
     rw[hv'];exact hr2.mono hle.agree hle.more
  ·cases hd0
 ·cases hd0
theorem zjg{W:World}{F:Nat->Prop}{vs:Nat}{g:Bool}(n:Int):∀ {rows:List (List Dt)} {es:List MapEntry} (i:Nat),MapR W F vs g rows es ->
  (z78 n rows=none/\Instr.findNow (.int .i64) (.int .i64 n) es i=some none/\∀v,zaj n v rows=rows++[.i .i64 n::v]) \/
  ∃(j:Nat) (ds:List Dt) (us:List Value) (e:MapEntry),z78 n rows=some ds/\Instr.findNow (.int .i64) (.int .i64 n) es i=some (some (i+j,e.val))/\es[j]?=some e/\e.key=.int .i64 n/\ds.length=vs/\(if g then e.val=.agg us.toArray else us=[e.val])/\Reps W F ds us/\∀v,zaj n v rows=rows.set j (.i .i64 n::v)
 | [],[],i,_=>.inl ⟨rfl,rfl,λv=>rfl⟩
 |r::rows,e::es,i,⟨⟨m,ds,us,h1,h2,h3,h4,h5,h6⟩,h⟩=>by
  subst h1;have hs:Instr.sameNow (.int .i64) (.int .i64 n) e.key=some (n==m):=by rw[h4];simp[Instr.sameNow]
  by_cases hnm:n=m
  ·subst hnm;refine .inr ⟨0,ds,us,e,by simp[z78],?_,rfl,h4,h3,h5,h6,λv=>by simp[zaj]⟩;rw[Instr.findNow,hs];simp
  ·have hb:(n==m)=false:=by simpa using hnm
   rcases zjg n (i+1) h with⟨k1,k2,k3⟩|⟨j,ds',us',e',k1,k2,k3,k4,k5,k6,k7,k8⟩
   ·refine .inl ⟨by simp[z78,hnm,k1],?_,λv=>by simp[zaj,hnm,k3]⟩;rw[Instr.findNow,hs,hb];exact k2
   ·refine .inr ⟨j+1,ds',us',e',by simp[z78,hnm,k1],?_,by simpa using k3,k4,k5,k6,k7,λv=>by simp[zaj,hnm,k8]⟩;rw[Instr.findNow,hs,hb,show i+(j+1)=i+1+j by omega];exact k2
theorem MapR.push{W:World}{F:Nat->Prop}{vs:Nat}{g:Bool}{r:List Dt}{e:MapEntry}:∀ {rows:List (List Dt)} {es:List MapEntry},MapR W F vs g rows es->MapR W F vs g [r] [e]->MapR W F vs g (rows++[r]) (es++[e])
 | [],[],_,h=>h
 |_::_,_::_,⟨h1,h2⟩,h=>⟨h1,MapR.push h2 h⟩
theorem MapR.put{W:World}{F:Nat->Prop}{vs:Nat}{g:Bool}{r:List Dt}{e:MapEntry}:∀ {rows:List (List Dt)} {es:List MapEntry} (j:Nat),MapR W F vs g rows es->MapR W F vs g [r] [e]->MapR W F vs g (rows.set j r) (es.set j e)
 | [],[],_,_,_=>trivial
 |_::_,_::_,0,⟨_,h2⟩,h=>⟨h.1,h2⟩
 |_::_,_::_,j+1,⟨h1,h2⟩,h=>⟨h1,MapR.put j h2 h⟩
theorem z03a{r:Option Operand}(h:Sim w0 F0 E τ ω a W ρ)(ho:o.op=.makeMap t r)(hr:(zt cx kb n nt kn o).run τ ω=some e)(hty:∀t i,cx.ti t=some i->TyOk P t i):o.wp P a W (z2h w0 F0 E τ ω e.ws) Q:=by
 unfold zt at hr;rw[ho]at hr;simp only[zsg,run_bind,z0l,zY01]at hr;obtain⟨ti,hti,⟨kt,et⟩,hmp,te,hte,k,hk,hr⟩:=hr;simp only[run_ite]at hr;split at hr
 ·cases hr
 rename_i hres;simp only[run_pure,zY00]at hr;subst hr;obtain⟨hu,_⟩:=(hty t ti hti).mp _ _ hmp;obtain⟨hd,hk⟩:=z70 hk;have hlt:=(zY02.1 hk).1;have hexec:(execOp a.eval o).run P W=.ok (.value (.map (some W.heap.size))) (W.alloc (.map #[] 0)):=by
  have hm:(Instr.makeMap t (r.map a.eval)).run P W=.ok (.map (some W.heap.size)) (W.alloc (.map #[] 0)):=by
   unfold z0bx at hres;split at hres
   ·simp[Instr.makeMap,newObj];rfl
   ·simp[Instr.makeMap,Act.eval,run_underlying hu,asInt,asIntOf,newObj];rfl
   ·exact absurd rfl hres
  unfold execOp;simp only[ho,Sem.run_bind,hm,Result.andThen_ok,Sem.run_pure]
 have hnew:=h.new (W':=W.alloc (.map #[] 0)) hk ((Below.refl _ _).alloc (zY0k _) _) (.map t te.n te.agg (.c (.nil (1+te.n)))) (.map (some W.heap.size)) (λb hb=>by simp only[own,zY00]at hb;omega) (λhle=>⟨W.heap.size,[],[],0,z1g _ _ _,h.bsz,heap_alloc_new W _,rfl,trivial⟩)
 refine zr hexec ⟨upd ρ k (.map (some W.heap.size)),?_⟩;exact hnew.dst o (sv:=.one (.row k)) ⟨⟨_,zY0f hlt⟩,(z1g _ _ _).symm,rfl⟩
theorem z05r{x y:Operand}{ok:Bool}(h:Sim w0 F0 E τ ω a W ρ)(ho:o.op=.lookup t x y ok)(hr:(zt cx kb n nt kn o).run τ ω=some e)(hf:Facts sp E n e)(hty:∀t i,cx.ti t=some i->TyOk P t i):o.wp P a W (z2h w0 F0 E τ ω e.ws) Q:=by
 unfold zt at hr;rw[ho]at hr;simp only[z05d,run_bind,z0l,zY01]at hr;obtain⟨ti,hti,⟨kt,et⟩,hmp,te,hte,c,hc,hr⟩:=hr;obtain⟨hu,hku⟩:=(hty t ti hti).mp _ _ hmp;have hte':=hty et te hte;have hcr:=z35 h hc;split at hr
 ·rename_i q;simp only[run_bind,z2y,zY01]at hr;obtain⟨ob,hob,hr⟩:=hr;split at hr
  ·rename_i t' vs g ma;simp only[run_ite]at hr;split at hr
   ·cases hr
   rename_i hnot;simp only[not_or,ne_eq,zY0u]at hnot;obtain⟨rfl,rfl,rfl,hzn,hpos0⟩:=hnot;simp only[run_bind,zY01]at hr;obtain⟨ka,hka,hr⟩:=hr;obtain⟨_,hv,_⟩:=hcr;simp only[ctx]at hv;obtain⟨b,rows,es,clock,o1,o2,o3,o4,o5⟩:=h.objs q _ hob;simp only[ctx]at o1 o3 o4 o5;obtain⟨dk,hdk,hrk⟩:=z36 h hka;obtain⟨it,z,hi,hz,hzl⟩:=hte'.zero hzn;have hzv:=hte'.zv it z hi hz hzn;have key:∀m,asI (ka.val E)=some m->∃(us:List Value) (ds:List Dt) (val:Value) (found:Bool),z78 m rows=(if found then some ds else none)/\(found=false->ds=te.z.map Lit.dt)/\us.length=te.n/\(if te.agg then val=.agg us.toArray else us=[val])/\Reps W (Frr w0 F0 ω ρ W) ds us/\(Instr.lookup t' (a.eval x) (a.eval y) ok).run P W=.ok (if ok then .tuple #[val,.bool found]else val) W:=by
    intro m hm;rw[z2z hm]at hdk;injection hdk with hdk;subst hdk;obtain⟨hey,_⟩:=z3n hrk;have hck:∀em,(Instr.checkKey em 10000 kt (.int .i64 m)).run P W=.ok () W:=λem=>Go.MapKept.run_checkKey (d:=.int .i64) (k:=.int .i64 m) hku (by simp[Go.MapKept.IsKey]) em 9999;rcases zjg m 0 o5 with⟨k1,k2,_⟩|⟨j,ds,us,e0,k1,k2,k3,k4,k5,k6,k7,_⟩
    ·refine⟨z.cells.toList,te.z.map Lit.dt,z,false,by simp[k1],λ_=>rfl,?_,?_,?_,?_⟩
     ·have:=(z6z hzl (ctx w0 F0 E ω ρ W)).len;simp only[zY0y]at this;omega
     ·split at hzv
      ·rename_i hag;obtain⟨cs,rfl⟩:=hzv;simp[hag,Value.cells]
      ·rename_i hag;rw[zan hzv];simp[hag]
     ·refine Reps.of (by have:=(z6z hzl (ctx w0 F0 E ω ρ W)).len;simp only[zY0y]at this⊢;omega) λi d v hd hv=>?_;rw[zY0m,zY0t]at hd;obtain⟨l0,hl0,rfl⟩:=hd;obtain⟨u,hu1,hu2⟩:=(z6z hzl (ctx w0 F0 E ω ρ W)).get (j:=i) (x:=.at (.c l0)) (by rw[zY0m,hl0];rfl);rw[hv]at hu1;injection hu1 with hu1;subst hu1;obtain⟨d2,hd2,hr2⟩:=C1R.at_ hu2;injection hd2 with hd2;subst hd2;exact hr2
     ·rw[hv,o1,hey];simp[Instr.lookup,run_underlying hu,Go.MapKept.run_getObj_map o3,hck,Instr.findKey,run_underlying hku,k2,zeroValue,typeInfo,hi,hz]
    ·refine⟨us,ds,e0.val,true,by simp[k1],(λhf=>by cases hf),by rw[<- k7.len,k5],k6,k7,?_⟩;rw[hv,o1,hey];simp[Instr.lookup,run_underlying hu,Go.MapKept.run_getObj_map o3,hck,Instr.findKey,run_underlying hku,k2]
   have hexec:∀v,(Instr.lookup t' (a.eval x) (a.eval y) ok).run P W=.ok v W->(execOp a.eval o).run P W=.ok (.value v) W:=by intro v hv;unfold execOp;simp only[ho,Sem.run_bind,hv,Result.andThen_ok,Sem.run_pure]
   have gets:∀(m:Int) (us:List Value) (ds:List Dt) (found:Bool),asI (ka.val E)=some m->z78 m rows=(if found then some ds else none)->(found=false->ds=te.z.map Lit.dt)->us.length=te.n->Reps W (Frr w0 F0 ω ρ W) ds us->(∀j,j<te.n->∃d,denX sp E (.mget te.z ma ka j)=some d/\E[n+j]?=some d)->C1Rs (ctx w0 F0 E ω ρ W) (z4c n te.n) us:=by
    intro m us ds found hm hfd hz0 hl hrs hfs;refine za8 hl λj u hu=>?_;have hj:=(zY02.1 hu).1;obtain⟨d,hd,hE⟩:=hfs j zX0;simp only[denX,o4,hm,hfd]at hd;have hdj:ds[j]?=some d:=by
     cases found with
     |true=>exact hd
     |false =>rw[hz0 rfl,zY0m];exact hd
    obtain⟨u',hu',hr'⟩:=hrs.get hdj;rw[hu]at hu';injection hu' with hu';subst hu';exact⟨d,hE,hr'⟩
   split at hr
   ·rename_i hok;subst hok;simp only[run_pure,zY00]at hr;subst hr;obtain⟨db,hdb,hEb⟩:=hf.1 te.n (.mhas ma ka) zX4;simp only[denX,o4]at hdb;split at hdb
    ·rename_i rows' m hrows hm;injection hrows with hrows;injection hrows with _ hrows;subst hrows;injection hdb with hdb;subst hdb;obtain⟨us,ds,val,found,q1,q2,q3,q4,q5,q6⟩:=key m hm;have hcs:=gets m us ds found hm q1 q2 q3 q5 λj hj=>hf.1 j _ (by rw[zY0l zX14];simp[hj]);have hfo:(z78 m rows).isSome=found:=by rw[q1];cases found<;>rfl
     refine zr (hexec _ q6) (h.goes o ⟨[val,.bool found],rfl,?_,?_,trivial⟩)
     ·unfold PR;cases hg:te.agg with
      |true=>rw[hg]at q4;simp only[if_true]at q4⊢;exact⟨us,q4,hcs⟩
      |false =>
       rw[hg]at q4;simp only[zY0x,if_false]at q4⊢;subst q4;have:te.n=1:=by simpa using q3.symm
       rw[this]at hcs⊢;exact⟨_,rfl,hcs.1⟩
     ·exact⟨_,rfl,_,hEb,by rw[hfo];exact .b _⟩
    ·cases hdb
   ·rename_i hok;simp only[zY2j]at hok;subst hok;simp only[run_bind,run_pure,zY01,zY00]at hr;obtain⟨sv,hsv,rfl⟩:=hr;have hm:∃m,asI (ka.val E)=some m:=by
     have hpos:0<te.n:=by omega
     obtain⟨d,hd,_⟩:=hf.1 0 (.mget te.z ma ka 0) (by simp[hpos]);simp only[denX,o4]at hd;split at hd
     ·rename_i hm;exact⟨_,hm⟩
     ·cases hd
    obtain⟨m,hm⟩:=hm;obtain⟨us,ds,val,found,q1,q2,q3,q4,q5,q6⟩:=key m hm;have hcs:=gets m us ds found hm q1 q2 q3 q5 λj hj=>hf.1 j _ (by simp[hj]);refine zr (hexec _ q6) (h.goes o (zgh hsv ?_));unfold PR;cases hg:te.agg with
    |true=>rw[hg]at q4;simp only[if_true]at q4⊢;exact⟨us,q4,hcs⟩
    |false =>
     rw[hg]at q4;simp only[zY0x,if_false]at q4⊢;subst q4;have:te.n=1:=by simpa using q3.symm
     rw[this]at hcs⊢;exact⟨_,rfl,hcs.1⟩
  ·cases hr
 ·cases hr
theorem zss{x y z:Operand}(h:Sim w0 F0 E τ ω a W ρ)(ho:o.op=.insert t x y z\/o.op=.mapUpdate t x y z)(hr:(zt cx kb n nt kn o).run τ ω=some e)(hf:Facts sp E n e)(hty:∀t i,cx.ti t=some i->TyOk P t i):o.wp P a W (z2h w0 F0 E τ ω e.ws) Q:=by
 have hr':(zmx cx n o t x y z).run τ ω=some e:=by unfold zt at hr;rcases ho with ho|ho<;>(rw[ho]at hr;exact hr)
 have hexec:∀W',(Instr.mapUpdate t (a.eval x) (a.eval y) (a.eval z)).run P W=.ok () W'->(execOp a.eval o).run P W=.ok .skip W':=by intro W' hv;unfold execOp;rcases ho with ho|ho<;>simp only[ho,Sem.run_bind,hv,Result.andThen_ok,Sem.run_pure]
 clear hr ho;simp only[zmx,run_bind,z0l,zY01]at hr';obtain⟨ti,hti,⟨kt,et⟩,hmp,te,hte,c,hc,hr⟩:=hr';obtain⟨hu,hku⟩:=(hty t ti hti).mp _ _ hmp;have hcr:=z35 h hc;split at hr
 ·rename_i q;simp only[run_bind,z2y,zY01]at hr;obtain⟨ob,hob,hr⟩:=hr;split at hr
  ·rename_i t' vs g ma;simp only[run_ite]at hr;split at hr
   ·cases hr
   rename_i htt;simp only[ne_eq,zY0u]at htt;subst htt;simp only[run_bind,z0l,zY01]at hr;obtain⟨ka,hka,sv,hsv,cs,hcs,hr⟩:=hr;simp only[run_ite]at hr;split at hr
   ·cases hr
   rename_i hnot;simp only[z0by,zY2v,zY0e,decide_eq_true_eq]at hnot;obtain⟨⟨⟨⟨hcl,rfl⟩,rfl⟩,hag⟩,hokc⟩:=hnot;simp only[run_bind,zY01]at hr;obtain⟨⟨ats,ws⟩,hfr,hr⟩:=hr;simp only[run_ite]at hr;split at hr
   ·cases hr
   rename_i hws;simp only[run_pure,zY00]at hr;subst hr;obtain⟨_,hv,_⟩:=hcr;simp only[ctx]at hv;obtain⟨us,hus,hcr⟩:=zdh hcs (z5h h hsv);obtain⟨g1,g2,ds,g3,g4⟩:=zbu (FrzRel.refl ω) h hfr hcr;have hob2:(wr τ ω ws).2[q]?=some (some (.map t' te.n te.agg ma)):=by
    rcases g2.rel.2 q with h1|⟨e',sz,x',h1,_⟩
    ·rw[h1];exact hob
    ·rw[hob]at h1;cases h1
   obtain⟨b,rows,es,clock,o1,o2,o3,o4,o5⟩:=g2.sim.objs q _ hob2;simp only[ctx]at o1 o3 o4 o5;obtain⟨dk,hdk,hrk⟩:=z36 h hka;obtain⟨d,hd,hn⟩:=hf.one;simp only[denX,o4,g3]at hd;split at hd
   ·rename_i z' rows' m ds' hrows hm hds;injection hrows with hrows;injection hrows with _ hrows;subst hrows;injection hds with hds;subst hds;split at hd
    ·rename_i hcond;injection hd with hd;subst hd;rw[z2z hm]at hdk;injection hdk with hdk;subst hdk;obtain⟨hey,hwm⟩:=z3n hrk;have hck:(Instr.checkKey false 10000 kt (.int .i64 m)).run P W=.ok () W:=Go.MapKept.run_checkKey (d:=.int .i64) (k:=.int .i64 m) hku (by simp[Go.MapKept.IsKey]) false 9999;have hval:if te.agg then a.eval z=.agg us.toArray else us=[a.eval z]:=by
      rcases hus with hus|hus
      ·cases sv with
       |agg c0 =>simp only[z02t]at hag;rw[zP hag.symm];exact hus
       |one c0 =>
        exfalso;simp only[z8u,zY00]at hcs;subst hcs;obtain⟨hc1,_⟩:=(show okC c0=true/\True from by simpa using hokc)
        have hone:=C1R.one (z5h h hsv) hc1;rw[hus]at hone;cases hone
       |tup ps=>cases hcs
      ·cases sv with
       |one c0 =>simp only[z02t]at hag;rw[zN (by rw[<- hag];decide)];exact hus
       |agg c0 =>obtain⟨us2,hus2,hc2⟩:=z5h h hsv;simp only[z8u,zY00]at hcs;subst hcs;exfalso;have h1:=hcr.one (by simpa using hokc) (a.eval z) (by rw[hus];simp);rw[hus2]at h1;cases h1
       |tup ps=>cases hcs
     have hent:∀bo,MapR W (Frr w0 F0 (wr τ ω ws).2 ρ W) te.n te.agg [.i .i64 m::ds] [⟨.int .i64 m,a.eval z,bo⟩]:=λbo=>⟨⟨m,ds,us,rfl,hwm,hcond.1,rfl,hval,g4⟩,trivial⟩
     have hkt:(Instr.keyThatStays (.int .i64 m) (.int .i64 m)).run P W=.ok (.int .i64 m) W:=by simp[Instr.keyThatStays,Instr.sameBits]
     obtain⟨es',clock',hrun,hmr⟩:∃(es':List MapEntry) (clock':Nat),(Instr.mapUpdate t' (a.eval x) (a.eval y) (a.eval z)).run P W=.ok () { W with heap:=W.heap.setIfInBounds b (.map es'.toArray clock') }/\MapR W (Frr w0 F0 (wr τ ω ws).2 ρ W) te.n te.agg (zaj m ds rows) es':=by
      rcases zjg m 0 o5 with⟨k1,k2,k3⟩|⟨j,ds0,us0,e0,k1,k2,k3,k4,k5,k6,k7,k8⟩
      ·refine⟨es++[⟨.int .i64 m,a.eval z,clock⟩],clock+1,?_,by rw[k3];exact o5.push (hent clock)⟩;rw[hv,o1,hey];simp[Instr.mapUpdate,run_underlying hu,Go.MapKept.run_getObj_map o3,hck,Instr.findKey,run_underlying hku,k2,Go.MapKept.run_setObj_map _ o3]
      ·refine⟨es.set j ⟨.int .i64 m,a.eval z,e0.born⟩,clock,?_,by rw[k8];exact o5.put j (hent _)⟩;have hmod:es.modify j (λe=>{ e with key:=Value.int .i64 m,val:=a.eval z })=es.set j ⟨.int .i64 m,a.eval z,e0.born⟩:=by
        apply zY2w;intro i;rw[List.getElem?_modify,zY2e];by_cases hij:j=i
        ·subst hij;have:=(zY02.1 k3).1;rw[k3];simp[this]
        ·cases es[i]?<;>simp[hij]
       rw[hv,o1,hey];simp only[zY0z]at k2;simp[Instr.mapUpdate,run_underlying hu,Go.MapKept.run_getObj_map o3,hck,Instr.findKey,run_underlying hku,k2,k3,k4,hkt,hmod,Go.MapKept.run_setObj_map _ o3]
     have hbl:b<W.heap.size:=by
      rcases zY1w b W.heap.size with h'|h'
      ·exact h'
      ·rw[zY18 h']at o3;cases o3
     have hfar:∀k,k≠b->({ W with heap:=W.heap.setIfInBounds b (.map es'.toArray clock') }:World).heap[k]?=W.heap[k]?:=λk hk=>by show(W.heap.setIfInBounds b _)[k]?=_;rw[Array.getElem?_setIfInBounds_ne (Ne.symm hk)]
     refine zhe (hexec _ hrun) ⟨ρ,?_⟩;have hsame:=g2.sim.sameBlock (W':={ W with heap:=W.heap.setIfInBounds b (.map es'.toArray clock') }) (o':=.map t' te.n te.agg (.v n)) hob2
      ⟨rfl,rfl,rfl,by simp,λk hk=>hfar k zX0⟩ (λk hk=>hfar k (λe=>hk (by rw[o1,e];rfl))) (λk hk=>by rw[o1]at hk⊢;exact hk)
      (λhle _=>⟨b,_,es',clock',o1,o2,by show(W.heap.setIfInBounds b _)[b]?=_;simp[hbl],hn,by rw[Nat.add_comm 1 te.n]at *;exact hmr.mono hle.agree hle.more⟩)
     simp only[z1f,g1];exact hsame.dst o (sv:=.one .und) rfl
    ·cases hd
   ·cases hd
  ·cases hr
 ·cases hr
end
section
variable {P:Program} {w0 W:World} {F0:Bk} {E E':Env} {τ τ':List SV} {ω ω':List (Option Ob)} {a:Act} {ρ:Nat->Value} {cx:Cx} {o:Oper} {e:Eff} {sp:Nat->zd} {n nt kb:Nat} {kn:List (Nat×Bool)} {Q:Exit->Act->World->Prop}
theorem z0bz(h:Sim w0 F0 E τ ω a W ρ)(hr:(zt cx kb n nt kn o).run τ ω=some e)(hf:Facts sp E n e)(hk:KnOk E kn)(hty:∀t i,cx.ti t=some i->TyOk P t i)(hsig:∀ci f s,cx.sigs[ci]?=some (f,s)->Meets P (sp ci) f s):o.wp P a W (z2h w0 F0 E τ ω e.ws) Q:=by
 cases ho:o.op with
 |move x=>exact z01l h (.inl ho) hr
 |assign x=>exact z01l h (.inr ho) hr
 |pick c x y=>exact z0cd h ho hr hf hk
 |alloc t=>exact z09b h ho hr hty
 |box t x=>exact z0ex h ho hr
 |load t x =>
  unfold zt at hr;rw[ho]at hr;simp only[run_ite]at hr;split at hr
  ·exact z09d h ho hr hty
  ·exact z0ce h ho hr hf hty
 |store t x y=>exact z09e h ho hr hf hty
 |fieldAddr t x f=>exact zvo h ho hr hty
 |indexAddr t x y=>exact zvs h ho hr hf hty
 |slice t x lo hi mx=>cases mx with
  |none=>exact z09f h ho hr hf hty
  |some m=>exact z05q h ho hr hf hty
 |index t x y=>exact z09j h ho hr hf hty
 |makeSlice t x y=>exact z0ci h ho hr hf hty
 |makeMap t r=>exact z03a h ho hr hty
 |lookup t x y ok=>exact z05r h ho hr hf hty
 |insert t x y z=>exact zss h (.inl ho) hr hf hty
 |mapUpdate t x y z=>exact zss h (.inr ho) hr hf hty
 |binOp op t x y t'=>exact z09a h ho hr hf hk hty
 |unOp op t x=>cases op with
  |not=>exact z0ev h ho hr hf hk
  |neg=>exact z0ew h ho hr hf
  |_=>unfold zt at hr;rw[ho]at hr;cases hr
 |convert src dst x=>exact z031 h ho hr hf hty
 |build t parts=>exact z09g h ho hr hty
 |buildSlice t len parts=>exact zuf h ho hr hf hty
 |makeFunc fn first captured=>cases fn with
  |func f=>exact zzd h ho hr
  |_=>unfold zt at hr;rw[ho]at hr;cases hr
 |extract x j=>exact z032 h ho hr
 |nilCheck x=>exact zzc h ho hr
 |call c=>cases hcl:c.callee with
  |value fx=>exact z0ch h ho hcl hr hf hsig
  |builtin b=>cases b with
   |len=>exact z0f0 h ho hcl hr hf hty
   |append=>exact z05n h ho hcl hr hf hty
   |min=>exact z0f3 h ho hcl hr hf
   |_=>unfold zt at hr;rw[ho]at hr;simp only[ze5,hcl]at hr;cases hr
  |_=>unfold zt at hr;rw[ho]at hr;simp only[ze5,hcl]at hr;cases hr
 |_=>unfold zt at hr;rw[ho]at hr;cases hr
def LocEq(τ τ':List SV)(ω ω':List (Option Ob)):Loc->Prop
 |.t i=>τ[i]?=τ'[i]?
 |.o i=>ω[i]?=ω'[i]?
theorem LocEq.refl(τ:List SV)(ω:List (Option Ob))(l:Loc):LocEq τ τ ω ω l:=by cases l<;>rfl
theorem LocEq.trans{τ1 τ2 τ3:List SV}{ω1 ω2 ω3:List (Option Ob)}{l:Loc}(h:LocEq τ1 τ2 ω1 ω2 l)(k:LocEq τ2 τ3 ω2 ω3 l):LocEq τ1 τ3 ω1 ω3 l:=by cases l<;>exact Eq.trans h k
theorem LocEq.symm{τ1 τ2:List SV}{ω1 ω2:List (Option Ob)}{l:Loc}(h:LocEq τ1 τ2 ω1 ω2 l):LocEq τ2 τ1 ω2 ω1 l:=by cases l<;>exact Eq.symm h
theorem zqw{α:Type}{x:α}:∀(m:Rd α),m.run τ ω=some x->(∀l∈m.log τ ω,LocEq τ τ' ω ω' l)->m.run τ' ω'=some x
 |.pure a,hr,_=>hr
 |.fail,hr,_=>hr
 |.t i k,hr,h=>by
  simp only[Rd.run,Rd.log]at h hr⊢;cases hx:τ[i]? with
  |none=>rw[hx]at hr;cases hr
  |some y =>rw[hx]at h hr;have h1:τ[i]?=τ'[i]?:=h (.t i) (zY0i ..);rw[<- h1,hx];exact zqw (k y) hr λl hl=>h l (zY0h _ hl)
 |.o i k,hr,h=>by
  simp only[Rd.run,Rd.log]at h hr⊢;cases hx:ω[i]? with
  |none=>rw[hx]at hr;cases hr
  |some y =>rw[hx]at h hr;have h1:ω[i]?=ω'[i]?:=h (.o i) (zY0i ..);rw[<- h1,hx];exact zqw (k y) hr λl hl=>h l (zY0h _ hl)
theorem zap{l:Loc}:∀(ws:List Wr) (τ:List SV) (ω:List (Option Ob)),(∀w∈ws,w.loc≠l)->LocEq (wr τ ω ws).1 τ (wr τ ω ws).2 ω l
 | [],τ,ω,_=>LocEq.refl _ _ _
 |.t i v::ws,τ,ω,h=>by
  rw[wr];refine(zap ws _ _ λw hw=>h w (zY0h _ hw)).trans ?_;have hne:=h _ (zY0i ..);cases l with
  |t j=>exact zY0j λe=>hne zX1n
  |o j=>rfl
 |.o i v::ws,τ,ω,h=>by
  rw[wr];refine(zap ws _ _ λw hw=>h w (zY0h _ hw)).trans ?_;have hne:=h _ (zY0i ..);cases l with
  |t j=>rfl
  |o j=>exact zY0j λe=>hne zX1n
theorem zst{l l':List α}{v:α}(h:l[j]?=l'[j]?):(l.set i v)[j]?=(l'.set i v)[j]?:=by
 by_cases e:i=j
 ·subst e;rw[zY2e,zY2e,zP rfl,zP rfl];by_cases h1:i<l.length
  ·have h2:i<l'.length:=by rw[zY03 h1]at h;exact(zY02.1 h.symm).1
   rw[zP h1,zP h2]
  ·have h2:¬i<l'.length:=λh2=>by rw[zY03 h2]at h;exact h1 (zY02.1 h).1
   rw[zN h1,zN h2]
 ·rw[zY0j e,zY0j e];exact h
theorem zec{l:Loc}:∀(ws:List Wr) {τ τ':List SV} {ω ω':List (Option Ob)},LocEq τ τ' ω ω' l->LocEq (wr τ ω ws).1 (wr τ' ω' ws).1 (wr τ ω ws).2 (wr τ' ω' ws).2 l
 | [],_,_,_,_,h=>h
 |.t i v::ws,_,_,_,_,h=>by
  rw[wr,wr];refine zec ws ?_;cases l with
  |t j=>exact zst h
  |o j=>exact h
 |.o i v::ws,_,_,_,_,h=>by
  rw[wr,wr];refine zec ws ?_;cases l with
  |t j=>exact h
  |o j=>exact zst h
theorem z05s{p q:List SV×List (Option Ob)}(h:∀l,LocEq p.1 q.1 p.2 q.2 l):p=q:=by obtain⟨τ,ω⟩:=p;obtain⟨τ',ω'⟩:=q;have h1:τ=τ':=zY2w λi=>h (.t i);have h2:ω=ω':=zY2w λi=>h (.o i);rw[h1,h2]
theorem z0cj(A B:List Wr)(h:∀x∈A,∀y∈B,x.loc≠y.loc)(τ:List SV)(ω:List (Option Ob)):wr (wr τ ω A).1 (wr τ ω A).2 B=wr (wr τ ω B).1 (wr τ ω B).2 A:=by
 refine z05s λl=>?_;by_cases hA:∀w∈A,w.loc≠l
 ·exact(zec B (zap A τ ω hA)).trans (zap A _ _ hA).symm
 ·have hB:∀w∈B,w.loc≠l:=by intro w hw e;apply hA;intro x hx e';exact h x hx w hw (e'.trans e.symm)
  exact(zap B _ _ hB).trans (zec A (zap B τ ω hB)).symm
def z9g(E:Env)(ops:List Oper)(τ:List SV)(o:Oper)(want:Bool):Prop:=match o.guard with
 |none=>want=true
 |some (j,w)=>∃d sv,(ops[j]?).bind (·.dst)=some d/\τ[d]?=some sv/\((sv=.one .und/\want=false)\/∃x b,sv=.one (.at x)/\x.val E=some (.b b)/\want=(b==w))
def z0c0(cx:Cx)(kb nt:Nat)(ops:List Oper)(sp:Nat->zd)(E:Env)(τ:List SV)(ω:List (Option Ob))(o:Oper)(r:Rec):Prop :=
 z9g E ops τ o r.want/\(r.want=true->∃kn,KnOk E kn/\(zt cx kb r.n nt kn o).run τ ω=some r.eff/\Facts sp E r.n r.eff)/\(r.want=false->r.eff.ws=z07 o (.one .und))
def RecLog(cx:Cx)(kb nt:Nat)(ops:List Oper)(sp:Nat->zd)(E:Env)(τ:List SV)(ω:List (Option Ob))(o:Oper)(r:Rec):Prop :=
 z9g E ops τ o r.want/\(∀l∈z8c ops o,l∈r.log)/\(r.want=true->KnOk E r.kn/\(zt cx kb r.n nt r.kn o).run τ ω=some r.eff/\Facts sp E r.n r.eff/\∀l∈(zt cx kb r.n nt r.kn o).log τ ω,l∈r.log)/\(r.want=false->r.eff.ws=z07 o (.one .und))
theorem RecLog.move(h:RecLog cx kb nt ops sp E τ ω o r)(hl:∀l∈r.log,LocEq τ τ' ω ω' l):z0c0 cx kb nt ops sp E τ' ω' o r:=by
 obtain⟨h1,h2,h3,h4⟩:=h;refine⟨?_,λhw=>?_,h4⟩
 ·unfold z9g at h1⊢;unfold z8c at h2;split at h1
  ·exact h1
  ·rename_i j w hg;obtain⟨d,sv,g1,g2,g3⟩:=h1;rw[hg]at h2;simp only[g1]at h2;have:=hl (.t d) (h2 _ zX4);exact⟨d,sv,g1,(show τ[d]?=τ'[d]? from this).symm.trans g2,g3⟩
 ·obtain⟨k1,k2,k3,k4⟩:=h3 hw;exact⟨r.kn,k1,zqw _ k2 λl h'=>hl l (k4 l h'),k3⟩
inductive Tr(cx:Cx)(kb nt:Nat)(ops:List Oper)(sp:Nat->zd)(E:Env):List Oper->List SV->List (Option Ob)->List Rec->Prop
 |nil {τ:List SV} {ω:List (Option Ob)}:Tr cx kb nt ops sp E [] τ ω []
 |cons {o:Oper} {os:List Oper} {r:Rec} {rs:List Rec} {τ:List SV} {ω:List (Option Ob)} (h:RecLog cx kb nt ops sp E τ ω o r) (t:Tr cx kb nt ops sp E os (wr τ ω r.eff.ws).1 (wr τ ω r.eff.ws).2 rs):Tr cx kb nt ops sp E (o::os) τ ω (r::rs)
def z0k(L:Nat->Bool):Nat->List Rec->List Wr
 |_,[]=>[]
 |i,r::rs=>(if L i then r.eff.ws else[])++z0k L (i+1) rs
theorem Tr.len{os:List Oper}{τ:List SV}{ω:List (Option Ob)}(h:Tr cx kb nt ops sp E os τ ω rs):rs.length=os.length:=by
 induction h with
 |nil=>rfl
 |cons h t ih=>simp[ih]
theorem Tr.at_{os:List Oper}{τ:List SV}{ω:List (Option Ob)}(h:Tr cx kb nt ops sp E os τ ω rs):∀(j0:Nat) {i:Nat} {o:Oper} {r:Rec},os[i]?=some o->rs[i]?=some r ->
  RecLog cx kb nt ops sp E (wr τ ω (z0k (λ_=>true) j0 (rs.take i))).1 (wr τ ω (z0k (λ_=>true) j0 (rs.take i))).2 o r:=by
 induction h with
 |nil=>intro j0 i o r ho hr;simp at ho
 |cons h t ih =>
  intro j0 i o r ho hr;cases i with
  |zero =>simp only[zY05,zY00]at ho hr;subst ho;subst hr;exact h
  |succ i =>have:=ih (j0+1) (i:=i) zX1g (by simpa using hr);simp only[zY35,z0k,if_true,z1f];exact this
theorem zw0{l:Loc}{L:Nat->Bool}:∀(rs:List Rec) (j0:Nat) (τ:List SV) (ω:List (Option Ob)),(∀(i:Nat) (r:Rec),rs[i]?=some r->L (j0+i)=false->∀w∈r.eff.ws,w.loc≠l) ->
  LocEq (wr τ ω (z0k (λ_=>true) j0 rs)).1 (wr τ ω (z0k L j0 rs)).1 (wr τ ω (z0k (λ_=>true) j0 rs)).2 (wr τ ω (z0k L j0 rs)).2 l
 | [],_,_,_,_=>LocEq.refl _ _ _
 |r::rs,j0,τ,ω,h=>by
  simp only[z0k,if_true,z1f];have ih:=λτ ω=>zw0 (l:=l) (L:=L) rs (j0+1) τ ω λi r hr hL=>h (i+1) r (by simpa using hr) (by rw[<- hL];congr 1;omega);cases hL:L j0 with
  |true=>simp only[if_true];exact ih _ _
  |false =>simp only[zY0x,if_false,wr];exact(ih _ _).trans (zec _ (zap _ _ _ (h 0 r rfl (by simpa using hL))))
theorem zhi{L:Nat->Bool}:∀ {rs:List Rec} {j0:Nat} {w:Wr},w∈z0k L j0 rs->∃i r,rs[i]?=some r/\L (j0+i)=true/\w∈r.eff.ws
 | [],_,_,h=>by simp[z0k]at h
 |r::rs,j0,w,h=>by
  simp only[z0k,zY13]at h;rcases h with h|h
  ·split at h
   ·exact⟨0,r,rfl,by simpa,h⟩
   ·cases h
  ·obtain⟨i,r',h1,h2,h3⟩:=zhi h;exact⟨i+1,r',by simpa using h1,by rw[<- h2];congr 1;omega,h3⟩
theorem z9i{L:Nat->Bool}:∀(rs rs':List Rec) (j0:Nat),z0k L j0 (rs++rs')=z0k L j0 rs++z0k L (j0+rs.length) rs'
 | [],rs',j0=>by simp[z0k]
 |r::rs,rs',j0=>by simp only[zY1g,z0k,z9i rs rs' (j0+1),zY1a,zY08];congr 3;omega
theorem zaq{L L':Nat->Bool}:∀(rs:List Rec) (j0:Nat),(∀i,i<rs.length->L (j0+i)=L' (j0+i))->z0k L j0 rs=z0k L' j0 rs
 | [],_,_=>rfl
 |r::rs,j0,h=>by
  have e1:L j0=L' j0:=h 0 zX4;have e2:z0k L (j0+1) rs=z0k L' (j0+1) rs:=zaq rs (j0+1) λi hi=>by have:=h (i+1) zXw;rw[show j0+1+i=j0+(i+1)by omega];exact this
  simp only[z0k];rw[e1,e2]
theorem zw1{L L':Nat->Bool}(hr:rs[i]?=some r)(hL:L i=false)(hL':∀j,L' j=(L j||decide (j=i)))(hdj:∀(j:Nat) (q:Rec),i<j->rs[j]?=some q->L j=true->∀x∈r.eff.ws,∀y∈q.eff.ws,x.loc≠y.loc)(τ:List SV)(ω:List (Option Ob)) :
  wr τ ω (z0k L' 0 rs)=wr (wr τ ω (z0k L 0 rs)).1 (wr τ ω (z0k L 0 rs)).2 r.eff.ws:=by
 have hlt:=(zY02.1 hr).1;have hsplit:rs=rs.take i++r::rs.drop (i+1):=by
  conv=>lhs;rw[<- zY10 i rs]
  congr 1;rw[zY1z hlt];rw[zY03 hlt]at hr;injection hr with hr;rw[hr]
 have hti:(rs.take i).length=i:=by rw[zY0d];omega
 have e1:z0k L' 0 rs=z0k L 0 (rs.take i)++(r.eff.ws++z0k L (i+1) (rs.drop (i+1))):=by
  conv=>lhs;rw[hsplit]
  rw[z9i,hti,zaq (L:=L') (L':=L) (rs.take i) 0 (λj hj=>by rw[hL'];simp;omega)];simp only[z0k,zY0z];rw[hL' i,zaq (L:=L') (L':=L) (rs.drop (i+1)) (i+1) (λj hj=>by rw[hL'];simp;omega)];simp
 have e2:z0k L 0 rs=z0k L 0 (rs.take i)++z0k L (i+1) (rs.drop (i+1)):=by
  conv=>lhs;rw[hsplit]
  rw[z9i,hti];simp only[z0k,zY0z,hL];simp
 rw[e1,e2,z1f,z1f,z1f];refine z0cj _ _ (λx hx y hy=>?_) _ _;obtain⟨j,q,h1,h2,h3⟩:=zhi hy;exact hdj (i+1+j) q zX0 (by rw[zY1p]at h1;exact h1) h2 x hx y h3
theorem Sim.wanted{ops:Array Oper}{want:Bool}(h:Sim w0 F0 E τ ω a W ρ)(hg:z9g E ops.toList τ o want):Region.wanted o (yielded ops a.tmps)=want:=by
 unfold z9g at hg;unfold Region.wanted;split at hg
 ·rename_i hn;rw[hn];exact hg.symm
 ·rename_i j w hn;rw[hn];obtain⟨d,sv,h1,h2,h3⟩:=hg;simp only;have h1':(ops[j]?).bind (·.dst)=some d:=by simpa using h1
  have hsv:=h.tmps d sv h2;have hlt:d<a.tmps.size:=by rw[h.size];exact(zY02.1 h2).1
  have hget:a.tmps[d]?=some (a.tmps.getD d undef):=by rw[zY0s,zY14 hlt];rfl
  unfold yielded;rw[h1'];simp only[zY07,hget];rcases h3 with⟨rfl,rfl⟩|⟨x,b,rfl,hx,rfl⟩
  ·have:a.tmps.getD d undef=undef:=hsv;rw[this];rfl
  ·obtain⟨d',hd',hrep⟩:=C1R.at_ hsv;simp only[ctx]at hd';rw[hx]at hd';injection hd' with hd';subst hd';rw[z82 hrep];cases b<;>cases w<;>rfl
theorem z05t{ops:Array Oper}(h:Sim w0 F0 E τ ω a W ρ)(hr:z0c0 cx kb nt ops.toList sp E τ ω o r)(hty:∀t i,cx.ti t=some i->TyOk P t i)(hsig:∀ci f s,cx.sigs[ci]?=some (f,s)->Meets P (sp ci) f s)
  (hK:∀a' W',z2h w0 F0 E τ ω r.eff.ws a' W'->K a' W'):if Region.wanted o (yielded ops a.tmps)then o.wp P a W K Q\/(o.asks P a W/\LetsOut Q)else K (a.put o.dst undef) W:=by
 obtain⟨h1,h2,h3⟩:=hr;rw[h.wanted h1];cases hw:r.want with
 |true =>simp only[if_true];obtain⟨kn,k1,k2,k3⟩:=h2 hw;exact .inl (Oper.wp_mono (λa w hg=>hK a w hg) (z0bz h k2 k3 k1 hty hsig))
 |false =>simp only[zY0x,if_false];refine hK _ _ ⟨ρ,?_⟩;rw[h3 hw];exact h.dst o (sv:=.one .und) (v:=undef) rfl
theorem zqx{k:Nat}:∀ {l:List Nat} {m:Nat},k∈ddL m l->k∈l
 | [],_,h=>h
 |x::xs,m,h=>by
  unfold ddL at h;split at h
  ·rcases zY0g.1 h with h|h
   ·exact zY0g.2 (.inl h)
   ·exact zY0g.2 (.inr (zqx h))
  ·exact zY0g.2 (.inr (zqx h))
theorem z0f4(n:Nat)(k:Nat->β):fnN n k=k n:=by cases n<;>rfl
theorem zw2{α β:Type}{f:α->(α->β)->β}(hf:∀x k,f x k=k x):∀(l:List α) (k:List α->β),fnL f l k=k l
 | [],k=>rfl
 |x::xs,k=>by show f x (λx=>fnL f xs λxs=>k (x::xs))=k (x::xs);rw[hf,zw2 hf xs]
theorem z05u(o:Oper)(r:List Oper)(acc:List (List Nat)):z4z (o::r) acc=z4z r (acc++[ddL 0 (o.after.toList.flatMap λe=>if Region.binds .any e then e.on::acc.getD e.on []else[])]):=by rw[z4z,zw2 z0f4,zw2 (λ_ _=>rfl)]
theorem zlk:∀(l:List Oper) (acc:List (List Nat)),(∀i,i<acc.length->(z4z l acc).getD i []=acc.getD i []) /\
  ∀(j:Nat) (o:Oper),l[j]?=some o->∀k∈(z4z l acc).getD (acc.length+j) [],∃e∈o.after.toList,Region.binds .any e=true/\(k=e.on\/k∈(z4z l acc).getD e.on [])
 | [],acc=>⟨λi _=>rfl,λj o h=>by simp at h⟩
 |o::l,acc=>by
  rw[z05u];obtain⟨h1,h2⟩:=zlk l (acc++[ddL 0 (o.after.toList.flatMap λe=>if Region.binds .any e then e.on::acc.getD e.on []else[])]);have h0:∀i,i<acc.length->(z4z l (acc++[ddL 0 (o.after.toList.flatMap λe=>if Region.binds .any e then e.on::acc.getD e.on []else[])])).getD i []=acc.getD i []:=by intro i hi;rw[h1 i zXa];simp only[zY0r];rw[zY0l hi]
  refine⟨h0,λj o' ho k hk=>?_⟩;cases j with
  |zero =>
   simp only[zY05,zY00]at ho;subst ho;rw[zY28,h1 _ zX4]at hk;simp only[zY0r]at hk;rw[zY0q (zY0k _),Nat.sub_self,zY05,zY1f]at hk;replace hk:=zqx hk;rw[List.mem_flatMap]at hk;obtain⟨e,he,hk⟩:=hk;split at hk
   ·rename_i hb;refine⟨e,he,hb,?_⟩;rcases zY0g.1 hk with hk|hk
    ·exact .inl hk
    ·refine .inr ?_;by_cases hlt:e.on<acc.length
     ·rw[h0 _ hlt];simpa[zY0r]using hk
     ·rw[zY2m zX0]at hk;simp at hk
   ·cases hk
  |succ j =>refine h2 j o' zX1g k ?_;rw[zY04,zY1c,show acc.length+1+j=acc.length+(j+1)by omega];exact hk
theorem zjh{an:List (List Nat)}{i:Nat}{r:Rec}:∀ {rs:List Rec} {j0:Nat},zf6 an i r j0 rs=true->∀(j:Nat) (q:Rec),rs[j]?=some q->i∈an.getD (j0+j) []\/zal r q=true
 | [],_,_,_,_,hq=>by simp at hq
 |q'::rs,j0,h,j,q,hq=>by
  simp only[zf6,zY0e,zY3d,zY2c]at h;cases j with
  |zero =>simp only[zY05,zY00]at hq;subst hq;exact h.1
  |succ j =>have:=zjh h.2 j q (by simpa using hq);rw[show j0+(j+1)=j0+1+j by omega];exact this
theorem z9z{an:List (List Nat)}:∀ {rs:List Rec} {i0:Nat},zam an i0 rs=true->∀(i j:Nat) (r q:Rec),i<j->rs[i]?=some r->rs[j]?=some q->(i0+i)∈an.getD (i0+j) []\/zal r q=true
 | [],_,_,_,_,_,_,_,hr,_=>by simp at hr
 |r'::rs,i0,h,i,j,r,q,hij,hr,hq=>by
  simp only[zam,zY0e]at h;cases j with
  |zero=>omega
  |succ j =>
   cases i with
   |zero =>simp only[zY05,zY00]at hr;subst hr;have:=zjh h.1 j q (by simpa using hq);rw[zY28,show i0+(j+1)=i0+1+j by omega];exact this
   |succ i =>have:=z9z h.2 i j r q zX0 (by simpa using hr) (by simpa using hq);rw[show i0+(i+1)=i0+1+i by omega,show i0+(j+1)=i0+1+j by omega];exact this
theorem ze0{a b:List Loc}(h:disj a b=true):∀x∈a,x∉b:=by intro x hx hb;have:=zY1j.1 h x hx;simp only[zY2u,]at this;rw[zY2c.2 hb]at this;cases this
theorem zhj:∀ {os:List Oper} {i0:Nat},zdf i0 os=true->∀(i:Nat) (o:Oper),os[i]?=some o->∀e∈o.after.toList,Region.binds .any e=true->e.on<i0+i
 | [],_,_,_,_,ho,_,_,_=>by simp at ho
 |o'::os,i0,h,i,o,ho,e,he,hb=>by
  simp only[zdf,zY0e]at h;cases i with
  |zero =>simp only[zY05,zY00]at ho;subst ho;have:=zY1j.1 h.1 e he;rw[hb]at this;simpa using this
  |succ i =>have:=zhj h.2 i o zX1g e he hb;omega
theorem zji{n:Nat}:∀(L L':Nat->Bool) (i:Nat),i<n->L i=false->(∀j,L' j=(L j||decide (j=i)))->((List.range n).filter (λj => !L j)).length=((List.range n).filter (λj => !L' j)).length+1:=by
 intro L L' i hi hL hL';induction n with
 |zero=>omega
 |succ n ih =>
  simp only[List.range_succ,List.filter_append,zY04,List.filter_cons,List.filter_nil];by_cases hin:i=n
  ·subst hin;have e:(List.range i).filter (λj => !L' j)=(List.range i).filter (λj => !L j):=by apply List.filter_congr;intro j hj;simp only[zY2i]at hj;rw[hL'];simp;omega
   have h1:L' i=true:=by rw[hL'];simp
   rw[e,h1,hL];simp
  ·have:=ih zX0;have h1:L' n=L n:=by rw[hL'];simp;omega
   rw[this,h1];omega
end
def Pre(E E':Env):Prop:=∃D,E'=E++D
theorem Pre.refl(E:Env):Pre E E:=⟨[],by simp⟩
theorem Pre.trans{E E' E'':Env}(h:Pre E E')(k:Pre E' E''):Pre E E'':=by obtain⟨D,rfl⟩:=h;obtain⟨D',rfl⟩:=k;exact⟨D++D',by simp⟩
theorem Pre.get{E E':Env}(h:Pre E E'){d:Dt}(hd:E[j]?=some d):E'[j]?=some d:=by obtain⟨D,rfl⟩:=h;rw[zY0l (zY02.1 hd).1];exact hd
theorem Pre.val{E E':Env}(h:Pre E E'){a:Atom}{d:Dt}(hd:a.val E=some d):a.val E'=some d:=by
 cases a with
 |v n=>exact h.get hd
 |c l=>exact hd
theorem Pre.asIM{E E':Env}(h:Pre E E'){a:Atom}{n:Int}(hd:asI (a.val E)=some n):Proofs.YtmjelcjgllkapaaGreatDoor.asI (a.val E')=some n:=by rw[h.val (z2z hd)];rfl
theorem Pre.valsM{E E':Env}(h:Pre E E'):∀ {as0:List Atom} {ds:List Dt},vals E as0=some ds->Proofs.YtmjelcjgllkapaaGreatDoor.vals E' as0=some ds
 | [],ds,hd=>hd
 |a::as0,ds,hd=>by simp only[Proofs.YtmjelcjgllkapaaGreatDoor.vals,zY0a,zY01,zY1e,zY00]at hd⊢;obtain⟨d,h1,ds',h2,rfl⟩:=hd;exact⟨d,h.val h1,ds',h.valsM h2,rfl⟩
theorem Pre.valssM{E E':Env}(h:Pre E E'):∀ {as0:List (List Atom)} {ds:List (List Dt)},valss E as0=some ds->Proofs.YtmjelcjgllkapaaGreatDoor.valss E' as0=some ds
 | [],ds,hd=>hd
 |a::as0,ds,hd=>by simp only[Proofs.YtmjelcjgllkapaaGreatDoor.valss,zY0a,zY01,zY1e,zY00]at hd⊢;obtain⟨d,h1,ds',h2,rfl⟩:=hd;exact⟨d,h.valsM h1,ds',h.valssM h2,rfl⟩
theorem Pre.eqsDM{E E':Env}(h:Pre E E'):∀ {ps:List (Atom×Atom)} {r:Bool},eqsD E ps=some r->Proofs.YtmjelcjgllkapaaGreatDoor.eqsD E' ps=some r
 | [],r,hd=>hd
 |(a,b)::ps,r,hd=>by simp only[Proofs.YtmjelcjgllkapaaGreatDoor.eqsD,zY0a,zY01,zY1e,zY00]at hd⊢;obtain⟨x,h1,y,h2,q,h3,r',h4,rfl⟩:=hd;exact⟨x,h.val h1,y,h.val h2,q,h3,r',h.eqsDM h4,rfl⟩
theorem Pre.bndIM{E E':Env}(h:Pre E E'){d n:Int}{a:Option Atom}(hd:bndI E d a=some n):Proofs.YtmjelcjgllkapaaGreatDoor.bndI E' d a=some n:=by
 cases a with
 |none=>exact hd
 |some a=>exact h.asIM hd
theorem Pre.denXM{sp:Nat->zd}{E E':Env}(h:Pre E E'){d:Dt}(hd:denX sp E x=some d):Proofs.YtmjelcjgllkapaaGreatDoor.denX sp E' x=some d:=by
 cases x with
 |B op a b =>simp only[Proofs.YtmjelcjgllkapaaGreatDoor.denX,zY0a,zY01]at hd⊢;obtain⟨x,h1,y,h2,h3⟩:=hd;exact⟨x,h.val h1,y,h.val h2,h3⟩
 |eqs neg ps =>simp only[Proofs.YtmjelcjgllkapaaGreatDoor.denX,zY0a,zY01]at hd⊢;obtain⟨r,h1,h2⟩:=hd;exact⟨r,h.eqsDM h1,h2⟩
 |beq neg a b =>
  simp only[Proofs.YtmjelcjgllkapaaGreatDoor.denX]at hd⊢;cases ha:a.val E with
  |none=>rw[ha]at hd;cases hd
  |some x =>
   cases hb:b.val E with
   |none=>rw[ha,hb]at hd;cases x<;>cases hd
   |some y=>rw[ha,hb]at hd;rw[h.val ha,h.val hb];exact hd
 |not a =>
  simp only[Proofs.YtmjelcjgllkapaaGreatDoor.denX]at hd⊢;cases ha:a.val E with
  |none=>rw[ha]at hd;cases hd
  |some x=>rw[ha]at hd;rw[h.val ha];exact hd
 |neg a =>
  simp only[Proofs.YtmjelcjgllkapaaGreatDoor.denX]at hd⊢;cases ha:a.val E with
  |none=>rw[ha]at hd;cases hd
  |some x=>rw[ha]at hd;rw[h.val ha];exact hd
 |conv k a =>
  simp only[Proofs.YtmjelcjgllkapaaGreatDoor.denX]at hd⊢;cases ha:a.val E with
  |none=>rw[ha]at hd;cases hd
  |some x=>rw[ha]at hd;rw[h.val ha];exact hd
 |len a =>
  simp only[Proofs.YtmjelcjgllkapaaGreatDoor.denX]at hd⊢;cases ha:a.val E with
  |none=>rw[ha]at hd;cases hd
  |some x=>rw[ha]at hd;rw[h.val ha];exact hd
 |slen a =>
  simp only[Proofs.YtmjelcjgllkapaaGreatDoor.denX]at hd⊢;cases ha:a.val E with
  |none=>rw[ha]at hd;cases hd
  |some x=>rw[ha]at hd;rw[h.val ha];exact hd
 |ise neg a =>
  simp only[Proofs.YtmjelcjgllkapaaGreatDoor.denX]at hd⊢;cases ha:a.val E with
  |none=>rw[ha]at hd;cases hd
  |some x=>rw[ha]at hd;rw[h.val ha];exact hd
 |scal a =>
  simp only[Proofs.YtmjelcjgllkapaaGreatDoor.denX]at hd⊢;cases ha:a.val E with
  |none=>rw[ha]at hd;cases hd
  |some x=>rw[ha]at hd;rw[h.val ha];exact hd
 |inr sz a i =>
  simp only[Proofs.YtmjelcjgllkapaaGreatDoor.denX]at hd⊢;cases ha:a.val E with
  |none=>rw[ha]at hd;cases hd
  |some x =>
   cases hb:asI (i.val E)with
   |none=>rw[ha,hb]at hd;cases x<;>cases hd
   |some y=>rw[ha,hb]at hd;rw[h.val ha,h.asIM hb];exact hd
 |idx a i j =>
  simp only[Proofs.YtmjelcjgllkapaaGreatDoor.denX]at hd⊢;cases ha:a.val E with
  |none=>rw[ha]at hd;cases hd
  |some x =>
   cases hb:asI (i.val E)with
   |none=>rw[ha,hb]at hd;cases x<;>cases hd
   |some y=>rw[ha,hb]at hd;rw[h.val ha,h.asIM hb];exact hd
 |sub sz a lo hi =>
  simp only[Proofs.YtmjelcjgllkapaaGreatDoor.denX]at hd⊢;cases ha:a.val E with
  |none=>rw[ha]at hd;cases hd
  |some x =>
   rw[ha]at hd;rw[h.val ha];cases x with
   |l z xs =>simp only[zY0a,zY01]at hd⊢;obtain⟨l,h1,hh,h2,h3⟩:=hd;exact⟨l,h.bndIM h1,hh,h.bndIM h2,h3⟩
   |_=>cases hd
 |mk sz rows =>simp only[Proofs.YtmjelcjgllkapaaGreatDoor.denX,zY0a,zY01]at hd⊢;obtain⟨r,h1,h2⟩:=hd;exact⟨r,h.valssM h1,h2⟩
 |app sz a b =>
  simp only[Proofs.YtmjelcjgllkapaaGreatDoor.denX]at hd⊢;cases ha:a.val E with
  |none=>rw[ha]at hd;cases hd
  |some x =>
   cases hb:b.val E with
   |none=>rw[ha,hb]at hd;cases x<;>cases hd
   |some y=>rw[ha,hb]at hd;rw[h.val ha,h.val hb];exact hd
 |set a i j vs =>
  simp only[Proofs.YtmjelcjgllkapaaGreatDoor.denX]at hd⊢;cases ha:a.val E with
  |none=>rw[ha]at hd;cases hd
  |some x =>
   cases hb:asI (i.val E)with
   |none=>rw[ha,hb]at hd;cases x<;>cases hd
   |some y =>
    cases hc:vals E vs with
    |none=>rw[ha,hb,hc]at hd;cases x<;>cases hd
    |some z=>rw[ha,hb,hc]at hd;rw[h.val ha,h.asIM hb,h.valsM hc];exact hd
 |ite c a b =>
  simp only[Proofs.YtmjelcjgllkapaaGreatDoor.denX]at hd⊢;cases hc:c.val E with
  |none=>rw[hc]at hd;cases hd
  |some x =>
   rw[hc]at hd;rw[h.val hc];cases x with
   |b x =>
    cases x
    ·exact h.val hd
    ·exact h.val hd
   |_=>cases hd
 |call ci args j =>simp only[Proofs.YtmjelcjgllkapaaGreatDoor.denX,zY0a,zY01]at hd⊢;obtain⟨ds,h1,h2⟩:=hd;exact⟨ds,h.valsM h1,h2⟩
 |sel as0 i =>
  simp only[Proofs.YtmjelcjgllkapaaGreatDoor.denX]at hd⊢;cases hb:asI (i.val E)with
  |none=>rw[hb]at hd;cases hd
  |some y =>
   cases hc:vals E as0 with
   |none=>rw[hb,hc]at hd;cases hd
   |some z=>rw[hb,hc]at hd;rw[h.asIM hb,h.valsM hc];exact hd
 |ssub a lo hi =>
  simp only[Proofs.YtmjelcjgllkapaaGreatDoor.denX]at hd⊢;cases ha:a.val E with
  |none=>rw[ha]at hd;cases hd
  |some x =>
   rw[ha]at hd;rw[h.val ha];cases x with
   |s xs =>simp only[zY0a,zY01]at hd⊢;obtain⟨l,h1,hh,h2,h3⟩:=hd;exact⟨l,h.bndIM h1,hh,h.bndIM h2,h3⟩
   |_=>cases hd
 |mkz sz z a =>
  simp only[Proofs.YtmjelcjgllkapaaGreatDoor.denX]at hd⊢;cases hb:asI (a.val E)with
  |none=>rw[hb]at hd;cases hd
  |some y=>rw[hb]at hd;rw[h.asIM hb];exact hd
 |mget z a ka j =>
  simp only[Proofs.YtmjelcjgllkapaaGreatDoor.denX]at hd⊢;cases ha:a.val E with
  |none=>rw[ha]at hd;cases hd
  |some x =>
   cases hb:asI (ka.val E)with
   |none=>rw[ha,hb]at hd;cases x<;>cases hd
   |some y=>rw[ha,hb]at hd;rw[h.val ha,h.asIM hb];exact hd
 |mhas a ka =>
  simp only[Proofs.YtmjelcjgllkapaaGreatDoor.denX]at hd⊢;cases ha:a.val E with
  |none=>rw[ha]at hd;cases hd
  |some x =>
   cases hb:asI (ka.val E)with
   |none=>rw[ha,hb]at hd;cases x<;>cases hd
   |some y=>rw[ha,hb]at hd;rw[h.val ha,h.asIM hb];exact hd
 |mput vs a ka ats =>
  simp only[Proofs.YtmjelcjgllkapaaGreatDoor.denX]at hd⊢;cases ha:a.val E with
  |none=>rw[ha]at hd;cases hd
  |some x =>
   cases hb:asI (ka.val E)with
   |none=>rw[ha,hb]at hd;cases x<;>cases hd
   |some y =>
    cases hc:vals E ats with
    |none=>rw[ha,hb,hc]at hd;cases x<;>cases hd
    |some z=>rw[ha,hb,hc]at hd;rw[h.val ha,h.asIM hb,h.valsM hc];exact hd
 |mn a b =>
  simp only[Proofs.YtmjelcjgllkapaaGreatDoor.denX]at hd⊢;cases ha:a.val E with
  |none=>rw[ha]at hd;cases hd
  |some x =>
   cases hb:b.val E with
   |none=>rw[ha,hb]at hd;cases x<;>cases hd
   |some y=>rw[ha,hb]at hd;rw[h.val ha,h.val hb];exact hd
theorem Pre.facts{sp:Nat->zd}{E E':Env}(h:Pre E E'){n:Nat}{e:Eff}(hf:Facts sp E n e):Facts sp E' n e :=
 ⟨λj x hx=>let⟨d,h1,h2⟩:=hf.1 j x hx;⟨d,h.denXM h1,h.get h2⟩,λx hx=>h.denXM (hf.2 x hx)⟩
theorem Pre.kn{E E':Env}(h:Pre E E'){kn:List (Nat×Bool)}(hk:KnOk E kn):KnOk E' kn:=λv b hm=>by
 have:=hk v b hm;unfold KnM at this⊢;split
 ·rename_i hv;rw[zP hv]at this;exact h.get this
 ·rename_i hv;rw[zN hv]at this;obtain⟨n,g1,g2⟩:=this;exact⟨n,h.get g1,h.get g2⟩
theorem Pre.gd{E E':Env}(h:Pre E E'){τ:List SV}{o:Oper}{w:Bool}(hg:z9g E ops τ o w):z9g E' ops τ o w:=by
 unfold z9g at hg⊢;split at hg
 ·exact hg
 ·obtain⟨d,sv,h1,h2,h3⟩:=hg;refine⟨d,sv,h1,h2,h3.imp id ?_⟩;rintro⟨x,b,g1,g2,g3⟩;exact⟨x,b,g1,h.val g2,g3⟩
section
variable {P:Program} {w0 W:World} {F0:Bk} {E E':Env} {τ τ':List SV} {ω ω':List (Option Ob)} {a:Act} {ρ:Nat->Value} {cx:Cx} {o:Oper} {e:Eff} {sp:Nat->zd} {n nt kb:Nat} {kn:List (Nat×Bool)} {Q:Exit->Act->World->Prop}
theorem zw3{E:Env}:∀ {xs:List X} {ds:List Dt},z0s sp E xs=some ds->ds.length=xs.length/\∀(j:Nat) (x:X),xs[j]?=some x->∃d,denX sp E x=some d/\ds[j]?=some d
 | [],ds,h=>by simp only[z0s,zY00]at h;subst h;exact⟨rfl,by simp⟩
 |x::xs,ds,h=>by
  simp only[z0s,zY0a,zY01,zY1e,zY00]at h;obtain⟨d,h1,ds',h2,rfl⟩:=h;obtain⟨k1,k2⟩:=zw3 h2;refine⟨by simp[k1],λj y hy=>?_⟩;cases j with
  |zero=>simp only[zY05,zY00]at hy;subst hy;exact⟨d,h1,rfl⟩
  |succ j=>exact k2 j y zXu
theorem zsu{E:Env}:∀ {xs:List X},z0w sp E xs=true->∀x∈xs,denX sp E x=some (.b true)
 | [],_,x,hx=>by cases hx
 |y::xs,h,x,hx=>by
  unfold z0w at h;split at h
  ·rename_i hy;rcases zY0g.1 hx with rfl|hx
   ·exact hy
   ·exact zsu h x hx
  ·cases h
theorem z01s{N:Nat}{e:Eff}{t:T}{ks:List (List Dt->Option (List Dt))}{res:List Dt}(h:den sp N (zve e t) E ks=some res):∃ds:List Dt,ds.length=e.xs.length/\den sp N t (E++ds) ks=some res/\Facts sp (E++ds) E.length e:=by
 have key:den sp N (.W e.xs e.ck t) E ks=some res->∃ds:List Dt,ds.length=e.xs.length/\den sp N t (E++ds) ks=some res/\Facts sp (E++ds) E.length e:=by
  intro h;simp only[den]at h;split at h
  ·rename_i ds hds;split at h
   ·rename_i hck;obtain⟨k1,k2⟩:=zw3 hds;have hp:Pre E (E++ds):=⟨ds,rfl⟩
    refine⟨ds,k1,h,λj x hx=>?_,zsu hck⟩;obtain⟨d,h1,h2⟩:=k2 j x hx;refine⟨d,hp.denXM h1,?_⟩;rw[zY0q zX0,show E.length+j-E.length=j by omega];exact h2
   ·cases h
  ·cases h
 unfold zve at h;split at h
 ·rename_i h1 h2;exact⟨[],by rw[h1];rfl,by simpa using h,by rw[h1];intro j x hx;simp at hx,by rw[h2];intro x hx;cases hx⟩
 ·exact key h
theorem zop{s:St}{o:Oper}(hk:KnOk E s.kn):(guardOf ops s o=.yes->z9g E ops s.τ o true)/\(guardOf ops s o=.no->z9g E ops s.τ o false) /\
  ∀v,guardOf ops s o=.ask v->∃j w,o.guard=some (j,w)/\∀b,E[v]?=some (.b b)->z9g E ops s.τ o (b==w):=by
 unfold guardOf z9g;cases hg:o.guard with
 |none=>simp
 |some p =>
  obtain⟨j,w⟩:=p;simp only;cases hd:(ops[j]?).bind (·.dst)with
  |none=>simp
  |some d =>
   simp only;cases hs:s.τ[d]? with
   |none=>simp
   |some sv =>
    cases sv with
    |one c =>
     cases c with
     |und =>refine⟨by simp,λ_=>⟨d,_,rfl,hs,.inl ⟨rfl,by trivial⟩⟩,by simp⟩
     | «at» x =>
      simp only;cases hb:evB s.kn x with
      |some b =>
       have hx:=zgg hk hb;simp only;refine⟨λh=>?_,λh=>?_,λv h=>?_⟩
       ·split at h
        ·rename_i hbw;exact⟨d,_,rfl,hs,.inr ⟨x,b,rfl,hx,by rw[hbw];simp⟩⟩
        ·cases h
       ·split at h
        ·cases h
        ·rename_i hbw;exact⟨d,_,rfl,hs,.inr ⟨x,b,rfl,hx,by simp[hbw]⟩⟩
       ·split at h<;>cases h
      |none =>
       cases x with
       |v v' =>simp only;refine⟨by simp,by simp,λv h=>?_⟩;injection h with h;subst h;exact⟨j,w,rfl,λb hb=>⟨d,_,rfl,hs,.inr ⟨.v v',b,rfl,hb,rfl⟩⟩⟩
       |c l=>simp
     |_=>simp
    |_=>simp
theorem zc8{N:Nat}{res:List Dt}{ks:List (List Dt->Option (List Dt))}{ops:List Oper}{k:St->List Rec->Option T}:∀ {todo:List Oper} {s:St} {rs0:List Rec} {t:T} {E:Env},regRun cx nt ops todo s rs0 k=some t->den sp N t E ks=some res->E.length=s.n->KnOk E s.kn ->
  ∃E' s' rs t',k s' (rs0++rs)=some t'/\den sp N t' E' ks=some res/\Pre E E'/\E'.length=s'.n/\KnOk E' s'.kn/\s'.lvl=s.lvl/\s'.kb=s.kb/\s'.σ=s.σ/\Tr cx s.kb nt ops sp E' todo s.τ s.ω rs/\(s'.τ,s'.ω)=wr s.τ s.ω (z0k (λ_=>true) 0 rs)
 | [],s,rs0,t,E,hr,hd,hn,hk=>⟨E,s,[],t,by simpa[regRun]using hr,hd,Pre.refl _,hn,hk,rfl,rfl,rfl,.nil,rfl⟩
 |o::rest,s,rs0,t,E,hr,hd,hn,hk=>by
  have shift:∀(rs:List Rec) (j:Nat),z0k (λ_=>true) j rs=z0k (λ_=>true) 0 rs:=by
   intro rs;induction rs with
   |nil=>intro j;rfl
   |cons r rs ih=>intro j;simp only[z0k,if_true];rw[ih (j+1),ih (0+1)]
  have doit:∀(s1:St) (t1:T),s1.τ=s.τ->s1.ω=s.ω->s1.n=s.n->s1.lvl=s.lvl->s1.kb=s.kb->s1.σ=s.σ->KnOk E s1.kn->z9g E ops s.τ o true->regDo cx nt ops o s1 (λs r=>regRun cx nt ops rest s (rs0++[r]) k)=some t1->den sp N t1 E ks=some res ->
    ∃E' s' rs t',k s' (rs0++rs)=some t'/\den sp N t' E' ks=some res/\Pre E E'/\E'.length=s'.n/\KnOk E' s'.kn/\s'.lvl=s.lvl/\s'.kb=s.kb/\s'.σ=s.σ/\Tr cx s.kb nt ops sp E' (o::rest) s.τ s.ω rs/\(s'.τ,s'.ω)=wr s.τ s.ω (z0k (λ_=>true) 0 rs):=by
   intro s1 t1 e1 e2 e3 e4 e5 e6 hk1 hg hdo hd1;unfold regDo at hdo;simp only at hdo;split at hdo
   ·cases hdo
   ·rename_i eff hrun;split at hdo
    ·cases hdo
    ·rename_i t2 ht2;injection hdo with hdo;subst hdo;obtain⟨ds,l1,l2,l3⟩:=z01s hd1;have hp:Pre E (E++ds):=⟨ds,rfl⟩
     obtain⟨E',s',rs,t',h1,h2,h3,h4,h5,h6,hkb,hσ,h7,h8⟩:=zc8 ht2 l2 (by simp[l1,hn,e3]) (z01k (hp.kn hk1) (by rw[<- hn.trans e3.symm]at *;exact l3));simp only at h6 hkb hσ h7 h8;rw[e1,e2,e5]at h7;rw[e1,e2]at h8 hrun;rw[e5]at hrun;refine⟨E',s',_::rs,t',by simpa using h1,h2,hp.trans h3,h4,h5,h6.trans e4,hkb.trans e5,hσ.trans e6,.cons (r:=⟨o,s1.n,s1.kn,true,eff,z8c ops o++(zt cx s1.kb s1.n nt s1.kn o).log s1.τ s1.ω⟩) ?_ h7,?_⟩
     ·refine⟨(hp.trans h3).gd hg,λl hl=>by simp[hl],λ_=>⟨(hp.trans h3).kn hk1,hrun,?_,λl hl=>by simp only[e1,e2,e5,zY13];exact .inr hl⟩,λh=>by cases h⟩;have:=h3.facts l3;rw[hn,<- e3]at this;exact this
     ·simp only[z0k,if_true,z1f];rw[shift rs (0+1)];exact h8
  have skipit:∀(s1:St) (t1:T),s1.τ=s.τ->s1.ω=s.ω->s1.n=s.n->s1.lvl=s.lvl->s1.kb=s.kb->s1.σ=s.σ->KnOk E s1.kn->z9g E ops s.τ o false->regSkip ops o s1 (λs r=>regRun cx nt ops rest s (rs0++[r]) k)=some t1->den sp N t1 E ks=some res ->
    ∃E' s' rs t',k s' (rs0++rs)=some t'/\den sp N t' E' ks=some res/\Pre E E'/\E'.length=s'.n/\KnOk E' s'.kn/\s'.lvl=s.lvl/\s'.kb=s.kb/\s'.σ=s.σ/\Tr cx s.kb nt ops sp E' (o::rest) s.τ s.ω rs/\(s'.τ,s'.ω)=wr s.τ s.ω (z0k (λ_=>true) 0 rs):=by
   intro s1 t1 e1 e2 e3 e4 e5 e6 hk1 hg hdo hd1;unfold regSkip at hdo;simp only at hdo;obtain⟨E',s',rs,t',h1,h2,h3,h4,h5,h6,hkb,hσ,h7,h8⟩:=zc8 hdo hd1 (by simp[hn,e3]) hk1;simp only at h6 hkb hσ h7 h8;rw[e1,e2,e5]at h7;rw[e1,e2]at h8;refine⟨E',s',_::rs,t',by simpa using h1,h2,h3,h4,h5,h6.trans e4,hkb.trans e5,hσ.trans e6,.cons (r:=⟨o,s1.n,s1.kn,false,⟨[],[],z07 o (.one .und)⟩,z8c ops o⟩) ?_ h7,?_⟩
   ·exact⟨h3.gd hg,λl hl=>hl,(λh=>by cases h),λ_=>rfl⟩
   ·simp only[z0k,if_true,z1f];rw[shift rs (0+1)];exact h8
  obtain⟨g1,g2,g3⟩:=zop (ops:=ops) (o:=o) hk;unfold regRun at hr;split at hr
  ·rename_i hg;exact doit s t rfl rfl rfl rfl rfl rfl hk (g1 hg) hr hd
  ·rename_i hg;exact skipit s t rfl rfl rfl rfl rfl rfl hk (g2 hg) hr hd
  ·rename_i v hg;obtain⟨j,w,hgd,g4⟩:=g3 v hg;rw[hgd]at hr;simp only at hr;split at hr
   ·rename_i t1 e1 ht1 he1;injection hr with hr;have learnOk:∀b,E[v]?=some (.b b)->KnOk E (learn s v b).kn:=λb hb=>zmz hk hb;cases w with
    |true =>
     simp only[if_true]at hr;subst hr;simp only[den]at hd;split at hd
     ·rename_i b hb;have hb':E[v]?=some (.b b):=hb;cases b with
      |true=>simp only[if_true]at hd;exact doit (learn s v true) t1 rfl rfl rfl rfl rfl rfl (learnOk true hb') (g4 true hb') ht1 hd
      |false=>simp only[zY0x,if_false]at hd;exact skipit (learn s v false) e1 rfl rfl rfl rfl rfl rfl (learnOk false hb') (g4 false hb') he1 hd
     ·cases hd
    |false =>
     simp only[zY0x,if_false]at hr;subst hr;simp only[den]at hd;split at hd
     ·rename_i b hb;have hb':E[v]?=some (.b b):=hb;cases b with
      |true=>simp only[if_true]at hd;exact skipit (learn s v true) e1 rfl rfl rfl rfl rfl rfl (learnOk true hb') (g4 true hb') he1 hd
      |false=>simp only[zY0x,if_false]at hd;exact doit (learn s v false) t1 rfl rfl rfl rfl rfl rfl (learnOk false hb') (g4 false hb') ht1 hd
     ·cases hd
   ·cases hr
  ·cases hr
end
section
variable {P:Program} {w0 W:World} {F0:Bk} {E E':Env} {τ τ':List SV} {ω ω':List (Option Ob)} {a:Act} {ρ ρ':Nat->Value} {c c':Ctx}
structure Ctx.LeX(k:Nat)(c c':Ctx):Prop where
 agree:Agree c.F c.W c'.W
 more:∀b,c.F b->c'.F b
 env:∀a d,Atom.val c.E a=some d->Atom.val c'.E a=some d
 live:∀j,j≠k->c.L j->c'.L j/\c'.ρ j=c.ρ j
theorem CapR.skip(h:c.LeX k c'){p:Nat×Nat}{v:Value}(hx:(p.1==k)=false)(hr:CapR c p v):CapR c' p v:=by obtain⟨h1,g,o,h2,h3⟩:=hr;have:=h.live _ zXo h1;exact⟨this.1,g,o,by rw[this.2];exact h2,h3⟩
theorem CapRs.skip{k:Nat}(h:c.LeX k c'):∀ {ps:List (Nat×Nat)} {vs:List Value},(ps.any λp=>p.1==k)=false->CapRs c ps vs->CapRs c' ps vs
 | [],[],_,_=>trivial
 |p::ps,v::vs,hx,hr=>by simp only[zY3a,zY31]at hx;exact⟨hr.1.skip h hx.1,CapRs.skip h hx.2 hr.2⟩
theorem C1R.skip(h:c.LeX k c'){x:C1}{v:Value}(hx:x.refs k=false)(hr:C1R c x v):C1R c' x v:=by
 cases x with
 |top=>trivial
 |und=>exact hr
 | «at» a=>exact C1R.of_at (λz e=>by subst e;exact hr) (let⟨d,h1,h2⟩:=hr.at_;⟨d,h.env a d h1,h2.mono h.agree h.more⟩)
 |bp j off=>exact CapR.skip h hx hr
 |ep a i off =>obtain⟨sz,xs,n,b,o,x,vs,h1,h2,h3,h4,h5,h6,h7,h8⟩:=hr;refine⟨sz,xs,n,b,o,x,vs,h.env a _ h1,?_,h3,h4,h5,h6,h.more _ h7,λj d hd=>⟨(h.agree.cell (p:=⟨b,_,none⟩) h7).trans (h8 j d hd).1,(h8 j d hd).2.mono h.agree h.more⟩⟩;rw[h.env i _ (z2z h2)];rfl
 |row j =>have:=h.live j (by simpa[C1.refs]using hx) hr.1;exact⟨this.1,hr.2.1.trans this.2.symm,hr.2.2⟩
 |rp j i sz off =>obtain⟨h1,n,g,len,cap,h2,h3,h4,h5,h6⟩:=hr;have:=h.live j (by simpa[C1.refs]using hx) h1;exact⟨this.1,n,g,len,cap,by rw[h.env i _ (z2z h2)];rfl,h3,h4,by rw[this.2];exact h5,h6⟩
 |fn f caps=>exact let⟨vs,h1,h2⟩:=hr;⟨vs,h1,h2.skip h hx⟩
theorem C1Rs.skip{k:Nat}(h:c.LeX k c'):∀ {xs:List C1} {vs:List Value},xs.any (C1.refs k)=false->C1Rs c xs vs->C1Rs c' xs vs
 | [],[],_,_=>trivial
 |x::xs,v::vs,hx,hr=>by simp only[zY3a,zY31]at hx;exact⟨hr.1.skip h hx.1,C1Rs.skip h hx.2 hr.2⟩
theorem SVR.skip(h:c.LeX k c'){x:SV}{v:Value}(hx:x.refs k=false)(hr:SVR c x v):SVR c' x v:=by
 cases x with
 |one x=>exact C1R.skip h hx hr
 |agg cs=>exact let⟨us,h1,h2⟩:=hr;⟨us,h1,h2.skip h hx⟩
 |tup ps =>
  obtain⟨us,h1,h2⟩:=hr;refine⟨us,h1,?_⟩;have key:∀ {ps:List (Bool×List C1)} {us:List Value},(ps.any λp=>p.2.any (C1.refs k))=false->PRs c ps us->PRs c' ps us:=by
   intro ps;induction ps with
   |nil=>intro us _ h;cases us with
    |nil=>trivial
    |cons _ _=>exact absurd h id
   |cons p ps ih=>intro us hx hr;cases us with
    |nil=>exact absurd hr id
    |cons u us =>
     simp only[zY3a,zY31]at hx;refine⟨?_,ih hx.2 hr.2⟩;have h1:=hr.1;unfold PR at h1⊢;split at h1
     ·rename_i hp;obtain⟨vs,g1,g2⟩:=h1;rw[zP hp];exact⟨vs,g1,g2.skip h hx.1⟩
     ·rename_i hp;obtain⟨x,g1,g2⟩:=h1;rw[zN hp];have hx1:=hx.1;rw[g1]at hx1;simp only[zY3a,List.any_nil,Bool.or_false]at hx1;exact⟨x,g1,g2.skip h hx1⟩
  exact key hx h2
theorem ObR.key(h:c.LeX k c')(hW:c'.W=c.W){o:Ob}(hx:o.refs k=false)(hρ:c'.ρ i=c.ρ k)(hr:ObR c base k o):ObR c' base i o:=by
 cases o with
 |box t cs =>obtain⟨g,vs,h1,h2,h3,h4⟩:=hr;exact⟨g,vs,by rw[hρ];exact h1,h2,by rw[hW];exact h3,h4.skip h hx⟩
 |ext cs =>obtain⟨g,o,vs,h1,h2,h3,h4⟩:=hr;exact⟨g,o,vs,by rw[hρ];exact h1,h.more _ h2,by rw[hW];exact h3,h4.skip h hx⟩
 |row e sz a =>obtain⟨xs,vs,h1,h2,h3,h4⟩:=hr;exact⟨xs,vs,h.env _ _ h1,h2,by rw[hρ,hW];exact h3,h4.mono h.agree h.more⟩
 |frz a =>obtain⟨d,h1,h2⟩:=hr;exact⟨d,h.env _ _ h1,by rw[hρ];exact h2.mono h.agree h.more⟩
 |dead=>trivial
 |gone a =>obtain⟨sz,xs,A,cap,h1,h2,h3⟩:=hr;exact⟨sz,xs,A,cap,h.env _ _ h1,by rw[hρ];exact h2,h3⟩
 |map t vs q a =>obtain⟨b,rows,es,clock,h1,h2,h3,h4,h5⟩:=hr;exact⟨b,rows,es,clock,by rw[hρ];exact h1,h2,by rw[hW];exact h3,h.env _ _ h4,h5.mono h.agree h.more⟩
theorem ObR.skip(h:c.LeX k c')(hW:c'.W=c.W){o:Ob}(hx:o.refs k=false)(hj:j≠k)(hl:c.L j)(hr:ObR c base j o):ObR c' base j o:=by
 have hρ:=(h.live j hj hl).2;cases o with
 |box t cs =>obtain⟨g,vs,h1,h2,h3,h4⟩:=hr;exact⟨g,vs,by rw[hρ];exact h1,h2,by rw[hW];exact h3,h4.skip h hx⟩
 |ext cs =>obtain⟨g,o,vs,h1,h2,h3,h4⟩:=hr;exact⟨g,o,vs,by rw[hρ];exact h1,h.more _ h2,by rw[hW];exact h3,h4.skip h hx⟩
 |row e sz a =>obtain⟨xs,vs,h1,h2,h3,h4⟩:=hr;exact⟨xs,vs,h.env _ _ h1,h2,by rw[hρ,hW];exact h3,h4.mono h.agree h.more⟩
 |frz a =>obtain⟨d,h1,h2⟩:=hr;exact⟨d,h.env _ _ h1,by rw[hρ];exact h2.mono h.agree h.more⟩
 |dead=>trivial
 |gone a =>obtain⟨sz,xs,A,cap,h1,h2,h3⟩:=hr;exact⟨sz,xs,A,cap,h.env _ _ h1,by rw[hρ];exact h2,h3⟩
 |map t vs q a =>obtain⟨b,rows,es,clock,h1,h2,h3,h4,h5⟩:=hr;exact⟨b,rows,es,clock,by rw[hρ];exact h1,h2,by rw[hW];exact h3,h.env _ _ h4,h5.mono h.agree h.more⟩
theorem Sim.top(h:Sim w0 F0 E τ ω a W ρ)(i:Nat):Sim w0 F0 E (τ.set i (.one .top)) ω a W ρ:=by
 refine⟨h.below,h.low,h.held,h.defers,by simpa using h.size,λt sv ht=>?_,h.objs,h.dj⟩;rw[zY2e]at ht;split at ht
 ·split at ht
  ·injection ht with ht;subst ht;trivial
  ·cases ht
 ·exact h.tmps t sv ht
theorem Sim.set1(h:Sim w0 F0 E τ ω a W ρ)(i:Nat){sv:SV}(hr:∀x,τ[i]?=some x->SVR (ctx w0 F0 E ω ρ W) sv (a.tmps.getD i undef)):Sim w0 F0 E (τ.set i sv) ω a W ρ:=by
 refine⟨h.below,h.low,h.held,h.defers,by simpa using h.size,λt sv' ht=>?_,h.objs,h.dj⟩;rw[zY2e]at ht;split at ht
 ·rename_i e;subst e;split at ht
  ·rename_i hlt;injection ht with ht;subst ht;exact hr _ (zY03 hlt)
  ·cases ht
 ·exact h.tmps t sv' ht
theorem z09l{σ:List SV}(h:noRef k τ ω σ=true):(∀(t:Nat) (sv:SV),τ[t]?=some sv->sv.refs k=false)/\(∀(j:Nat) (o:Ob),ω[j]?=some (some o)->o.refs k=false)/\σ.any (SV.refs k)=false:=by
 simp only[noRef,zY0e,zY2u,zY3m,zY2j]at h;refine⟨λt sv ht=>h.1.1 sv (zY06 ht),λj o ho=>?_,?_⟩
 ·have:=h.1.2 (some o) (zY06 ho);exact this
 ·rw[zY3m];intro x hx;simpa using h.2 x hx
theorem SVRs.skip{k:Nat}(h:c.LeX k c'):∀ {xs:List SV} {vs:List Value},xs.any (SV.refs k)=false->SVRs c xs vs->SVRs c' xs vs
 | [],[],_,_=>trivial
 |x::xs,v::vs,hx,hr=>by simp only[zY3a,zY31]at hx;exact⟨hr.1.skip h hx.1,SVRs.skip h hx.2 hr.2⟩
theorem Sim.drop(h:Sim w0 F0 E τ ω a W ρ)(hn:noRef k τ ω F0.σ=true):Sim w0 F0 E τ (ω.set k none) a W ρ:=by
 obtain⟨n1,n2,n3⟩:=z09l hn;have hget:∀j o,(ω.set k none)[j]?=some (some o)->j≠k/\ω[j]?=some (some o):=by
  intro j o hj;by_cases e:k=j
  ·subst e;rw[zY2e]at hj;simp only[if_true]at hj;split at hj<;>simp at hj
  ·rw[zY0j e]at hj;exact⟨Ne.symm e,hj⟩
 have hle:(ctx w0 F0 E ω ρ W).LeX k (ctx w0 F0 E (ω.set k none) ρ W):=by refine⟨λ_ _=>rfl,λb hb=>⟨hb.1,?_⟩,λ_ _ x=>x,λj hj ⟨o,ho⟩=>⟨⟨o,by rw[zY0j (Ne.symm hj)];exact ho⟩,rfl⟩⟩;rintro⟨j,o,h1,h2⟩;exact hb.2 ⟨j,o,(hget j o h1).2,h2⟩
 refine⟨h.below,h.low,h.held.skip hle n3,h.defers,h.size,λt sv ht=>(h.tmps t sv ht).skip hle (n1 t sv ht),λj o ho=>?_,λj j' o o' g h1 h2 h3 h4=>h.dj j j' o o' g (hget j o h1).2 (hget j' o' h2).2 h3 h4⟩;obtain⟨g1,g2⟩:=hget j o ho;exact(h.objs j o g2).skip hle rfl (n2 j o g2) g1 ⟨o,g2⟩
structure Ctx.LeR(k i:Nat)(c c':Ctx):Prop where
 agree:Agree c.F c.W c'.W
 more:∀b,c.F b->c'.F b
 env:∀a d,Atom.val c.E a=some d->Atom.val c'.E a=some d
 live:∀j,c.L j->c'.L (if j=k then i else j)/\c'.ρ (if j=k then i else j)=c.ρ j
theorem CapR.ren(h:c.LeR k i c'){p:Nat×Nat}{v:Value}(hr:CapR c p v):CapR c' (if p.1=k then i else p.1,p.2) v:=by obtain⟨h1,g,o,h2,h3⟩:=hr;have:=h.live _ h1;exact⟨this.1,g,o,by rw[this.2];exact h2,h3⟩
theorem CapRs.ren{k i:Nat}(h:c.LeR k i c'):∀ {ps:List (Nat×Nat)} {vs:List Value},CapRs c ps vs->CapRs c' (ps.map λp=>(if p.1=k then i else p.1,p.2)) vs
 | [],[],_=>trivial
 |_::_,_::_,hr=>⟨hr.1.ren h,CapRs.ren h hr.2⟩
theorem C1R.ren(h:c.LeR k i c'){x:C1}{v:Value}(hr:C1R c x v):C1R c' (x.ren k i) v:=by
 cases x with
 |top=>trivial
 |und=>exact hr
 | «at» a=>exact C1R.of_at (λz e=>by subst e;exact hr) (let⟨d,h1,h2⟩:=hr.at_;⟨d,h.env a d h1,h2.mono h.agree h.more⟩)
 |bp j off=>exact CapR.ren h (p:=(j,off)) hr
 |ep a i' off =>obtain⟨sz,xs,n,b,o,x,vs,h1,h2,h3,h4,h5,h6,h7,h8⟩:=hr;refine⟨sz,xs,n,b,o,x,vs,h.env a _ h1,?_,h3,h4,h5,h6,h.more _ h7,λj d hd=>⟨(h.agree.cell (p:=⟨b,_,none⟩) h7).trans (h8 j d hd).1,(h8 j d hd).2.mono h.agree h.more⟩⟩;rw[h.env i' _ (z2z h2)];rfl
 |row j =>have:=h.live j hr.1;exact⟨this.1,hr.2.1.trans this.2.symm,hr.2.2⟩
 |rp j i' sz off =>obtain⟨h1,n,g,len,cap,h2,h3,h4,h5,h6⟩:=hr;have:=h.live j h1;exact⟨this.1,n,g,len,cap,by rw[h.env i' _ (z2z h2)];rfl,h3,h4,by rw[this.2];exact h5,h6⟩
 |fn f caps=>exact let⟨vs,h1,h2⟩:=hr;⟨vs,h1,h2.ren h⟩
theorem C1Rs.ren{k i:Nat}(h:c.LeR k i c'):∀ {xs:List C1} {vs:List Value},C1Rs c xs vs->C1Rs c' (xs.map (C1.ren k i)) vs
 | [],[],_=>trivial
 |_::_,_::_,hr=>⟨hr.1.ren h,C1Rs.ren h hr.2⟩
theorem SVR.ren(h:c.LeR k i c'){x:SV}{v:Value}(hr:SVR c x v):SVR c' (x.ren k i) v:=by
 cases x with
 |one x=>exact C1R.ren h hr
 |agg cs=>exact let⟨us,h1,h2⟩:=hr;⟨us,h1,h2.ren h⟩
 |tup ps =>
  obtain⟨us,h1,h2⟩:=hr;refine⟨us,h1,?_⟩;clear h1;induction ps generalizing us with
  |nil=>cases us<;>exact h2
  |cons p ps ih=>cases us with
   |nil=>exact h2
   |cons u us =>
    refine⟨?_,ih us h2.2⟩;have h3:=h2.1;unfold PR at h3⊢;simp only;split at h3
    ·rename_i hpp;obtain⟨vs,g1,g2⟩:=h3;rw[zP hpp];exact⟨vs,g1,g2.ren h⟩
    ·rename_i hpp;obtain⟨x,g1,g2⟩:=h3;rw[zN hpp,g1];exact⟨x.ren k i,rfl,g2.ren h⟩
theorem SVRs.ren{k i:Nat}(h:c.LeR k i c'):∀ {xs:List SV} {vs:List Value},SVRs c xs vs->SVRs c' (xs.map (SV.ren k i)) vs
 | [],[],_=>trivial
 |_::_,_::_,hr=>⟨hr.1.ren h,SVRs.ren h hr.2⟩
theorem zqy(k i:Nat)(o:Ob)(v:Value):own (o.ren k i) v=own o v:=by
 cases o with
 |box t cs=>cases v with
  |pointer p=>cases p<;>rfl
  |_=>rfl
 |map t vs q a=>cases v with
  |map p=>cases p<;>rfl
  |_=>rfl
 |_=>rfl
theorem ObR.ren(h:c.LeR k i c')(hW:c'.W=c.W){o:Ob}(hl:c.L j)(hr:ObR c base j o):ObR c' base (if j=k then i else j) (o.ren k i):=by
 have hρ:=(h.live j hl).2;cases o with
 |box t cs =>obtain⟨g,vs,h1,h2,h3,h4⟩:=hr;exact⟨g,vs,by rw[hρ];exact h1,h2,by rw[hW];exact h3,h4.ren h⟩
 |ext cs =>obtain⟨g,o,vs,h1,h2,h3,h4⟩:=hr;exact⟨g,o,vs,by rw[hρ];exact h1,h.more _ h2,by rw[hW];exact h3,h4.ren h⟩
 |row e sz a =>obtain⟨xs,vs,h1,h2,h3,h4⟩:=hr;exact⟨xs,vs,h.env _ _ h1,h2,by rw[hρ,hW];exact h3,h4.mono h.agree h.more⟩
 |frz a =>obtain⟨d,h1,h2⟩:=hr;exact⟨d,h.env _ _ h1,by rw[hρ];exact h2.mono h.agree h.more⟩
 |dead=>trivial
 |gone a =>obtain⟨sz,xs,A,cap,h1,h2,h3⟩:=hr;exact⟨sz,xs,A,cap,h.env _ _ h1,by rw[hρ];exact h2,h3⟩
 |map t vs q a =>obtain⟨b,rows,es,clock,h1,h2,h3,h4,h5⟩:=hr;exact⟨b,rows,es,clock,by rw[hρ];exact h1,h2,by rw[hW];exact h3,h.env _ _ h4,h5.mono h.agree h.more⟩
theorem Sim.ren(h:Sim w0 F0 E τ ω a W ρ){o:Ob}(hk:ω[k]?=some (some o))(hi:ω[i]?=some none) :
  Sim w0 ⟨F0.F,F0.σ.map (SV.ren k i),F0.η⟩ E (τ.map (SV.ren k i)) (((ω.set k none).set i (some o)).map (Option.map (Ob.ren k i))) a W (upd ρ i (ρ k)):=by
 have hki:k≠i:=λe=>by subst e;rw[hk]at hi;cases hi
 have hlt:=(zY02.1 hi).1;have hget:∀j q,(((ω.set k none).set i (some o)).map (Option.map (Ob.ren k i)))[j]?=some (some q)->∃j0 q0,ω[j0]?=some (some q0)/\j=(if j0=k then i else j0)/\q=q0.ren k i:=by
  intro j q hj;rw[zY0m,zY0t]at hj;obtain⟨q1,hj,hq⟩:=hj;rw[zY0t]at hq;obtain⟨q0,rfl,rfl⟩:=hq;by_cases e:i=j
  ·subst e;rw[zY0f zXi]at hj;simp only[zY00]at hj;exact⟨k,o,hk,by simp,by rw[hj]⟩
  ·rw[zY0j e]at hj;by_cases e':k=j
   ·subst e';rw[zY2e]at hj;simp only[if_true]at hj;split at hj<;>simp at hj
   ·rw[zY0j e']at hj;exact⟨j,q0,hj,by rw[zN (Ne.symm e')],rfl⟩
 have hρ:∀j,live ω j->upd ρ i (ρ k) (if j=k then i else j)=ρ j:=by
  rintro j ⟨q,hq⟩;by_cases e:j=k
  ·rw[zP e,z1g,e]
  ·rw[zN e];exact zgf _ _ λe2=>by subst e2;rw[hi]at hq;cases hq
 have hlive:∀j,live ω j->live (((ω.set k none).set i (some o)).map (Option.map (Ob.ren k i))) (if j=k then i else j):=by
  rintro j ⟨q,hq⟩;by_cases e:j=k
  ·rw[zP e];exact⟨o.ren k i,by rw[zY0m,zY0f zXi];rfl⟩
  ·rw[zN e];have hji:i≠j:=λe2=>by subst e2;rw[hi]at hq;cases hq
   exact⟨q.ren k i,by rw[zY0m,zY0j hji,zY0j (Ne.symm e),hq];rfl⟩
 have hown:∀b,zlh (((ω.set k none).set i (some o)).map (Option.map (Ob.ren k i))) (upd ρ i (ρ k)) b->zlh ω ρ b:=by rintro b ⟨j,q,h1,h2⟩;obtain⟨j0,q0,g1,rfl,rfl⟩:=hget j q h1;rw[hρ j0 ⟨q0,g1⟩,zqy]at h2;exact⟨j0,q0,g1,h2⟩
 have hle:(ctx w0 F0 E ω ρ W).LeR k i (ctx w0 ⟨F0.F,F0.σ.map (SV.ren k i),F0.η⟩ E (((ω.set k none).set i (some o)).map (Option.map (Ob.ren k i))) (upd ρ i (ρ k)) W) :=
  ⟨λ_ _=>rfl,λb hb=>⟨hb.1,λhb'=>hb.2 (hown b hb')⟩,λ_ _ x=>x,λj hj=>⟨hlive j hj,hρ j hj⟩⟩
 refine⟨h.below,h.low,h.held.ren hle,h.defers,by simpa using h.size,λt sv ht=>?_,λj q hq=>?_,λj j' q q' g h1 h2 h3 h4=>?_⟩
 ·rw[zY0m,zY0t]at ht;obtain⟨sv0,ht,rfl⟩:=ht;exact(h.tmps t sv0 ht).ren hle
 ·obtain⟨j0,q0,g1,rfl,rfl⟩:=hget j q hq;exact(h.objs j0 q0 g1).ren hle rfl ⟨q0,g1⟩
 ·obtain⟨j0,q0,g1,rfl,rfl⟩:=hget j q h1;obtain⟨j1,q1,g2,rfl,rfl⟩:=hget j' q' h2;rw[hρ j0 ⟨q0,g1⟩,zqy]at h3;rw[hρ j1 ⟨q1,g2⟩,zqy]at h4;rw[h.dj j0 j1 q0 q1 g g1 g2 h3 h4]
theorem C1Rs.nil_row{c:Ctx}{key z:Nat}(hl:c.L key)(hρ:c.ρ key=.slice none 0 0):∀ {cs:List C1} {vs:List Value} {j:Nat},cs[j]?=some (.at (.c (.nil z)))->C1Rs c cs vs->C1Rs c (cs.set j (.row key)) vs
 |x::cs,v::vs,0,h,hr=>by simp only[zY05,zY00]at h;subst h;have hv:v=.slice none 0 0:=hr.1;exact⟨⟨hl,by rw[hρ];exact hv,by rw[hv];rfl⟩,hr.2⟩
 |x::cs,v::vs,j+1,h,hr=>⟨hr.1,C1Rs.nil_row hl hρ zXt hr.2⟩
 | [],_,j,h,_=>by simp at h
 |_::_,[],_,_,hr=>absurd hr id
theorem z0ck(t:Nat)(cs cs':List C1)(v:Value):own (.box t cs) v=own (.box t cs') v:=by
 cases v with
 |pointer p=>cases p<;>rfl
 |_=>rfl
theorem Sim.redesc(h:Sim w0 F0 E τ ω a W ρ){cs cs':List C1}(hk:ω[k]?=some (some (.box t cs)))(hc:∀vs,C1Rs (ctx w0 F0 E ω ρ W) cs vs->C1Rs (ctx w0 F0 E ω ρ W) cs' vs):Sim w0 F0 E τ (ω.set k (some (.box t cs'))) a W ρ:=by
 have hlt:=(zY02.1 hk).1;have hset:∀(j:Nat) (q:Ob),(ω.set k (some (.box t cs')))[j]?=some (some q)->∃q0:Ob,ω[j]?=some (some q0)/\∀v,own q v=own q0 v:=by
  intro j q hq;by_cases e:k=j
  ·subst e;rw[zY0f hlt]at hq;cases hq;exact⟨_,hk,λv=>z0ck ..⟩
  ·rw[zY0j e]at hq;exact⟨q,hq,λ_=>rfl⟩
 have hlive:∀j,live ω j->live (ω.set k (some (.box t cs'))) j:=by
  rintro j ⟨q,hq⟩;by_cases e:k=j
  ·subst e;exact⟨_,zY0f hlt⟩
  ·exact⟨q,by rw[zY0j e];exact hq⟩
 have hle:(ctx w0 F0 E ω ρ W).Le (ctx w0 F0 E (ω.set k (some (.box t cs'))) ρ W) :=
  ⟨λ_ _=>rfl,λb hb=>⟨hb.1,λ⟨j,q,h1,h2⟩=>hb.2 (let⟨q0,g1,g2⟩:=hset j q h1;⟨j,q0,g1,by rw[<- g2];exact h2⟩)⟩,λ_ _ x=>x,λj hj=>⟨hlive j hj,rfl⟩⟩
 refine⟨h.below,h.low,h.held.mono hle,h.defers,h.size,λt' sv ht=>(h.tmps t' sv ht).mono hle,λj q hq=>?_,λj j' q q' g h1 h2 h3 h4=>?_⟩
 ·by_cases e:k=j
  ·subst e;rw[zY0f hlt]at hq;cases hq;obtain⟨g,vs,h1,h2,h3,h4⟩:=h.objs _ _ hk;exact⟨g,vs,h1,h2,h3,(hc vs h4).mono hle⟩
  ·rw[zY0j e]at hq;exact(h.objs j q hq).mono hle ⟨q,hq⟩ λ_ _=>rfl
 ·obtain⟨q0,g1,g2⟩:=hset j q h1;obtain⟨q1,g3,g4⟩:=hset j' q' h2;rw[g2]at h3;rw[g4]at h4;exact h.dj j j' q0 q1 g g1 g3 h3 h4
def SimP(w0:World)(F:Nat->Prop)(η:List Value)(E:Env)(p:S3)(a:Act)(W:World):Prop:=∃ρ,Sim w0 ⟨F,p.2.2,η⟩ E p.1 p.2.1 a W ρ
variable {F:Nat->Prop} {η:List Value} {p:S3}
theorem SimP.renKey(h:SimP w0 F η E p a W)(k i:Nat):SimP w0 F η E (Proofs.YtmjelcjgllkapaaGreatDoor.renKey k i p) a W:=by
 unfold Proofs.YtmjelcjgllkapaaGreatDoor.renKey;split
 ·rename_i o hk hi;split
  ·exact h
  ·obtain⟨ρ,h⟩:=h;exact⟨_,h.ren hk hi⟩
 ·exact h
theorem SimP.rowKey(h:SimP w0 F η E p a W)(kb i e sz:Nat):SimP w0 F η E (Proofs.YtmjelcjgllkapaaGreatDoor.rowKey kb i e sz p) a W:=by
 unfold Proofs.YtmjelcjgllkapaaGreatDoor.rowKey;split
 ·rename_i z hτ;split
  ·rename_i hω;split
   ·rename_i hz;subst hz;obtain⟨ρ,h⟩:=h;have hlt:=(zY02.1 hω).1;have hv:a.tmps.getD i undef=.slice none 0 0:=h.tmps i _ hτ;have hnew:=h.new (W':=W) hω (Below.refl _ _) (.row e z (.c (.nil z))) (.slice none 0 0) (λb hb=>by simp only[own,Value.ownBlock]at hb;cases hb) (λhle=>⟨[],[],rfl,by simp,by rw[show(ctx w0 ⟨F,p.2.2,η⟩ E (p.2.1.set (kb+i) (some (.row e z (.c (.nil z))))) (upd ρ (kb+i) (.slice none 0 0)) W).ρ (kb+i)=.slice none 0 0 from z1g _ _ _];exact World.ownsRow_nil _ _ _ _,trivial⟩)
    refine⟨_,hnew.set1 i λx hx=>?_⟩;rw[hv];exact⟨⟨_,zY0f hlt⟩,(z1g _ _ _).symm,rfl⟩
   ·exact h
  ·exact h
 ·exact h.renKey _ _
 ·exact h
theorem SimP.cellKey(h:SimP w0 F η E p a W)(k j key:Nat):SimP w0 F η E (Proofs.YtmjelcjgllkapaaGreatDoor.cellKey k j key p) a W:=by
 unfold Proofs.YtmjelcjgllkapaaGreatDoor.cellKey;split
 ·split
  ·exact h.renKey _ _
  ·exact h
 ·exact h
theorem SimP.nilKey(h:SimP w0 F η E p a W)(k j key e sz:Nat):SimP w0 F η E (Proofs.YtmjelcjgllkapaaGreatDoor.nilKey k j key e sz p) a W:=by
 unfold Proofs.YtmjelcjgllkapaaGreatDoor.nilKey;split
 ·rename_i t cs hk;split
  ·rename_i z hj;split
   ·rename_i hω;split
    ·rename_i hz;subst hz;obtain⟨ρ,h⟩:=h;have hlt:=(zY02.1 hω).1;have hkk:key≠k:=λe=>by subst e;rw[hω]at hk;cases hk
     have hnew:=h.new (W':=W) hω (Below.refl _ _) (.row e z (.c (.nil z))) (.slice none 0 0) (λb hb=>by simp only[own,Value.ownBlock]at hb;cases hb) (λhle=>⟨[],[],rfl,by simp,by rw[show(ctx w0 ⟨F,p.2.2,η⟩ E (p.2.1.set key (some (.row e z (.c (.nil z))))) (upd ρ key (.slice none 0 0)) W).ρ key=.slice none 0 0 from z1g _ _ _];exact World.ownsRow_nil _ _ _ _,trivial⟩)
     have hL:live (p.2.1.set key (some (.row e z (.c (.nil z))))) key:=⟨_,zY0f hlt⟩
     exact⟨_,hnew.redesc (t:=t) (cs:=cs) (by rw[zY0j hkk];exact hk) λvs hr=>C1Rs.nil_row (c:=ctx w0 ⟨F,p.2.2,η⟩ E (p.2.1.set key (some (.row e z (.c (.nil z))))) (upd ρ key (.slice none 0 0)) W) hL (z1g ρ key (.slice none 0 0)) hj hr⟩
    ·exact h
   ·exact h
  ·exact h
 ·exact h
theorem SimP.rowKeys(kb:Nat):∀(cy:List Cy) {p:S3},SimP w0 F η E p a W->SimP w0 F η E (Proofs.YtmjelcjgllkapaaGreatDoor.rowKeys kb p cy) a W
 | [],_,h=>h
 |.r i e sz::cs,_,h=>SimP.rowKeys kb cs (h.rowKey kb i e sz)
 |.c k j key::cs,_,h=>SimP.rowKeys kb cs (h.cellKey k j key)
 |.t i::cs,_,h=>SimP.rowKeys kb cs h
 |.o k::cs,_,h=>SimP.rowKeys kb cs h
 |.z k::cs,_,h=>SimP.rowKeys kb cs h
 |.n k j key e sz::cs,_,h=>SimP.rowKeys kb cs (h.nilKey k j key e sz)
theorem SimP.toPool(pool:Nat):∀(ks:List Nat) {p:S3},SimP w0 F η E p a W->SimP w0 F η E (Proofs.YtmjelcjgllkapaaGreatDoor.toPool pool p ks) a W
 | [],_,h=>h
 |k::ks,_,h=>by
  unfold Proofs.YtmjelcjgllkapaaGreatDoor.toPool;split
  ·split
   ·exact SimP.toPool pool ks (h.renKey _ _)
   ·exact SimP.toPool pool ks h
  ·exact SimP.toPool pool ks h
theorem Sim.topAll(h:Sim w0 F0 E τ ω a W ρ):∀(is:List Nat),Sim w0 F0 E (Proofs.YtmjelcjgllkapaaGreatDoor.topAll τ is) ω a W ρ:=by
 intro is;induction is generalizing τ with
 |nil=>exact h
 |cons i is ih=>exact ih (h.top i)
theorem Sim.dropAll(h:Sim w0 F0 E τ ω a W ρ):∀(ks:List Nat),Sim w0 F0 E τ (Proofs.YtmjelcjgllkapaaGreatDoor.dropAll τ ω F0.σ ks) a W ρ:=by
 intro ks;induction ks generalizing ω with
 |nil=>exact h
 |cons k ks ih =>
  unfold Proofs.YtmjelcjgllkapaaGreatDoor.dropAll;split
  ·split
   ·rename_i hn;exact ih (h.drop hn)
   ·exact ih h
  ·exact ih h
theorem SimP.norm{s:St}(h:SimP w0 F η E (s.τ,s.ω,s.σ) a W)(ds:List Nat)(cy:List Cy):SimP w0 F η E (normS ds cy s) a W:=by obtain⟨ρ,h⟩:=h;exact SimP.rowKeys s.kb cy ⟨ρ,(h.topAll ((ds.filter λd => !(cyT cy).contains d)++cyZ cy)).dropAll (List.range s.ω.length)⟩
theorem zed{dv:List Dt}{E0:Env}(hp:Pre E0 E)(hn:E0.length=n)(hv:vals E as0=some dv){x:Atom}(hx:inA (n+as0.length) x=true){d:Dt}(hd:(sbA n as0 x).val E=some d):x.val (E0++dv)=some d:=by
 have hl:=zea hv;cases x with
 |c l=>exact hd
 |v j =>
  simp only[inA,decide_eq_true_eq]at hx;have e0:sbA n as0 (.v j)=if j<n then .v j else as0.getD (j-n) (.v j):=rfl
  rw[e0]at hd;split at hd
  ·rename_i hj;obtain⟨D,rfl⟩:=hp;have hd':(E0++D)[j]?=some d:=hd;show(E0++dv)[j]?=some d;rw[zY0l zX0]at hd' ⊢;exact hd'
  ·rename_i hj;show(E0++dv)[j]?=some d;rw[zY0q zX0,hn];have hlt:j-n<as0.length:=zX0;have hget:∀(as0:List Atom) (dv:List Dt) (i:Nat) (hi:i<as0.length),vals E as0=some dv->as0[i].val E=dv[i]?:=by
    intro as0;induction as0 with
    |nil=>intro dv i hi;simp at hi
    |cons a as0 ih =>
     intro dv i hi hv;simp only[vals,zY0a,zY01,zY1e,zY00]at hv;obtain⟨d0,h1,ds',h2,rfl⟩:=hv;cases i with
     |zero=>simpa using h1
     |succ i=>simpa using ih ds' i zXw h2
   rw[<- hget as0 dv (j-n) hlt hv];have e1:as0.getD (j-n) (.v j)=as0[j-n]:=by simp[zY0r,hlt]
   rw[e1]at hd;exact hd
theorem z05v{dv:List Dt}{E0:Env}(hp:Pre E0 E)(hn:E0.length=n)(hv:vals E as0=some dv){x:Atom}(hx:inA (n+as0.length) x=true){m:Int}(hd:asI ((sbA n as0 x).val E)=some m):asI (x.val (E0++dv))=some m:=by rw[zed hp hn hv hx (z2z hd)];rfl
theorem zoq(n:Nat)(as0:List Atom)(o:Ob)(v:Value):own (sbO n as0 o) v=own o v:=by
 cases o with
 |box t cs=>cases v with
  |pointer p=>cases p<;>rfl
  |_=>rfl
 |map t vs q a=>cases v with
  |map p=>cases p<;>rfl
  |_=>rfl
 |_=>rfl
theorem Sim.gens{dv:List Dt}{E0:Env}{σ σ':List SV}(hp:Pre E0 E)(hn:E0.length=n)(hv:vals E as0=some dv)(hs:sameS n as0 σ τ ω τ' ω' σ'=true)(h:Sim w0 ⟨F,σ',η⟩ E τ' ω' a W ρ):Sim w0 ⟨F,σ,η⟩ (E0++dv) τ ω a W ρ:=by
 simp only[sameS,zY0e,decide_eq_true_eq]at hs;obtain⟨⟨⟨⟨⟨⟨s5,s3⟩,s4⟩,s1⟩,s2⟩,rfl⟩,rfl⟩:=hs;subst s5;have hown:∀b,zlh (ω.map (Option.map (sbO n as0))) ρ b↔zlh ω ρ b:=by
  intro b;constructor
  ·rintro⟨k,o,h1,h2⟩;rw[zY0m,zY0t]at h1;obtain⟨q,h1,h3⟩:=h1;rw[zY0t]at h3;obtain⟨o',rfl,rfl⟩:=h3;exact⟨k,o',h1,by rw[zoq]at h2;exact h2⟩
  ·rintro⟨k,o,h1,h2⟩;exact⟨k,sbO n as0 o,by rw[zY0m,h1];rfl,by rw[zoq];exact h2⟩
 have hF:∀b,Frr w0 ⟨F,σ',η⟩ (ω.map (Option.map (sbO n as0))) ρ W b->Frr w0 ⟨F,σ',η⟩ ω ρ W b:=λb hb=>⟨hb.1,λhb'=>hb.2 ((hown b).2 hb')⟩
 have hL:∀k,live (ω.map (Option.map (sbO n as0))) k->live ω k:=by rintro k ⟨o,h1⟩;rw[zY0m,zY0t]at h1;obtain⟨q,h1,h3⟩:=h1;rw[zY0t]at h3;obtain⟨o',rfl,rfl⟩:=h3;exact⟨o',h1⟩
 have hC:∀(x:C1) (v:Value),inC (n+as0.length) x=true->C1R (ctx w0 ⟨F,σ',η⟩ E (ω.map (Option.map (sbO n as0))) ρ W) (sbC n as0 x) v->C1R (ctx w0 ⟨F,σ',η⟩ (E0++dv) ω ρ W) x v:=by
  intro x v hx hr;have hcap:∀ {ps:List (Nat×Nat)} {us:List Value},CapRs (ctx w0 ⟨F,σ',η⟩ E (ω.map (Option.map (sbO n as0))) ρ W) ps us->CapRs (ctx w0 ⟨F,σ',η⟩ (E0++dv) ω ρ W) ps us:=by
   intro ps;induction ps with
   |nil=>intro us h;cases us<;>exact h
   |cons p ps ih=>intro us h;cases us with
    |nil=>exact h
    |cons u us=>exact⟨⟨hL _ h.1.1,h.1.2⟩,ih h.2⟩
  cases x with
  |top=>trivial
  |und=>exact hr
  | «at» y =>obtain⟨d,h1,h2⟩:=C1R.at_ hr;refine C1R.of_at (λz e=>?_) ⟨d,zed hp hn hv hx h1,h2.mono (λ_ _=>rfl) hF⟩;subst e;exact hr
  |bp k off=>exact⟨hL _ hr.1,hr.2⟩
  |ep y i off =>simp only[inC,zY0e]at hx;obtain⟨sz,xs,m,b,o,q,vs,h1,h2,h3,h4,h5,h6,h7,h8⟩:=hr;exact⟨sz,xs,m,b,o,q,vs,zed hp hn hv hx.1 h1,z05v hp hn hv hx.2 h2,h3,h4,h5,h6,hF _ h7,λj d hd=>⟨(h8 j d hd).1,(h8 j d hd).2.mono (λ_ _=>rfl) hF⟩⟩
  |row k=>exact⟨hL _ hr.1,hr.2⟩
  |rp k i sz off =>obtain⟨h1,m,g,len,cap,h2,h3⟩:=hr;exact⟨hL _ h1,m,g,len,cap,z05v hp hn hv hx h2,h3⟩
  |fn f caps=>exact let⟨vs,h1,h2⟩:=hr;⟨vs,h1,hcap h2⟩
 have hCs:∀(xs:List C1) (vs:List Value),xs.all (inC (n+as0.length))=true->C1Rs (ctx w0 ⟨F,σ',η⟩ E (ω.map (Option.map (sbO n as0))) ρ W) (xs.map (sbC n as0)) vs->C1Rs (ctx w0 ⟨F,σ',η⟩ (E0++dv) ω ρ W) xs vs:=by
  intro xs;induction xs with
  |nil=>intro vs _ h;cases vs<;>exact h
  |cons x xs ih=>intro vs hx h;cases vs with
   |nil=>exact h
   |cons v vs =>simp only[zY3x,zY0e]at hx;exact⟨hC x v hx.1 h.1,ih vs hx.2 h.2⟩
 have hV:∀(x:SV) (v:Value),inV (n+as0.length) x=true->SVR (ctx w0 ⟨F,σ',η⟩ E (ω.map (Option.map (sbO n as0))) ρ W) (sbV n as0 x) v->SVR (ctx w0 ⟨F,σ',η⟩ (E0++dv) ω ρ W) x v:=by
  intro x v hx hr;cases x with
  |one x=>exact hC x v hx hr
  |agg cs=>exact let⟨us,h1,h2⟩:=hr;⟨us,h1,hCs cs us hx h2⟩
  |tup ps =>
   obtain⟨us,h1,h2⟩:=hr;refine⟨us,h1,?_⟩;simp only[inV]at hx;clear h1;induction ps generalizing us with
   |nil=>cases us<;>exact h2
   |cons p ps ih=>cases us with
    |nil=>exact h2
    |cons u us =>
     simp only[zY3x,zY0e]at hx;refine⟨?_,ih hx.2 us h2.2⟩;have h3:=h2.1;unfold PR at h3⊢;simp only at h3;split at h3
     ·rename_i hpp;obtain⟨vs,g1,g2⟩:=h3;rw[zP hpp];exact⟨vs,g1,hCs _ _ hx.1 g2⟩
     ·rename_i hpp;obtain⟨x,g1,g2⟩:=h3;rw[zN hpp]
      match hq:p.2,g1,hx.1 with
      | [y],g1,hx1 =>simp only[zY1n,zY2o,zY22,and_true]at g1;subst g1;simp only[zY3x,List.all_nil,Bool.and_true]at hx1;exact⟨y,rfl,hC y u hx1 g2⟩
      | [],g1,_=>simp at g1
      |_::_::_,g1,_=>simp at g1
 have hheld:∀(xs:List SV) (vs:List Value),xs.all (inV (n+as0.length))=true->SVRs (ctx w0 ⟨F,σ',η⟩ E (ω.map (Option.map (sbO n as0))) ρ W) (xs.map (sbV n as0)) vs->SVRs (ctx w0 ⟨F,σ',η⟩ (E0++dv) ω ρ W) xs vs:=by
  intro xs;induction xs with
  |nil=>intro vs _ h;cases vs<;>exact h
  |cons x xs ih=>intro vs hx h;cases vs with
   |nil=>exact h
   |cons v vs =>simp only[zY3x,zY0e]at hx;exact⟨hV x v hx.1 h.1,ih vs hx.2 h.2⟩
 refine⟨h.below,h.low,hheld _ _ s3 (by rw[s4];exact h.held),h.defers,by simpa using h.size,λt sv ht=>?_,λk o ho=>?_,λk k' o o' g h1 h2 h3 h4=>?_⟩
 ·exact hV sv _ (zY1j.1 s1 sv (zY06 ht)) (h.tmps t _ (by rw[zY0m,ht];rfl))
 ·have ho':=h.objs k (sbO n as0 o) (by rw[zY0m,ho];rfl);have hin:=zY1j.1 s2 _ (zY06 ho);simp only at hin;cases o with
  |box t cs =>obtain⟨g,vs,h1,h2,h3,h4⟩:=ho';exact⟨g,vs,h1,h2,h3,hCs _ _ hin h4⟩
  |ext cs =>obtain⟨g,o,vs,h1,h2,h3,h4⟩:=ho';exact⟨g,o,vs,h1,hF _ h2,h3,hCs _ _ hin h4⟩
  |row e sz x =>obtain⟨xs,vs,h1,h2,h3,h4⟩:=ho';exact⟨xs,vs,zed hp hn hv hin h1,h2,h3,h4.mono (λ_ _=>rfl) hF⟩
  |frz x =>obtain⟨d,h1,h2⟩:=ho';exact⟨d,zed hp hn hv hin h1,h2.mono (λ_ _=>rfl) hF⟩
  |dead=>trivial
  |gone x =>obtain⟨sz,xs,A,cap,h1,h2,h3⟩:=ho';exact⟨sz,xs,A,cap,zed hp hn hv hin h1,h2,h3⟩
  |map t vs q x =>obtain⟨b,rows,es,clock,h1,h2,h3,h4,h5⟩:=ho';exact⟨b,rows,es,clock,h1,h2,h3,zed hp hn hv hin h4,h5.mono (λ_ _=>rfl) hF⟩
 ·exact h.dj k k' _ _ g (by rw[zY0m,h1];rfl) (by rw[zY0m,h2];rfl) (by rw[zoq];exact h3) (by rw[zoq];exact h4)
end
theorem zsv{c:Ctx}:∀ {ps:List (Nat×Nat)} {vs:List Value},CapRs c ps vs->ps.length=vs.length
 | [],[],_=>rfl
 |_::_,_::_,h=>congrArg (· + 1) (zsv h.2)
theorem zsw{c:Ctx}:∀ {ps:List (Nat×Nat)} {vs:List Value},CapRs c ps vs->∀(j:Nat) (p:Nat×Nat) (u:Value),ps[j]?=some p->vs[j]?=some u->CapR c p u
 |_::_,_::_,h,0,p,u,hp,hu=>by simp only[zY05,zY00]at hp hu;subst hp;subst hu;exact h.1
 |_::_,_::_,h,j+1,p,u,hp,hu=>zsw h.2 j p u (by simpa using hp) zXy
theorem zjj{P:Program}{fn:Func}{c:Code}(hf:P.funcs[f]?=some fn)(hname:(fn.name == "runtime.NumGoroutine")=false)(hb:fn.body=some c)(args:Array Value)(w:World):(callFunc f args).run P w = .ok (.enter f args) w:=by
 have h1:fn.name ≠ "runtime.NumGoroutine" := by simpa using hname
 simp[callFunc,hf,h1,hb]
theorem z05w{P:Program}{c:Code}(I:Nat->Act->World->Prop)(round:∀n a w,I n a w->c.wp P (Exit.then (λa' w'=>∃m,m<n/\I m a' w') Q) a w)(h0:I n a w):(Code.loop c).wp P Q a w:=by
 intro b k cs;have key:∀n a w,I n a w->∃e a' w',Q e a' w'/\Arrives P (lone (b.at a (.code c :: .inLoop c::k)) cs w) b k cs e a' w':=by
  intro n;induction n using Nat.strongRecOn with
  |_ n ih =>
   intro a w hI;obtain⟨e,a₁,w₁,hq,harr⟩:=round n a w hI b (.inLoop c::k) cs;cases e with
   |normal =>obtain⟨m,hlt,hI₁⟩:=hq;obtain⟨e₂,a₂,w₂,hq₂,harr₂⟩:=ih m hlt a₁ w₁ hI₁;exact⟨e₂,a₂,w₂,hq₂,.of_steps (Steps.trans harr (.one step_inLoop)) harr₂⟩
   |exit id=>exact⟨_,a₁,w₁,hq,.pass (x:=.inLoop c) rfl (λ_ _=>.inl zX4) harr⟩
   |goto l=>exact⟨_,a₁,w₁,hq,.pass (x:=.inLoop c) rfl (λ_ _=>.inl zX4) harr⟩
   |ret=>exact⟨_,a₁,w₁,hq,.pass (x:=.inLoop c) rfl (λ_ _=>.inl zX4) harr⟩
   |panic ch=>exact⟨_,a₁,w₁,hq,.pass (x:=.inLoop c) rfl (λ_ _=>.inl zX4) harr⟩
   |outgrown=>exact⟨_,a₁,w₁,hq,.pass (x:=.inLoop c) rfl (λ_ _=>.inl zX4) harr⟩
 obtain⟨e,a',w',hq,harr⟩:=key n a w h0;exact⟨e,a',w',hq,.of_steps (.one step_loop) harr⟩
abbrev Ks:=List (List Dt->Option (List Dt))
def KPre(k k':Ks):Prop:=∃D,k'=k++D
theorem KPre.trans{a b c:Ks}(h:KPre a b)(k:KPre b c):KPre a c:=by obtain⟨D,rfl⟩:=h;obtain⟨D',rfl⟩:=k;exact⟨D++D',by simp⟩
def ExM:Ex->Exit->Prop
 |.normal,.normal=>True
 |.exit i,.exit j=>i=j
 |.ret,.ret=>True
 |_,_=>False
structure Inv(w0:World)(F:Nat->Prop)(η:List Value)(E:Env)(ks:Ks)(s:St)(a:Act)(W:World):Prop where
 len:E.length=s.n
 kn:KnOk E s.kn
 lvl:s.lvl=ks.length
 sim:SimP w0 F η E (s.τ,s.ω,s.σ) a W
def Post(w0:World)(F:Nat->Prop)(η:List Value)(sp:Nat->zd)(N:Nat)(res:List Dt)(kb:Nat)(k:Ex->St->Option T)(E:Env)(ks:Ks)(e:Exit)(a:Act)(W:World):Prop :=
 ∃x s' t' E' ks',ExM x e/\k x s'=some t'/\den sp N t' E' ks'=some res/\Pre E E'/\KPre ks ks'/\s'.kb=kb/\Inv w0 F η E' ks' s' a W
section
variable {P:Program} {w0:World} {F:Nat->Prop} {η:List Value} {sp:Nat->zd} {N:Nat} {res:List Dt} {fx:Fx} {kb:Nat}
theorem Post.mono{k:Ex->St->Option T}{E E1:Env}{ks ks1:Ks}(hE:Pre E E1)(hk:KPre ks ks1){e:Exit}(h:Post w0 F η sp N res kb k E1 ks1 e a W):Post w0 F η sp N res kb k E ks e a W:=by obtain⟨x,s',t',E',ks',h1,h2,h3,h4,h5,h6,h7⟩:=h;exact⟨x,s',t',E',ks',h1,h2,h3,hE.trans h4,hk.trans h5,h6,h7⟩
def PostK(w0:World)(F:Nat->Prop)(η:List Value)(sp:Nat->zd)(N:Nat)(res:List Dt)(kb:Nat)(k:St->Option T)(E:Env)(ks:Ks)(a:Act)(W:World):Prop :=
 ∃s' t' E' ks',k s'=some t'/\den sp N t' E' ks'=some res/\Pre E E'/\KPre ks ks'/\s'.kb=kb/\Inv w0 F η E' ks' s' a W
def zor(P:Program)(w0:World)(F:Nat->Prop)(sp:Nat->zd)(N:Nat)(res:List Dt)(inl:Inl)(fx:Fx):Prop :=
 ∀(η:List Value) (g:FnI) (vs:List SV) (us:List Value) (o:Oper) (s:St) (k:St->Option T) (t:T) (E:Env) (ks:Ks) (a:Act) (W:World),g∈fx.fns->inl fx g vs o s k=some t->den sp N t E ks=some res->Inv w0 F η E ks s a W ->
  (∀ρ,Sim w0 ⟨F,s.σ,η⟩ E s.τ s.ω a W ρ->us.length=vs.length/\∀(j:Nat) (sv:SV) (u:Value),vs[j]?=some sv->us[j]?=some u->SVR (ctx w0 ⟨F,s.σ,η⟩ E s.ω ρ W) sv u) ->
  Calls P g.f us.toArray W λe W'=>∃v,e=.returned v/\PostK w0 F η sp N res s.kb k E ks (a.put o.dst v) W'
theorem z09m{cx:Cx}{s:St}{k:St->Rec->Option T}{t:T}{E:Env}{ks:Ks}(hr:regDo cx nt ops o s k=some t)(hd:den sp N t E ks=some res)(hn:E.length=s.n) :
  ∃(ds:List Dt) (e:Eff) (r:Rec) (t':T),(zt cx s.kb s.n nt s.kn o).run s.τ s.ω=some e/\k { s with τ:=(wr s.τ s.ω e.ws).1,ω:=(wr s.τ s.ω e.ws).2,n:=s.n+e.xs.length,kn:=zqr cx s.n e.xs s.kn } r=some t'/\den sp N t' (E++ds) ks=some res/\ds.length=e.xs.length/\Facts sp (E++ds) s.n e:=by
 unfold regDo at hr;simp only at hr;split at hr
 ·cases hr
 ·rename_i eff hrun;split at hr
  ·cases hr
  ·rename_i t2 ht2;injection hr with hr;subst hr;obtain⟨ds,l1,l2,l3⟩:=z01s hd;exact⟨ds,eff,_,t2,hrun,ht2,l2,l1,hn▸l3⟩
theorem z0c1{s:St}{k:St->Rec->Option T}{t:T}{E:Env}{ks:Ks}(hty:∀t i,fx.cx.ti t=some i->TyOk P t i)(hsig:∀ci f s,fx.cx.sigs[ci]?=some (f,s)->Meets P (sp ci) f s)
  (hr:regDo fx.cx nt ops o s k=some t) (hd:den sp N t E ks=some res) (hi:Inv w0 F η E ks s a W) {K:Act->World->Prop}
  (hK:∀a' W' r,PostK w0 F η sp N res s.kb (λs=>k s r) E ks a' W'->K a' W'):o.wp P a W K Q:=by
 obtain⟨ds,e,r,t',h1,h2,h3,h4,h5⟩:=z09m hr hd hi.len;obtain⟨ρ,hs⟩:=hi.sim;have hp:Pre E (E++ds):=⟨ds,rfl⟩
 refine Oper.wp_mono (λa' W' ⟨ρ',hg⟩=>hK a' W' r ⟨_,t',E++ds,ks,h2,h3,hp,⟨[],by simp⟩,rfl,⟨by simp[hi.len,h4],z01k (hp.kn hi.kn) h5,hi.lvl,ρ',hg⟩⟩) (z0bz (hs.env λx d hx=>hp.val hx) h1 h5 (hp.kn hi.kn) hty hsig)
theorem z09n{us caps:List Value}{fx:Operand}(ho:o.op=.call c)(hc:c.callee=.value fx)(hf:a.eval fx=.func (.func f) #[] caps.toArray)(hus:(c.args.map a.eval).toList=us)
  (hen:(callFunc f (us++caps).toArray).run P W=.ok (.enter f (us++caps).toArray) W) (hcall:Calls P f (us++caps).toArray W λe W'=>∃v,e=.returned v/\K (a.put o.dst v) W'):o.wp P a W K Q :=
 zgj (R:=λv W'=>K (a.put o.dst v) W') ho hc hf hus (.inl ⟨hen,hcall⟩) λ_ _ h=>h
theorem z05x{l:List FnI}{g:FnI}(h:ze7 f l=some g):g∈l/\g.f=f:=by
 induction l with
 |nil=>cases h
 |cons x l ih =>
  unfold ze7 at h;split at h
  ·injection h with h;subst h;exact⟨zY0i ..,‹_›⟩
  ·exact⟨zY0h _ (ih h).1,(ih h).2⟩
def zee(P:Program)(g:FnI):Prop:=∃fn,P.funcs[g.f]?=some fn/\(fn.name == "runtime.NumGoroutine")=false/\fn.body=some g.body/\fn.ntmps=g.nt/\fn.results.toList=g.results
theorem z05y{inl:Inl}{g:FnI}{vs:List SV}{s:St}{k:St->Option T}{t:T}{E:Env}{ks:Ks}(hinl:zor P w0 F sp N res inl fx)(hfn:∀g∈fx.fns,zee P g)(ho:inlOf fx s o=some (g,vs))(hr:inl fx g vs o s k=some t)(hd:den sp N t E ks=some res)(hi:Inv w0 F η E ks s a W)
  (hK:∀a' W',PostK w0 F η sp N res s.kb k E ks a' W'->K a' W'):o.wp P a W K Q:=by
 unfold inlOf at ho;split at ho
 ·rename_i c hop;split at ho
  ·rename_i fx' hcl;split at ho
   ·rename_i f caps hcf;split at ho
    ·rename_i g' hg;split at ho
     ·rename_i vs0 hvs;simp only[zY00,zY19]at ho;obtain⟨rfl,rfl⟩:=ho;obtain⟨hmem,hgf⟩:=z05x hg;obtain⟨ρ0,hs0⟩:=hi.sim;obtain⟨cus,hcv,hcaps0⟩:=z35 hs0 hcf;obtain⟨fn,f1,f2,f3,f4,f5⟩:=hfn g' hmem;have hargs:∀ρ,Sim w0 ⟨F,s.σ,η⟩ E s.τ s.ω a W ρ->((c.args.map a.eval).toList++cus).length=(vs0++caps.map λp=>SV.one (.bp p.1 p.2)).length/\∀(j:Nat) (sv:SV) (u:Value),(vs0++caps.map λp=>SV.one (.bp p.1 p.2))[j]?=some sv->((c.args.map a.eval).toList++cus)[j]?=some u->SVR (ctx w0 ⟨F,s.σ,η⟩ E s.ω ρ W) sv u:=by
       intro ρ hs;obtain⟨cus',hcv',hcaps⟩:=z35 hs hcf;rw[hcv]at hcv';simp only[Value.func.injEq,true_and]at hcv';have hcc:cus=cus':=by have:=congrArg Array.toList hcv';simpa using this
       subst hcc;obtain⟨hvl,hvj⟩:=zf7 hs hvs;have hcl':caps.length=cus.length:=zsv hcaps;have hcj:∀(j:Nat) (p:Nat×Nat) (u:Value),caps[j]?=some p->cus[j]?=some u->CapR (ctx w0 ⟨F,s.σ,η⟩ E s.ω ρ W) p u:=zsw hcaps;refine⟨by simp[hvl,hcl'],λj sv u h1 h2=>?_⟩;have hll:(c.args.map a.eval).toList.length=vs0.length:=by simp[hvl]
       by_cases hj:j<vs0.length
       ·rw[zY0l hj]at h1;rw[zY0l zX0,zY3p,zY0m,zY0t]at h2;obtain⟨x,hx,rfl⟩:=h2;exact hvj j sv x h1 hx
       ·rw[zY0q zX0,zY0m,zY0t]at h1;obtain⟨p,hp,rfl⟩:=h1;rw[zY0q zX0,hll]at h2;exact hcj _ p u hp h2
      have hcall:=hinl η g' _ _ o s k t E ks a W hmem hr hd hi hargs;rw[hgf]at hcall f1;exact z09n hop hcl hcv rfl (zjj f1 f2 f3 _ _) (hcall.mono λe W' ⟨v,he,hP⟩=>⟨v,he,hK _ _ hP⟩)
     ·cases ho
    ·cases ho
   ·cases ho
  ·cases ho
 ·cases ho
end
section
variable {P:Program} {w0 W:World} {F0:Bk} {E:Env} {τ:List SV} {ω:List (Option Ob)} {a:Act} {ρ:Nat->Value} {cx:Cx} {sp:Nat->zd}
theorem zhk(h:Sim w0 F0 E τ ω a W ρ)(hty:∀t i,cx.ti t=some i->TyOk P t i):∀ {rs:List ResultVar} {vs:List SV},(z8w cx rs).run τ ω=some vs ->
  ∃us:List Value,(rs.mapM fun
   |.tmp t=>pure (a.tmps.getD t undef)
   |.cell x t=>do loadVar t (<- asAddr (a.tmps.getD x undef)):Sem (List Value)).run P W=.ok us W/\us.length=vs.length/\∀(j:Nat) (sv:SV) (u:Value),vs[j]?=some sv->us[j]?=some u->SVR (ctx w0 F0 E ω ρ W) sv u
 | [],vs,hr=>by simp only[z8w,run_pure,zY00]at hr;subst hr;exact⟨[],by simp,rfl,by simp⟩
 |.tmp t::rs,vs,hr=>by
  simp only[z8w,run_bind,zvl,run_pure,zY01,zY00]at hr;obtain⟨sv,h1,vs',h2,rfl⟩:=hr;obtain⟨us,k1,k2,k3⟩:=zhk h hty h2;refine⟨a.tmps.getD t undef::us,?_,by simp[k2],λj sv' u hs hu=>?_⟩
  ·simp only[List.mapM_cons,Sem.run_bind,Sem.run_pure,Result.andThen_ok,k1]
  ·cases j with
   |zero=>simp only[zY05,zY00]at hs hu;subst hs;subst hu;exact h.tmps t _ h1
   |succ j=>exact k3 j sv' u zX1f zXy
 |.cell x t::rs,vs,hr=>by
  simp only[z8w,run_bind,z0l,zvl,zY01]at hr;obtain⟨ti,hti,sx,hx,hr⟩:=hr;cases sx with
  |one c =>
   cases c with
   |bp k off =>
    simp only[run_bind,z2y,zY01]at hr;obtain⟨ob,hob,hr⟩:=hr;split at hr
    ·rename_i t' cs;simp only[run_ite]at hr;split at hr
     ·rename_i hle;simp only[run_bind,run_pure,zY01,zY00]at hr;obtain⟨sv,hsv,vs',h2,rfl⟩:=hr;obtain⟨us,k1,k2,k3⟩:=zhk h hty h2;obtain⟨g,ws,b1,b2,b3,b4⟩:=h.objs k _ hob;obtain⟨_,g',q,hρ,hv⟩:=h.tmps x _ hx;simp only[ctx]at hρ b1 b3;rw[b1]at hρ;simp only[Value.pointer.injEq,zY00,Addr.mk.injEq]at hρ;obtain⟨rfl,rfl,_⟩:=hρ;have hlen:=b4.len;obtain⟨v,hv',hs⟩:=zbt (hty t ti hti) (us:=(ws.drop off).take ti.n) (by rw[zY0d,zY0w];omega) (zdi (zjc b3)) (b4.part off ti.n) hsv;refine⟨v::us,?_,by simp[k2],λj sv' u hs' hu=>?_⟩
      ·have has:(asAddr (Value.pointer (some ⟨g,0+off,none⟩))).run P W=.ok ⟨g,0+off,none⟩ W:=rfl;simp only[List.mapM_cons,hv,Sem.run_bind,has,Sem.run_pure,Result.andThen_ok,hv',k1]
      ·cases j with
       |zero=>simp only[zY05,zY00]at hs' hu;subst hs';subst hu;exact hs
       |succ j=>exact k3 j sv' u (by simpa using hs') zXy
     ·cases hr
    ·cases hr
   |_=>cases hr
  |_=>cases hr
end
section
variable {P:Program} {w0:World} {F:Nat->Prop} {η:List Value} {sp:Nat->zd} {N:Nat} {res:List Dt} {fx:Fx} {kb:Nat}
theorem PostK.mono{k:St->Option T}{E E1:Env}{ks ks1:Ks}(hE:Pre E E1)(hk:KPre ks ks1){a:Act}{W:World}(h:PostK w0 F η sp N res kb k E1 ks1 a W):PostK w0 F η sp N res kb k E ks a W:=by obtain⟨s',t',E',ks',h2,h3,h4,h5,h6,h7⟩:=h;exact⟨s',t',E',ks',h2,h3,hE.trans h4,hk.trans h5,h6,h7⟩
theorem KPre.refl(k:Ks):KPre k k:=⟨[],by simp⟩
theorem z05z{Q:Exit->Act->World->Prop}{inl:Inl}{ops:Array Oper}{k:St->Option T}(hty:∀t i,fx.cx.ti t=some i->TyOk P t i)(hsig:∀ci f s,fx.cx.sigs[ci]?=some (f,s)->Meets P (sp ci) f s)(hfn:∀g∈fx.fns,zee P g)(hinl:zor P w0 F sp N res inl fx):∀ {todo:List Oper} {s:St} {t:T} {E:Env} {ks:Ks} {a:Act} {W:World},
  seqRun inl fx ops.toList todo s k=some t->den sp N t E ks=some res->Inv w0 F η E ks s a W->(∀a' W',PostK w0 F η sp N res s.kb k E ks a' W'->Q .normal a' W')->wpList P ops Q todo a W
 | [],s,t,E,ks,a,W,hr,hd,hi,hQ=>hQ a W ⟨s,t,E,ks,hr,hd,Pre.refl _,KPre.refl _,rfl,hi⟩
 |o::rest,s,t,E,ks,a,W,hr,hd,hi,hQ=>by
  have next:∀(s1:St) a' W',s1.kb=s.kb->PostK w0 F η sp N res s1.kb (λs=>seqRun inl fx ops.toList rest s k) E ks a' W'->wpList P ops Q rest a' W':=by intro s1 a' W' hkb ⟨s',t',E',ks',h1,h2,h3,h4,h5,h6⟩;refine z05z hty hsig hfn hinl h1 h2 h6 λa2 W2 hp=>hQ a2 W2 ?_;rw[h5,hkb]at hp;exact hp.mono h3 h4
  have doit:∀(s1:St) (t1:T),s1.kb=s.kb->s1.τ=s.τ->Inv w0 F η E ks s1 a W->z9g E ops.toList s.τ o true->(match inlOf fx s1 o with
   |some (g,vs)=>inl fx g vs o s1 λs=>seqRun inl fx ops.toList rest s k
   |none=>regDo fx.cx fx.nt ops.toList o s1 λs _=>seqRun inl fx ops.toList rest s k)=some t1->den sp N t1 E ks=some res->wpList P ops Q (o::rest) a W:=by
   intro s1 t1 hkb hτ hi1 hg hgo hd1;obtain⟨ρ,hs⟩:=hi1.sim;have hw:Region.wanted o (yielded ops a.tmps)=true:=hs.wanted (ops:=ops) (by rw[<- hτ]at hg;exact hg);unfold wpList;rw[hw];simp only[if_true];refine .inl ?_;split at hgo
   ·rename_i g vs ho;exact z05y hinl hfn ho hgo hd1 hi1 λa' W' hp=>next s1 a' W' hkb hp
   ·exact z0c1 hty hsig hgo hd1 hi1 λa' W' r hp=>next s1 a' W' hkb hp
  have skipit:∀(s1:St) (t1:T),s1.kb=s.kb->s1.τ=s.τ->Inv w0 F η E ks s1 a W->z9g E ops.toList s.τ o false->regSkip ops.toList o s1 (λs _=>seqRun inl fx ops.toList rest s k)=some t1->den sp N t1 E ks=some res->wpList P ops Q (o::rest) a W:=by
   intro s1 t1 hkb hτ hi1 hg hgo hd1;obtain⟨ρ,hs⟩:=hi1.sim;have hw:Region.wanted o (yielded ops a.tmps)=false:=hs.wanted (ops:=ops) (by rw[<- hτ]at hg;exact hg);unfold wpList;rw[hw];simp only[zY0x,if_false];unfold regSkip at hgo;simp only at hgo;refine next s1 _ _ hkb ⟨_,t1,E,ks,hgo,hd1,Pre.refl _,KPre.refl _,rfl,⟨hi1.len,hi1.kn,hi1.lvl,ρ,?_⟩⟩
   exact hs.dst o (sv:=.one .und) (v:=undef) rfl
  obtain⟨g1,g2,g3⟩:=zop (ops:=ops.toList) (o:=o) hi.kn;unfold seqRun at hr;simp only at hr;split at hr
  ·rename_i hg;exact doit s t rfl rfl hi (g1 hg) hr hd
  ·rename_i hg;exact skipit s t rfl rfl hi (g2 hg) hr hd
  ·rename_i v hg;obtain⟨j,w,hgd,g4⟩:=g3 v hg;rw[hgd]at hr;simp only at hr;split at hr
   ·rename_i t1 e1 ht1 he1;injection hr with hr;have learnI:∀b,E[v]?=some (.b b)->Inv w0 F η E ks (learn s v b) a W:=by intro b hb;exact⟨hi.len,zmz hi.kn hb,hi.lvl,hi.sim⟩
    cases w with
    |true =>
     simp only[if_true]at hr;subst hr;simp only[den]at hd;split at hd
     ·rename_i b hb;have hb':E[v]?=some (.b b):=hb;cases b with
      |true=>simp only[if_true]at hd;exact doit (learn s v true) t1 rfl rfl (learnI true hb') (g4 true hb') ht1 hd
      |false=>simp only[zY0x,if_false]at hd;exact skipit (learn s v false) e1 rfl rfl (learnI false hb') (g4 false hb') he1 hd
     ·cases hd
    |false =>
     simp only[zY0x,if_false]at hr;subst hr;simp only[den]at hd;split at hd
     ·rename_i b hb;have hb':E[v]?=some (.b b):=hb;cases b with
      |true=>simp only[if_true]at hd;exact skipit (learn s v true) e1 rfl rfl (learnI true hb') (g4 true hb') he1 hd
      |false=>simp only[zY0x,if_false]at hd;exact doit (learn s v false) t1 rfl rfl (learnI false hb') (g4 false hb') ht1 hd
     ·cases hd
   ·cases hr
  ·cases hr
theorem zzf{F0:Bk}{E:Env}{cx:Cx}{ops:Array Oper}(hm:off+n<ops.size)(hty:∀t i,cx.ti t=some i->TyOk P t i)(hsig:∀ci f s,cx.sigs[ci]?=some (f,s)->Meets P (sp ci) f s){τ:List SV}{ω:List (Option Ob)}(ht:Tr cx kb nt ops.toList sp E ((ops.toList.drop off).take n) τ ω rs)
  (hback:zdf 0 ops.toList=true) (hind:zam (z4z ops.toList []) off rs=true) (hanc:allB (off+n) ((z4z ops.toList []).getD (off+n) [])=true) (hafter:∀j,off+n<j->j<ops.size->off+n∈(z4z ops.toList []).getD j [])
  (hlast:∀a W ρ,Sim w0 F0 E (wr τ ω (z0k (λ_=>true) 0 rs)).1 (wr τ ω (z0k (λ_=>true) 0 rs)).2 a W ρ->wpOp P ops Q (off+n) (λa' W'=>∀(fuel:Nat) (listed:Array Bool),listed.size=ops.size->((List.range ops.size).filter (λj => !listed.getD j true)).length=fuel->(∀j,listed.getD j false=decide (j<=off+n))->wpAny P .any ops Q fuel listed a' W') a W) :
  ∀(fuel:Nat) (listed:Array Bool) {a:Act} {W:World} {ρ:Nat->Value},listed.size=ops.size->((List.range ops.size).filter (λj => !listed.getD j true)).length=fuel->listed.getD (off+n) false=false->(∀j,j<off->listed.getD j false=true) ->
  (∀i,listed.getD i false=true->∀k∈(z4z ops.toList []).getD i [],listed.getD k false=true)->Sim w0 F0 E (wr τ ω (z0k (λi=>listed.getD (off+i) false) 0 rs)).1 (wr τ ω (z0k (λi=>listed.getD (off+i) false) 0 rs)).2 a W ρ->wpAny P .any ops Q fuel listed a W:=by
 have hlen:rs.length=n:=by rw[ht.len];simp;omega
 have hFT:∀(listed:Array Bool) (i:Nat),listed.size=ops.size->i<ops.size->listed.getD i true=listed.getD i false:=by intro listed i hsz hi;have hlt:i<listed.size:=zX0;rw[zY0s,zY0s,zY14 hlt];rfl
 have hmust:∀(listed:Array Bool),listed.size=ops.size->listed.getD (off+n) false=false->Region.ready .any ops listed≠[]:=by
  intro listed hsz hmf hnil;have hall:∀i,i<ops.size->listed.getD i false=true:=by
   intro i;induction i using Nat.strongRecOn with
   |_ i ih =>
    intro hi;cases hL:listed.getD i false with
    |true=>rfl
    |false =>
     exfalso;have hmem:i∈Region.ready .any ops listed:=by
      unfold Region.ready;rw[zY3w];refine⟨zY2i.2 hi,?_⟩;rw[hFT listed i hsz hi,hL,zY14 hi];simp only[Bool.not_false,zY39,zY1i,zY1f];rw[zY3g];intro e he;cases hb:Region.binds .any e with
      |false=>rfl
      |true =>have hlt:=zhj hback i ops[i] (by simp[hi]) e zX1h hb;simp only[zY3e,zY38];exact ih e.on zX0 zX0
     rw[hnil]at hmem;cases hmem
  rw[hall (off+n) zX0]at hmf;cases hmf
 intro fuel;induction fuel with
 |zero =>intro listed a W ρ hsz hcount hmf hpre hcl hs;exfalso;have h0:=zY0c hcount;rw[List.filter_eq_nil_iff]at h0;have:=h0 (off+n) (zY2i.2 zX0);rw[hFT listed (off+n) hsz zX0,hmf]at this;exact this rfl
 |succ fuel ih =>
  intro listed a W ρ hsz hcount hmf hpre hcl hs;refine⟨λhnil=>absurd hnil (hmust listed hsz hmf),λi hi=>?_⟩;unfold Region.ready at hi;rw[zY3w]at hi;obtain⟨hi1,hi2⟩:=hi;have hi1:=zY2i.1 hi1;have hiL:i<listed.size:=zX0;rw[zY0e]at hi2;obtain⟨hi2,hi3⟩:=hi2;have hLt:listed.getD i true=false:=by simpa using hi2
  have hL:listed.getD i false=false:=by rw[<- hFT listed i hsz hi1];exact hLt
  have hro:ops[i]?=some ops[i]:=zY14 hi1;rw[hro]at hi3;simp only[zY1i,zY1f]at hi3;rw[zY3g]at hi3;have hanc':∀k∈(z4z ops.toList []).getD i [],listed.getD k false=true:=by
   intro k hk;obtain⟨e,he,hb,hk⟩:=(zlk ops.toList []).2 i ops[i] (by simp[hi1]) k (by simpa using hk);have:=hi3 e zX1h;rw[hb]at this;simp only[zY3e,zY38]at this;rcases hk with rfl|hk
   ·exact this
   ·exact hcl _ this k hk
  by_cases him:i=off+n
  ·subst him;have hall:∀j,j<off+n->listed.getD j false=true:=λj hj=>hanc' j (by have:=zY1j.1 hanc j (zY2i.2 hj);exact zY2c.1 this)
   rw[zaq (L:=λi=>listed.getD (off+i) false) (L':=λ_=>true) rs 0 (λj hj=>by rw[zY0z];exact hall _ zX0)]at hs
   have hsetF:∀j,(listed.setIfInBounds (off+n) true).getD j false=(listed.getD j false||decide (j=off+n)):=by
    intro j;simp only[zY0s,zY20];by_cases hji:off+n=j
    ·subst hji;simp[hiL]
    ·simp[hji,Ne.symm hji]
   refine wpOp_mono (λa' W' hq=>hq fuel _ (by simpa using hsz) ?_ λj=>?_) (hlast a W ρ hs)
   ·have hc:=zji (n:=ops.size) (λj=>listed.getD j true) (λj=>(listed.setIfInBounds (off+n) true).getD j true) (off+n) hi1 hLt (λj=>by
     simp only[zY0s,zY20];by_cases hji:off+n=j
     ·subst hji;simp[hiL]
     ·simp[hji,Ne.symm hji])
    omega
   ·rw[hsetF];rcases Nat.lt_trichotomy j (off+n)with h|h|h
    ·rw[hall j h];simp;omega
    ·simp[h]
    ·have:listed.getD j false=false:=by
      cases hj:listed.getD j false with
      |false=>rfl
      |true =>
       exfalso;by_cases hjs:j<ops.size
       ·have:=hcl j hj _ (hafter j h hjs);rw[hL]at this;cases this
       ·rw[zY0s,zY18 zX0]at hj;cases hj
     rw[this];simp;omega
  ·have him2:i<off+n:=by
    rcases zY1w i (off+n)with h|h
    ·exact h
    ·have:=hanc' (off+n) (hafter i zX0 hi1);rw[hmf]at this;cases this
   have hoi:off<=i:=by
    rcases zY1w i off with h|h
    ·have:=hpre i h;rw[hL]at this;cases this
    ·exact h
   obtain⟨k,rfl⟩:∃k,i=off+k:=⟨i-off,by omega⟩
   have hri:k<rs.length:=zX0;have hanc:=hanc';have hr:rs[k]?=some rs[k]:=zY03 hri;have hrec:=ht.at_ 0 (i:=k) (o:=ops[off+k]) (r:=rs[k]) (by rw[zY17,zP zX0,zY1p];simp[hi1]) hr;have hlog:∀l∈rs[k].log,LocEq (wr τ ω (z0k (λ_=>true) 0 (rs.take k))).1 (wr τ ω (z0k (λi=>listed.getD (off+i) false) 0 rs)).1 (wr τ ω (z0k (λ_=>true) 0 (rs.take k))).2 (wr τ ω (z0k (λi=>listed.getD (off+i) false) 0 rs)).2 l:=by
    intro l hl;have hti:(rs.take k).length=k:=by rw[zY0d];omega
    have e2:z0k (λi=>listed.getD (off+i) false) 0 rs=z0k (λi=>listed.getD (off+i) false) 0 (rs.take k)++z0k (λi=>listed.getD (off+i) false) k (rs.drop k):=by
     conv=>lhs;rw[<- zY10 k rs]
     rw[z9i,hti,zY0z]
    rw[e2,z1f];refine(zw0 (L:=λi=>listed.getD (off+i) false) (rs.take k) 0 τ ω λj q hq hLj w hw e=>?_).trans (zap _ _ _ λw hw e=>?_).symm
    ·have hj:j<k:=by have:=(zY02.1 hq).1;omega
     rw[zY17,zP hj]at hq;have hLj:listed.getD (off+j) false=false:=by simpa using hLj
     rcases z9z hind j k q rs[k] hj hq hr with h1|h1
     ·rw[hanc _ h1]at hLj;cases hLj
     ·simp only[zal,zY0e]at h1;exact ze0 h1.1.1 _ (zY26 hw) (e▸hl)
    ·obtain⟨j,q,h1,h2,h3⟩:=zhi hw;rw[zY1p]at h1;have hne:j≠0:=by rintro rfl;simp only[zY28]at h2;rw[hL]at h2;cases h2
     rcases z9z hind k (k+j) rs[k] q zX0 hr h1 with h4|h4
     ·have:=hcl _ h2 _ h4;rw[hL]at this;cases this
     ·simp only[zal,zY0e]at h4;exact ze0 h4.2 _ hl (e▸zY26 h3)
   have hL':∀j,(listed.setIfInBounds (off+k) true).getD j false=(listed.getD j false||decide (j=off+k)):=by
    intro j;simp only[zY0s,zY20];by_cases hji:off+k=j
    ·subst hji;simp[hiL]
    ·simp[hji,Ne.symm hji]
   unfold wpOp;rw[hro];refine z05t hs (hrec.move hlog) hty hsig λa' W' ⟨ρ',hg⟩=>?_;refine ih _ (by simpa using hsz) ?_ (by rw[hL' (off+n),hmf];simp;omega) (λj hj=>by rw[hL',hpre j hj];rfl) ?_ (ρ:=ρ') ?_
   ·have hc:=zji (n:=ops.size) (λj=>listed.getD j true) (λj=>(listed.setIfInBounds (off+k) true).getD j true) (off+k) hi1 hLt (λj=>by
     simp only[zY0s,zY20];by_cases hji:off+k=j
     ·subst hji;simp[hiL]
     ·simp[hji,Ne.symm hji])
    omega
   ·intro j hj k hk;rw[hL']at hj⊢;rw[zY3d,decide_eq_true_eq]at hj⊢;rcases hj with hj|rfl
    ·exact .inl (hcl j hj k hk)
    ·exact .inl (hanc k hk)
   ·rw[zw1 (L:=λi=>listed.getD (off+i) false) (L':=λi=>(listed.setIfInBounds (off+k) true).getD (off+i) false) hr hL (λj=>by rw[hL'];congr 1;rw[decide_eq_decide];omega) (λj q hij hq hLj x hx y hy=>?_)]
    ·exact hg
    ·rcases z9z hind k j rs[k] q hij hr hq with h4|h4
     ·have:=hcl _ hLj _ h4;rw[hL]at this;cases this
     ·simp only[zal,zY0e]at h4;intro e;exact ze0 h4.1.2 _ (zY26 hx) (e▸zY26 hy)
theorem zzg{F0:Bk}{E:Env}{cx:Cx}{kb:Nat}{ops:Array Oper}(hoff:off<=ops.size)(hty:∀t i,cx.ti t=some i->TyOk P t i)(hsig:∀ci f s,cx.sigs[ci]?=some (f,s)->Meets P (sp ci) f s){τ:List SV}{ω:List (Option Ob)}(ht:Tr cx kb nt ops.toList sp E (ops.toList.drop off) τ ω rs)
  (hback:zdf 0 ops.toList=true) (hind:zam (z4z ops.toList []) off rs=true) (hQ:∀a' W' ρ',Sim w0 F0 E (wr τ ω (z0k (λ_=>true) 0 rs)).1 (wr τ ω (z0k (λ_=>true) 0 rs)).2 a' W' ρ'->Q .normal a' W') :
  ∀(fuel:Nat) (listed:Array Bool) {a:Act} {W:World} {ρ:Nat->Value},listed.size=ops.size->((List.range ops.size).filter (λj => !listed.getD j true)).length=fuel->(∀j,j<off->listed.getD j false=true) ->
  (∀i,listed.getD i false=true->∀k∈(z4z ops.toList []).getD i [],listed.getD k false=true)->Sim w0 F0 E (wr τ ω (z0k (λi=>listed.getD (off+i) false) 0 rs)).1 (wr τ ω (z0k (λi=>listed.getD (off+i) false) 0 rs)).2 a W ρ->wpAny P .any ops Q fuel listed a W:=by
 have hlen:rs.length=ops.size-off:=by rw[ht.len];simp
 have hdone:∀(listed:Array Bool) {a:Act} {W:World} {ρ:Nat->Value},listed.size=ops.size->Region.ready .any ops listed=[]->Sim w0 F0 E (wr τ ω (z0k (λi=>listed.getD (off+i) false) 0 rs)).1 (wr τ ω (z0k (λi=>listed.getD (off+i) false) 0 rs)).2 a W ρ->Q .normal a W:=by
  intro listed a W ρ hsz hnil hs;have hall:∀i,i<ops.size->listed.getD i false=true:=by
   intro i;induction i using Nat.strongRecOn with
   |_ i ih =>
    intro hi;cases hL:listed.getD i false with
    |true=>rfl
    |false =>
     exfalso;have hmem:i∈Region.ready .any ops listed:=by
      unfold Region.ready;rw[zY3w];refine⟨zY2i.2 hi,?_⟩;have hL':listed.getD i true=false:=by have hlt:i<listed.size:=zX0;rw[zY0s,zY14 hlt]at hL⊢;exact hL
      rw[hL',zY14 hi];simp only[Bool.not_false,zY39,zY1i,zY1f];rw[zY3g];intro e he;cases hb:Region.binds .any e with
      |false=>rfl
      |true =>have hlt:=zhj hback i ops[i] (by simp[hi]) e zX1h hb;simp only[zY3e,zY38];exact ih e.on zX0 zX0
     rw[hnil]at hmem;cases hmem
  refine hQ a W ρ ?_;rw[zaq (L:=λi=>listed.getD (off+i) false) (L':=λ_=>true) rs 0 (λi hi=>by rw[zY0z];exact hall _ zX0)]at hs
  exact hs
 intro fuel;induction fuel with
 |zero =>
  intro listed a W ρ hsz hcount hpre hcl hs;have hnil:Region.ready .any ops listed=[]:=by unfold Region.ready;rw[List.filter_eq_nil_iff];intro i hi;have h0:=zY0c hcount;rw[List.filter_eq_nil_iff]at h0;have:=h0 i hi;simp only[zY2u,zY2v]at this;rw[this];simp
  exact⟨hnil,hdone listed hsz hnil hs⟩
 |succ fuel ih =>
  intro listed a W ρ hsz hcount hpre hcl hs;refine⟨λhnil=>hdone listed hsz hnil hs,λi hi=>?_⟩;unfold Region.ready at hi;rw[zY3w]at hi;obtain⟨hi1,hi2⟩:=hi;have hi1:=zY2i.1 hi1;have hiL:i<listed.size:=zX0;rw[zY0e]at hi2;obtain⟨hi2,hi3⟩:=hi2;have hLt:listed.getD i true=false:=by simpa using hi2
  have hL:listed.getD i false=false:=by rw[zY0s,zY14 hiL]at hLt⊢;exact hLt
  have hoi:off<=i:=by
   rcases zY1w i off with h|h
   ·have:=hpre i h;rw[hL]at this;cases this
   ·exact h
  obtain⟨n,rfl⟩:∃n,i=off+n:=⟨i-off,by omega⟩
  have hri:n<rs.length:=zX0;have hro:ops[off+n]?=some ops[off+n]:=zY14 hi1;rw[hro]at hi3;simp only[zY1i,zY1f]at hi3;rw[zY3g]at hi3;have hanc:∀k∈(z4z ops.toList []).getD (off+n) [],listed.getD k false=true:=by
   intro k hk;obtain⟨e,he,hb,hk⟩:=(zlk ops.toList []).2 (off+n) ops[off+n] (by simp[hi1]) k (by simpa using hk);have:=hi3 e zX1h;rw[hb]at this;simp only[zY3e,zY38]at this;rcases hk with rfl|hk
   ·exact this
   ·exact hcl _ this k hk
  have hr:rs[n]?=some rs[n]:=zY03 hri;have hrec:=ht.at_ 0 (i:=n) (o:=ops[off+n]) (r:=rs[n]) (by rw[zY1p];simp[hi1]) hr;have hlog:∀l∈rs[n].log,LocEq (wr τ ω (z0k (λ_=>true) 0 (rs.take n))).1 (wr τ ω (z0k (λi=>listed.getD (off+i) false) 0 rs)).1 (wr τ ω (z0k (λ_=>true) 0 (rs.take n))).2 (wr τ ω (z0k (λi=>listed.getD (off+i) false) 0 rs)).2 l:=by
   intro l hl;have hti:(rs.take n).length=n:=by rw[zY0d];omega
   have e2:z0k (λi=>listed.getD (off+i) false) 0 rs=z0k (λi=>listed.getD (off+i) false) 0 (rs.take n)++z0k (λi=>listed.getD (off+i) false) n (rs.drop n):=by
    conv=>lhs;rw[<- zY10 n rs]
    rw[z9i,hti,zY0z]
   rw[e2,z1f];refine(zw0 (L:=λi=>listed.getD (off+i) false) (rs.take n) 0 τ ω λj q hq hLj w hw e=>?_).trans (zap _ _ _ λw hw e=>?_).symm
   ·have hj:j<n:=by have:=(zY02.1 hq).1;omega
    rw[zY17,zP hj]at hq;have hLj:listed.getD (off+j) false=false:=by simpa using hLj
    rcases z9z hind j n q rs[n] hj hq hr with h1|h1
    ·rw[hanc _ h1]at hLj;cases hLj
    ·simp only[zal,zY0e]at h1;exact ze0 h1.1.1 _ (zY26 hw) (e▸hl)
   ·obtain⟨j,q,h1,h2,h3⟩:=zhi hw;rw[zY1p]at h1;have hne:j≠0:=by rintro rfl;simp only[zY28]at h2;rw[hL]at h2;cases h2
    rcases z9z hind n (n+j) rs[n] q zX0 hr h1 with h4|h4
    ·have:=hcl _ h2 _ h4;rw[hL]at this;cases this
    ·simp only[zal,zY0e]at h4;exact ze0 h4.2 _ hl (e▸zY26 h3)
  have hL':∀j,(listed.setIfInBounds (off+n) true).getD j false=(listed.getD j false||decide (j=off+n)):=by
   intro j;simp only[zY0s,zY20];by_cases hji:off+n=j
   ·subst hji;simp[hiL]
   ·simp[hji,Ne.symm hji]
  unfold wpOp;rw[hro];refine z05t hs (hrec.move hlog) hty hsig λa' W' ⟨ρ',hg⟩=>?_;refine ih _ (by simpa using hsz) ?_ (λj hj=>by rw[hL',hpre j hj];rfl) ?_ (ρ:=ρ') ?_
  ·have hc:=zji (n:=ops.size) (λj=>listed.getD j true) (λj=>(listed.setIfInBounds (off+n) true).getD j true) (off+n) hi1 hLt (λj=>by
    simp only[zY0s,zY20];by_cases hji:off+n=j
    ·subst hji;simp[hiL]
    ·simp[hji,Ne.symm hji])
   omega
  ·intro j hj k hk;rw[hL']at hj⊢;rw[zY3d,decide_eq_true_eq]at hj⊢;rcases hj with hj|rfl
   ·exact .inl (hcl j hj k hk)
   ·exact .inl (hanc k hk)
  ·rw[zw1 (L:=λi=>listed.getD (off+i) false) (L':=λi=>(listed.setIfInBounds (off+n) true).getD (off+i) false) hr hL (λj=>by rw[hL'];congr 1;rw[decide_eq_decide];omega) (λj q hij hq hLj x hx y hy=>?_)]
   ·exact hg
   ·rcases z9z hind n j rs[n] q hij hr hq with h4|h4
    ·have:=hcl _ hLj _ h4;rw[hL]at this;cases this
    ·simp only[zal,zY0e]at h4;intro e;exact ze0 h4.1.2 _ (zY26 hx) (e▸zY26 hy)
theorem z0cl(ops:Array Oper)(rs:List Rec):((List.range ops.size).filter (λj => !(Array.replicate ops.size false).getD j true)).length=ops.size/\(∀i,(Array.replicate ops.size false).getD i false=false)/\z0k (λi=>(Array.replicate ops.size false).getD i false) 0 rs=[]:=by
 have hf:∀i,(Array.replicate ops.size false).getD i false=false:=by intro i;simp only[zY0s,Array.getElem?_replicate];split<;>simp
 refine⟨?_,hf,?_⟩
 ·have:(List.range ops.size).filter (λj => !(Array.replicate ops.size false).getD j true)=List.range ops.size:=by rw[List.filter_eq_self];intro j hj;have:=zY2i.1 hj;simp[zY0s,this]
  rw[this];simp
 ·have:∀(rs:List Rec) (j:Nat),z0k (λi=>(Array.replicate ops.size false).getD i false) j rs=[]:=by
   intro rs;induction rs with
   |nil=>intro j;rfl
   |cons r rs ih=>intro j;rw[z0k,ih,hf];rfl
  exact this rs 0
theorem z0cm{ops:Array Oper}(hback:zdf 0 ops.toList=true):∀j,j<ops.size->∀q∈(z4z ops.toList []).getD j [],q<j:=by
 intro j;induction j using Nat.strongRecOn with
 |_ j ih =>
  intro hjl q hq;obtain⟨e,he,hb,hk⟩:=(zlk ops.toList []).2 j ops[j] (by simp[hjl]) q (by simpa using hq);have hej:=zhj hback j ops[j] (by simp[hjl]) e he hb;rw[zY0z]at hej;rcases hk with rfl|hk
  ·exact hej
  ·exact Nat.lt_trans (ih e.on hej zX0 q hk) hej
theorem zsx{L:Nat->Bool}(h:∀j,L j=false):∀(rs:List Rec) (j:Nat),z0k L j rs=[]
 | [],_=>rfl
 |r::rs,j=>by rw[z0k,zsx h rs,h];rfl
theorem z0f5{inl:Inl}{ops:Array Oper}{k:St->Option T}(hinl:zor P w0 F sp N res inl fx)(hfn:∀g∈fx.fns,zee P g)(hty:∀t i,fx.cx.ti t=some i->TyOk P t i)(hsig:∀ci f s,fx.cx.sigs[ci]?=some (f,s)->Meets P (sp ci) f s)(hback:zdf 0 ops.toList=true) :
  ∀(m off:Nat) (hoff:off<=ops.size) {s:St} {t:T} {E:Env} {ks:Ks} {a:Act} {W:World},segRun inl fx ops.toList (z4z ops.toList []) m off s k=some t->den sp N t E ks=some res->Inv w0 F η E ks s a W->(∀a' W',PostK w0 F η sp N res s.kb k E ks a' W'->Q .normal a' W') ->
  ∀(fuel:Nat) (listed:Array Bool),listed.size=ops.size->((List.range ops.size).filter (λj => !listed.getD j true)).length=fuel->(∀j,listed.getD j false=decide (j<off))->wpAny P .any ops Q fuel listed a W:=by
 intro m;induction m with
 |zero=>intro off hoff s t E ks a W hx;cases hx
 |succ m ih =>
  intro off hoff s t E ks a W hx hd hi fin fuel listed hz hc hl;have hcl:∀i,listed.getD i false=true->∀q∈(z4z ops.toList []).getD i [],listed.getD q false=true:=by intro j hj q hq;rw[hl]at hj⊢;have hj:=of_decide_eq_true hj;have:=z0cm hback j zX0 q hq;simp;omega
  have hnone:∀rs,z0k (λj=>listed.getD (off+j) false) 0 rs=[]:=λrs=>zsx (λj=>by rw[hl];simp) rs 0;rw[segRun]at hx;obtain⟨ρ,hs⟩:=hi.sim;cases hsp:ze8 fx.fns (z4z ops.toList []) ops.toList.length (ops.toList.drop off) off with
  |none =>
   rw[hsp]at hx;simp only at hx;obtain⟨E',s',rs,t',h1,h2,h3,h4,h5,h6,hkb,hσ,h7,h8⟩:=zc8 (rs0:=[]) hx hd hi.len hi.kn;have hs':=hs.env (λx d hx=>h3.val hx);simp only[zY16]at h1;split at h1
   ·rename_i hind;refine zzg (off:=off) (F0:=⟨F,s.σ,η⟩) hoff hty hsig h7 hback hind (λa' W' ρ' hh=>?_) fuel listed hz hc (λj hj=>by rw[hl];simp;omega) hcl (ρ:=ρ) (by rw[hnone];exact hs');rw[<- h8]at hh;exact fin a' W' ⟨s',t',E',ks,h1,h2,h3,KPre.refl _,hkb,h4,h5,h6.trans hi.lvl,ρ',by rw[hσ];exact hh⟩
   ·cases h1
  |some i =>
   rw[hsp]at hx;simp only at hx;split at hx
   ·rename_i o' hoi;split at hx
    ·rename_i hcond;simp only[zY0e,Option.isNone_iff_eq_none,zvk]at hcond;obtain⟨⟨⟨hanc,haft⟩,hgd⟩,hoi2⟩:=hcond;have hoi2:=Nat.le_of_ble_eq_true hoi2;obtain⟨n,rfl⟩:∃n,i=off+n:=⟨i-off,by omega⟩
     have hil:off+n<ops.size:=by have:=(zY02.1 hoi).1;simpa using this
     have hafter:∀j,off+n<j->j<ops.size->off+n∈(z4z ops.toList []).getD j []:=λj h1 h2=>by
      have:=zY1j.1 haft j (zY2i.2 (by simpa using h2));rw[zY3d]at this;rcases this with h|h
      ·have:=of_decide_eq_true h;omega
      ·exact zY2c.1 h
     rw[show off+n-off=n by omega]at hx;obtain⟨E',s',rs,t',h1,h2,h3,h4,h5,h6,hkb,hσ,h7,h8⟩:=zc8 (rs0:=[]) hx hd hi.len hi.kn;have hs':=hs.env (λx d hx=>h3.val hx);simp only[zY16]at h1;split at h1
     ·rename_i hind;refine zzf (off:=off) (n:=n) (F0:=⟨F,s.σ,η⟩) hil hty hsig h7 hback hind hanc hafter (λa' W' ρ' hh=>?_) fuel listed hz hc (by rw[hl];simp) (λj hj=>by rw[hl];simp;omega) hcl (ρ:=ρ) (by rw[hnone];exact hs');rw[<- h8]at hh;have hi':Inv w0 F η E' ks s' a' W':=⟨h4,h5,h6.trans hi.lvl,ρ',by rw[hσ];exact hh⟩
      have hget:ops[off+n]?=some o':=by simpa using hoi
      unfold wpOp;rw[hget];simp only[Region.wanted,hgd,if_true];refine .inl ?_;have next:∀a2 W2,PostK w0 F η sp N res s'.kb (λs2=>segRun inl fx ops.toList (z4z ops.toList []) m (off+n+1) s2 k) E' ks a2 W2->∀(fuel:Nat) (listed:Array Bool),listed.size=ops.size->((List.range ops.size).filter (λj => !listed.getD j true)).length=fuel->(∀j,listed.getD j false=decide (j<=off+n))->wpAny P .any ops Q fuel listed a2 W2:=by rintro a2 W2 ⟨s2,t2,E2,ks2,g1,g2,g3,g4,g5,g6⟩ fuel listed hz hc hl;refine ih (off+n+1) zX0 g1 g2 g6 (λa3 W3 hp=>fin a3 W3 ?_) fuel listed hz hc (λj=>by rw[hl,decide_eq_decide];omega);rw[g5,hkb]at hp;exact hp.mono (h3.trans g3) g4
      split at h1
      ·rename_i g vs ho;exact z05y hinl hfn ho h1 h2 hi' next
      ·exact z0c1 hty hsig h1 h2 hi' λa2 W2 r hp=>next a2 W2 hp
     ·cases h1
    ·cases hx
   ·cases hx
theorem z01t{inl:Inl}(hm:P.follows .mixedOrders=true)(hfn:∀g∈fx.fns,zee P g)(hinl:zor P w0 F sp N res inl fx)(hty:∀t i,fx.cx.ti t=some i->TyOk P t i)(hsig:∀ci f s,fx.cx.sigs[ci]?=some (f,s)->Meets P (sp ci) f s):∀(c:Code) {s:St} {k:Ex->St->Option T} {t:T} {E:Env} {ks:Ks} {a:Act} {W:World},
  exec inl fx c s k=some t->den sp N t E ks=some res->Inv w0 F η E ks s a W->c.wp P (Post w0 F η sp N res s.kb k E ks) a W:=by
 intro c;induction c with
 |skip =>intro s k t E ks a W hx hd hi;exact wp_skip ⟨.normal,s,t,E,ks,trivial,hx,hd,Pre.refl _,KPre.refl _,rfl,hi⟩
 |label l =>intro s k t E ks a W hx hd hi;exact wp_label ⟨.normal,s,t,E,ks,trivial,hx,hd,Pre.refl _,KPre.refl _,rfl,hi⟩
 |exit id =>intro s k t E ks a W hx hd hi;exact wp_exit ⟨.exit id,s,t,E,ks,rfl,hx,hd,Pre.refl _,KPre.refl _,rfl,hi⟩
 |ret =>intro s k t E ks a W hx hd hi;exact wp_ret ⟨.ret,s,t,E,ks,trivial,hx,hd,Pre.refl _,KPre.refl _,rfl,hi⟩
 |region id ops draw =>
  intro s k t E ks a W hx hd hi;have fin:∀a' W',PostK w0 F η sp N res s.kb (λs'=>k .normal s') E ks a' W'->Post w0 F η sp N res s.kb k E ks .normal a' W':=λa' W' ⟨s',t',E',ks',g1,g2,g3,g4,g5,g6⟩=>⟨.normal,s',t',E',ks',trivial,g1,g2,g3,g4,g5,g6⟩
  unfold exec at hx;cases draw with
  |false =>simp only[if_true]at hx;exact wp_region_list (z05z hty hsig hfn hinl hx hd hi fin)
  |true =>
   simp only[Bool.true_eq_false,if_false]at hx;split at hx
   ·cases hx
   rename_i hback;simp only[zY2v]at hback;refine wp_region_any hm ?_;obtain⟨ρ,hs⟩:=hi.sim;obtain⟨l1,l2,l3⟩:=z0cl ops [];exact z0f5 hinl hfn hty hsig hback 40 0 (Nat.zero_le _) hx hd ⟨hi.len,hi.kn,hi.lvl,ρ,hs.drew⟩ fin _ _ zX4 l1 (λj=>by rw[l2];simp)
 |seq x y ihx ihy =>
  intro s k t E ks a W hx hd hi;unfold exec at hx;refine wp_seq (wp_mono (ihx hx hd hi) λe a' W' ⟨q,s',t',E',ks',h1,h2,h3,h4,h5,hkb,h6⟩=>?_);cases q with
  |normal =>
   cases e with
   |normal=>exact wp_mono (ihy h2 h3 h6) λe a W hp=>(hkb▸hp).mono h4 h5
   |_=>exact False.elim h1
  |exit i =>
   cases e with
   |exit j=>exact⟨.exit i,s',t',E',ks',h1,h2,h3,h4,h5,hkb,h6⟩
   |_=>exact False.elim h1
  |ret =>
   cases e with
   |ret=>exact⟨.ret,s',t',E',ks',h1,h2,h3,h4,h5,hkb,h6⟩
   |_=>exact False.elim h1
 |block id b ih =>
  intro s k t E ks a W hx hd hi;unfold exec at hx;refine wp_block (wp_mono (ih hx hd hi) λe a' W' ⟨q,s',t',E',ks',h1,h2,h3,h4,h5,hkb,h6⟩=>?_);cases q with
  |normal =>
   cases e with
   |normal=>exact⟨.normal,s',t',E',ks',trivial,h2,h3,h4,h5,hkb,h6⟩
   |_=>exact False.elim h1
  |exit i =>
   cases e with
   |exit j =>
    have h1:i=j:=h1;subst h1;simp only[Exit.inBlock];simp only at h2;split at h2
    ·rename_i hid;rw[zP hid];exact⟨.normal,s',t',E',ks',trivial,h2,h3,h4,h5,hkb,h6⟩
    ·rename_i hid;rw[zN hid];exact⟨.exit i,s',t',E',ks',rfl,h2,h3,h4,h5,hkb,h6⟩
   |_=>exact False.elim h1
  |ret =>
   cases e with
   |ret=>exact⟨.ret,s',t',E',ks',trivial,h2,h3,h4,h5,hkb,h6⟩
   |_=>exact False.elim h1
 |cond c x y ihx ihy =>
  intro s k t E ks a W hx hd hi;unfold exec at hx;obtain⟨ρ,hs⟩:=hi.sim;split at hx
  ·cases hx
  ·rename_i ca hca;obtain⟨d,hda,hrep⟩:=z36 hs hca;split at hx
   ·rename_i hb;rw[zgg hi.kn hb]at hda;injection hda with hda;subst hda;exact wp_cond_true (z82 hrep) (ihx hx hd hi)
   ·rename_i hb;rw[zgg hi.kn hb]at hda;injection hda with hda;subst hda;exact wp_cond_false (z82 hrep) (ihy hx hd hi)
   ·split at hx
    ·rename_i v hnone;split at hx
     ·rename_i tt te h1 h2;injection hx with hx;subst hx;simp only[den]at hd;split at hd
      ·rename_i b hb;rw[hb]at hda;injection hda with hda;subst hda;have hl:∀b',b'=b->KnOk E (learn s v b').kn:=by rintro b' rfl;exact zmz hi.kn hb
       cases b with
       |true=>simp only[if_true]at hd;exact wp_cond_true (z82 hrep) (ihx (s:=learn s v true) h1 hd ⟨hi.len,hl true rfl,hi.lvl,ρ,hs⟩)
       |false=>simp only[zY0x,if_false]at hd;exact wp_cond_false (z82 hrep) (ihy (s:=learn s v false) h2 hd ⟨hi.len,hl false rfl,hi.lvl,ρ,hs⟩)
      ·cases hd
     ·cases hx
    ·cases hx
 |loop b ih =>
  intro s k t E ks a W hx hd hi;unfold exec at hx;simp only at hx;split at hx
  ·rename_i hsame;split at hx
   ·rename_i tb htb;injection hx with hx;subst hx;simp only[den]at hd;split at hd
    ·rename_i dv hdv;obtain⟨ρ1,hs1⟩:=hi.sim.norm (z19 b) (z06 b fx.hints);have hs2:=Sim.gens (Pre.refl E) hi.len hdv hsame hs1;have hl:=zea hdv;generalize hp0:normS (z19 b) (z06 b fx.hints) s=p0 at *;generalize hg0:gen s.kb s.n p0.1 p0.2.1 (z06 b fx.hints)=g0 at *;refine z05w (λM a W=>∃dv ρ,dv.length=dv.length/\dv.length=g0.2.length/\z04 (λagain ds=>den sp N tb (E++ds) (ks++[again])) M dv=some res/\Sim w0 ⟨F,p0.2.2,η⟩ (E++dv) g0.1.1 g0.1.2 a W ρ) (λM a W hI=>?_) (n:=N) ⟨dv,ρ1,rfl,hl,hd,hs2⟩;obtain⟨dv,ρ2,_,hl2,hit,hs3⟩:=hI;cases M with
     |zero=>cases hit
     |succ M =>
      simp only[z04]at hit;have hpre:Pre E (E++dv):=⟨dv,rfl⟩
      refine wp_mono (ih htb hit ⟨by simp[hi.len,hl2],hpre.kn hi.kn,by simp[hi.lvl],ρ2,hs3⟩) λe a' W' ⟨q,s',t',E',ks',h1,h2,h3,h4,h5,hkb,h6⟩=>?_;have hkp:KPre ks ks':=by obtain⟨D,rfl⟩:=h5;exact⟨[_]++D,by rw[zY1a]⟩
      cases q with
      |normal =>
       cases e with
       |normal =>
        simp only at h2;split at h2
        ·rename_i hcond;injection h2 with h2;subst h2;simp only[den]at h3;split at h3
         ·rename_i kk dv' hkk hdv';obtain⟨D,hD⟩:=h5;have:ks'[s.lvl]?=some (z04 (λagain ds=>den sp N tb (E++ds) (ks++[again])) M):=by rw[hD,zY0l (by simp[hi.lvl]),hi.lvl];simp
          rw[this]at hkk;injection hkk with hkk;subst hkk;obtain⟨ρ4,hs5⟩:=h6.sim.norm (z19 b) (z06 b fx.hints);have hs6:=Sim.gens (hpre.trans h4) hi.len hdv' hcond.2.2 hs5;exact⟨M,zY29 _,dv',ρ4,rfl,(zea hdv').trans hcond.2.1,h3,hs6⟩
         ·cases h3
        ·cases h2
       |_=>exact False.elim h1
      |exit i =>
       cases e with
       |exit j=>exact⟨.exit i,s',t',E',ks',h1,h2,h3,hpre.trans h4,hkp,hkb,h6⟩
       |_=>exact False.elim h1
      |ret =>
       cases e with
       |ret=>exact⟨.ret,s',t',E',ks',trivial,h2,h3,hpre.trans h4,hkp,hkb,h6⟩
       |_=>exact False.elim h1
    ·cases hd
   ·cases hx
  ·cases hx
 |_=>intro s k t E ks a W hx hd hi;cases hx
theorem zos{c:Ctx}:∀ {svs:List SV} {ps:List (Bool×List C1)},zdy svs=some ps->∀ {us:List Value},us.length=svs.length->(∀(j:Nat) (sv:SV) (u:Value),svs[j]?=some sv->us[j]?=some u->SVR c sv u)->PRs c ps us
 | [],ps,h,us,hl,hj=>by simp only[zdy,zY00]at h;subst h;have:us=[]:=zY0c zXf;subst this;trivial
 |v::vs,ps,h,[],hl,hj=>by simp at hl
 |v::vs,ps,h,u::us,hl,hj=>by
  unfold zdy at h;split at h
  ·rename_i p qs hp hq;injection h with h;subst h;refine⟨?_,zos hq zXf λj sv u hs hu=>hj (j+1) sv u zX1f zXy⟩;have hv:=hj 0 v u rfl rfl;unfold z05e at hp;split at hp
   ·injection hp with hp;subst hp;exact⟨_,rfl,hv⟩
   ·injection hp with hp;subst hp;exact hv
   ·cases hp
  ·cases h
theorem z060{c:Ctx}{svs:List SV}{sv:SV}(h:zcn svs=some sv){us:List Value}(hl:us.length=svs.length)(hj:∀(j:Nat) (sv:SV) (u:Value),svs[j]?=some sv->us[j]?=some u->SVR c sv u):SVR c sv (if h:us.toArray.size=1 then us.toArray[0]else .tuple us.toArray):=by
 match svs,us,hl with
 | [v],[u],hl =>
  have hv:=hj 0 v u rfl rfl;unfold zcn at h;cases v with
  |tup ps=>cases h
  |one x=>injection h with h;subst h;exact hv
  |agg x=>injection h with h;subst h;exact hv
 | [],us,hl =>have:us=[]:=zY0c zXf;subst this;simp only[zcn,zdy,zY1i,zY00]at h;subst h;exact⟨[],rfl,trivial⟩
 |v::v'::vs,us,hl =>
  simp only[zcn,zY0t]at h;obtain⟨ps,hp,rfl⟩:=h;have hn:¬us.toArray.size=1:=by simp;simp at hl;omega
  rw[dif_neg hn];exact⟨us,rfl,zos hp zXf hj⟩
 | [v],[],hl=>simp at hl
 | [v],_::_::_,hl=>simp at hl
theorem SVRs.append{c:Ctx}:∀ {xs ys:List SV} {vs us:List Value},SVRs c xs vs->SVRs c ys us->SVRs c (xs++ys) (vs++us)
 | [],_,[],_,_,h=>h
 |_::_,_,_::_,_,h,k=>⟨h.1,SVRs.append h.2 k⟩
theorem SVRs.of{c:Ctx}:∀ {xs:List SV} {vs:List Value},xs.length=vs.length->(∀(j:Nat) (x:SV) (v:Value),xs[j]?=some x->vs[j]?=some v->SVR c x v)->SVRs c xs vs
 | [],[],_,_=>trivial
 |x::xs,v::vs,hl,h=>⟨h 0 x v rfl rfl,SVRs.of zXf λj d v hd hv=>h (j+1) d v zX1c (by simpa using hv)⟩
theorem SVRs.get{c:Ctx}:∀ {xs:List SV} {vs:List Value},SVRs c xs vs->∀ {j:Nat} {x:SV},xs[j]?=some x->∃v,vs[j]?=some v/\SVR c x v
 |_::_,v::_,h,0,x,hx=>by simp only[zY05,zY00]at hx;subst hx;exact⟨v,rfl,h.1⟩
 |_::_,_::_,h,j+1,x,hx=>by simpa using SVRs.get h.2 zXo
theorem SVRs.drop{c:Ctx}:∀(n:Nat) {xs:List SV} {vs:List Value},SVRs c xs vs->SVRs c (xs.drop n) (vs.drop n)
 |0,_,_,h=>h
 |n+1,[],[],_=>trivial
 |n+1,_::_,_::_,h=>SVRs.drop n h.2
theorem z01u(hm:P.follows .mixedOrders=true):∀(d:Nat) (fx:Fx),(∀t i,fx.cx.ti t=some i->TyOk P t i)->(∀ci f s,fx.cx.sigs[ci]?=some (f,s)->Meets P (sp ci) f s)->(∀g∈fx.fns,zee P g)->zor P w0 F sp N res (inlD d) fx
 |0,fx,_,_,_=>by intro η g vs us o s k t E ks a W hg hr;cases hr
 |d+1,fx,hty,hsig,hfn=>by
  intro η g vs us o s k t E ks a W hg hr hd hi hargs;obtain⟨fn,f1,f2,f3,f4,f5⟩:=hfn g hg;unfold inlD at hr;split at hr
  ·cases hr
  rename_i hnt;have ih:=z01u hm d { fx with cx:={ fx.cx with cut:=g.cut },nt:=g.nt,hints:=g.hints } hty hsig hfn;obtain⟨ρ,hs⟩:=hi.sim;obtain⟨hul,huj⟩:=hargs ρ hs;have hsT:=hs.topAll (rowArgs fx.cx.cut s.τ o);refine calls_of_wp f1 f3 ?_;have hinit:Inv w0 F (a.tmps.toList++η) E ks { s with τ:=vs++List.replicate (g.nt-vs.length) (.one .und),kb:=s.kb+fx.mul*fx.nt,σ:=topAll s.τ (rowArgs fx.cx.cut s.τ o)++s.σ } { tmps:=us.toArray++Array.replicate (fn.ntmps-us.toArray.size) undef,defers:=[] } W:=by
   refine⟨hi.len,hi.kn,hi.lvl,ρ,⟨hs.below,hs.low,SVRs.append (SVRs.of (by simp[hsT.size]) λj x v hx hv=>?_) hs.held,rfl,?_,λt sv ht=>?_,hs.objs,hs.dj⟩⟩
   ·have:=hsT.tmps j x hx;have hv':a.tmps.getD j undef=v:=by rw[zY0s];rw[zY1t]at hv;rw[hv];rfl
    rw[hv']at this;exact this
   ·simp only[zY2x,zY2n,Array.size_replicate,zY04,zY25,f4,hul]
   ·by_cases hlt:t<vs.length
    ·rw[zY0l hlt]at ht;have e1:(us.toArray++Array.replicate (fn.ntmps-us.toArray.size) undef).getD t undef=us[t]' zX0:=by rw[zY0s,Array.getElem?_append_left zXa];simp[show t<us.length by omega]
     simp only[e1];exact huj t sv _ ht (zY03 zX0)
    ·rw[zY0q zX0,zY32]at ht;split at ht
     ·injection ht with ht;subst ht;show(us.toArray++Array.replicate (fn.ntmps-us.toArray.size) undef).getD t undef=undef;rw[zY0s,Array.getElem?_append_right zXa,Array.getElem?_replicate];split<;>rfl
     ·cases ht
  refine wp_mono (z01t (fx:={ fx with cx:={ fx.cx with cut:=g.cut },nt:=g.nt,hints:=g.hints }) hm hfn ih hty hsig g.body hr hd hinit) λe a2 W2 ⟨x,s2,t',E',ks',h1,h2,h3,h4,h5,hkb,h6⟩=>?_;have fin:(match(z8w fx.cx g.results).run s2.τ s2.ω with
    |none=>none
    |some svs=>match zcn svs with
     |none=>none
     |some sv =>
      k { s2 with τ:=(toPool fx.pool ((wr (s2.σ.take s.τ.length) s2.ω (z07 o sv)).1,dropAll (wr (s2.σ.take s.τ.length) s2.ω (z07 o sv)).1 (wr (s2.σ.take s.τ.length) s2.ω (z07 o sv)).2 (s2.σ.drop s.τ.length) (List.range (wr (s2.σ.take s.τ.length) s2.ω (z07 o sv)).2.length),s2.σ.drop s.τ.length) (List.range' (s.kb+fx.mul*fx.nt) (fx.mul*g.nt))).1,ω:=(toPool fx.pool ((wr (s2.σ.take s.τ.length) s2.ω (z07 o sv)).1,dropAll (wr (s2.σ.take s.τ.length) s2.ω (z07 o sv)).1 (wr (s2.σ.take s.τ.length) s2.ω (z07 o sv)).2 (s2.σ.drop s.τ.length) (List.range (wr (s2.σ.take s.τ.length) s2.ω (z07 o sv)).2.length),s2.σ.drop s.τ.length) (List.range' (s.kb+fx.mul*fx.nt) (fx.mul*g.nt))).2.1,σ:=(toPool fx.pool ((wr (s2.σ.take s.τ.length) s2.ω (z07 o sv)).1,dropAll (wr (s2.σ.take s.τ.length) s2.ω (z07 o sv)).1 (wr (s2.σ.take s.τ.length) s2.ω (z07 o sv)).2 (s2.σ.drop s.τ.length) (List.range (wr (s2.σ.take s.τ.length) s2.ω (z07 o sv)).2.length),s2.σ.drop s.τ.length) (List.range' (s.kb+fx.mul*fx.nt) (fx.mul*g.nt))).2.2,kb:=s.kb })=some t' ->
    a2.defers=[]/\∃v,(results fn a2.tmps).run P W2=.ok v W2/\∃v',Ending.returned v=.returned v'/\PostK w0 F η sp N res s.kb k E ks (a.put o.dst v') W2:=by
   intro ho;obtain⟨ρ2,hs2⟩:=h6.sim;split at ho
   ·cases ho
   rename_i svs hsvs;split at ho
   ·cases ho
   rename_i sv hsv;obtain⟨vs2,k1,k2,k3⟩:=zhk hs2 hty hsvs;have hres:(results fn a2.tmps).run P W2=.ok (if h:vs2.toArray.size=1 then vs2.toArray[0]else .tuple vs2.toArray) W2:=by unfold results;rw[Array.mapM_eq_mapM_toList,f5];simp only[Sem.run_bind,Sem.run_map,Sem.run_pure];exact congrArg (λr=>(Result.andThen (Result.andThen r λa w'=>Result.ok a.toArray w') λa w'=>Result.ok (if h:a.size=1 then a[0]else Value.tuple a) w')) k1
   have hval:=z060 hsv k2 k3;refine⟨hs2.defers,_,hres,_,rfl,?_⟩;have hsz:s.τ.length=a.tmps.size:=hs.size.symm;have hhl:=hs2.held.len;simp only[zY04,zY2h]at hhl;have hback:Sim w0 ⟨F,s2.σ.drop s.τ.length,η⟩ E' (s2.σ.take s.τ.length) s2.ω a W2 ρ2:=by
    refine⟨hs2.below,hs2.low,?_,hs.defers,by rw[zY0d];omega,λt sv ht=>?_,hs2.objs,hs2.dj⟩
    ·have:=SVRs.drop s.τ.length hs2.held;simp only at this;have e:List.drop s.τ.length (a.tmps.toList++η)=η:=List.drop_left' (by simp[hsz]);rw[e]at this;exact this
    ·rw[zY17]at ht;split at ht
     ·rename_i hlt;obtain⟨v,hv,hr⟩:=hs2.held.get ht;simp only at hv;rw[zY0l zXa,zY1t]at hv;have:a.tmps.getD t undef=v:=by rw[zY0s,hv];rfl
      rw[this];exact hr
     ·cases ht
   have hdst:=hback.dst o hval;have hdrop:=hdst.dropAll (List.range (wr (s2.σ.take s.τ.length) s2.ω (z07 o sv)).2.length);have hpool:=SimP.toPool fx.pool (List.range' (s.kb+fx.mul*fx.nt) (fx.mul*g.nt)) (p:=((wr (s2.σ.take s.τ.length) s2.ω (z07 o sv)).1,dropAll (wr (s2.σ.take s.τ.length) s2.ω (z07 o sv)).1 (wr (s2.σ.take s.τ.length) s2.ω (z07 o sv)).2 (s2.σ.drop s.τ.length) (List.range (wr (s2.σ.take s.τ.length) s2.ω (z07 o sv)).2.length),s2.σ.drop s.τ.length)) ⟨ρ2,hdrop⟩;exact⟨_,t',E',ks',ho,h3,h4,h5,rfl,⟨h6.len,h6.kn,h6.lvl,hpool⟩⟩
  cases x with
  |exit i=>simp only at h2;cases h2
  |normal =>
   cases e with
   |normal=>exact fin h2
   |_=>exact False.elim h1
  |ret =>
   cases e with
   |ret=>exact fin h2
   |_=>exact False.elim h1
end
def z9j:PK->Value->List Value
 |.ptr _,v=>[v]
 |.clos _ _,.func _ _ caps=>caps.toList
 |_,_=>[]
def za9:List PK->List Value->List Value
 |p::ps,v::vs=>z9j p v++za9 ps vs
 |_,_=>[]
def ExtR(c:Ctx)(k:Nat)(o:Ob):Prop:=∃g q,∃cs,∃vs:List Value,o=.ext cs/\c.ρ k=.pointer (some ⟨g,q,none⟩)/\c.F g/\c.W.rangeAt g q vs/\C1Rs c cs vs
theorem zn5{c:Ctx}{ds:List Dt}{us:List Value}(h:Reps c.W c.F ds us)(hE:∀(j:Nat) (d:Dt),ds[j]?=some d->c.E[n+j]?=some d)(hm:ds.length=m):C1Rs c (z4c n m) us :=
 za8 (by rw[<- hm,h.len]) λj u hu=>by
  have hlt:j<ds.length:=by rw[h.len];exact(zY02.1 hu).1
  obtain⟨v,h1,h2⟩:=h.get (zY03 hlt);rw[hu]at h1;injection h1 with h1;subst h1;exact⟨_,hE j _ (zY03 hlt),h2⟩
theorem z01v{c:Ctx}:∀ {ms:List Nat} {n k:Nat} {ds:List Dt} {us:List Value},zhh c.W c.F ms ds us->(∀(j:Nat) (d:Dt),ds[j]?=some d->c.E[n+j]?=some d)->(∀(j:Nat) (p:Value),us[j]?=some p->c.ρ (k+j)=p)->(∀j,j<ms.length->c.L (k+j)) ->
  CapRs c (zmy k ms) us/\(∀(j:Nat) (o:Ob),(z4l n ms)[j]?=some o->ExtR c (k+j) o)/\(z4l n ms).length=us.length/\ds.length=ms.sum/\ms.length=us.length
 | [],n,k,ds,us,h,hE,hρ,hL=>by obtain⟨rfl,rfl⟩:=h;exact⟨trivial,λj o ho=>by simp[z4l]at ho,rfl,rfl,rfl⟩
 |m::ms,n,k,ds,us,h,hE,hρ,hL=>by
  obtain⟨d1,d2,v,vs,rfl,rfl,h1,⟨g,q,ws,rfl,h3,h4,h5⟩,h6⟩:=h;obtain⟨k1,k2,k3,k4,k5⟩:=z01v (n:=n+m) (k:=k+1) h6 (λj d hd=>by
    have:=hE (m+j) d (by rw[zY0q zX0,show m+j-d1.length=j by omega];exact hd);rw[show n+m+j=n+(m+j)by omega];exact this) (λj p hp=>by
    have:=hρ (j+1) p (by simpa using hp);rw[show k+1+j=k+(j+1)by omega];exact this) (λj hj=>by
    have:=hL (j+1) zX14;rw[show k+1+j=k+(j+1)by omega];exact this)
  have hρ0:c.ρ k=.pointer (some ⟨g,q,none⟩):=hρ 0 _ rfl;refine⟨⟨⟨hL 0 zX4,g,q,hρ0,rfl⟩,k1⟩,λj o ho=>?_,by simp[z4l,k3],by simp[h1,k4],by simp[k5]⟩;cases j with
  |zero =>simp only[z4l,zY05,zY00]at ho;exact⟨g,q,_,ws,ho.symm,hρ0,h3,h4,zn5 h5 (λj d hd=>hE j d (by rw[zY0l (zY02.1 hd).1];exact hd)) h1⟩
  |succ j =>have:=k2 j o (by simpa[z4l]using ho);rw[show k+(j+1)=k+1+j by omega];exact this
theorem z061{c:Ctx}{p:PK}{ds:List Dt}{v:Value}(h:PKR c.W c.F p ds v)(hE:∀(j:Nat) (d:Dt),ds[j]?=some d->c.E[n+j]?=some d)(hρ:∀(j:Nat) (q:Value),(z9j p v)[j]?=some q->c.ρ (k+j)=q)(hL:∀j,j<(z20 n k p).2.1.length->c.L (k+j)) :
  SVR c (z20 n k p).1 v/\(∀(j:Nat) (o:Ob),(z20 n k p).2.1[j]?=some o->ExtR c (k+j) o)/\(z20 n k p).2.2=ds.length/\(z20 n k p).2.1.length=(z9j p v).length:=by
 cases p with
 |one =>obtain⟨d,rfl,h2⟩:=h;exact⟨⟨d,hE 0 d rfl,h2⟩,λj o ho=>by simp[z20]at ho,rfl,by cases v<;>rfl⟩
 |agg m =>obtain⟨h1,us,rfl,h2⟩:=h;exact⟨⟨us,rfl,zn5 h2 hE h1⟩,λj o ho=>by simp[z20]at ho,h1.symm,rfl⟩
 |ptr m =>
  obtain⟨h1,g,q,us,rfl,h3,h4,h5⟩:=h;have hρ0:c.ρ k=.pointer (some ⟨g,q,none⟩):=hρ 0 _ rfl;refine⟨⟨hL 0 (by simp[z20]),g,q,hρ0,rfl⟩,λj o ho=>?_,h1.symm,rfl⟩;cases j with
  |zero =>simp only[z20,zY05,zY00]at ho;exact⟨g,q,_,us,ho.symm,hρ0,h3,h4,zn5 h5 hE h1⟩
  |succ j=>simp[z20]at ho
 |clos f ms =>
  obtain⟨us,rfl,h1⟩:=h;have hlen:∀(n:Nat) (ms:List Nat),(z4l n ms).length=ms.length:=by
   intro n ms;induction ms generalizing n with
   |nil=>rfl
   |cons m ms ih=>simp[z4l,ih]
  obtain⟨k1,k2,k3,k4,k5⟩:=z01v (n:=n) (k:=k) h1 hE (λj p hp=>hρ j p (by simpa[z9j]using hp)) (λj hj=>hL j (by simp only[z20,hlen];exact hj));exact⟨⟨us,rfl,k1⟩,k2,k4.symm,by simpa[z9j,z20]using k3⟩
 |mine e sz=>exact absurd h id
theorem zot{c:Ctx}:∀ {ps:List PK} {n k:Nat} {ds:List Dt} {us:List Value},PKRs c.W c.F ps ds us->(∀(j:Nat) (d:Dt),ds[j]?=some d->c.E[n+j]?=some d)->(∀(j:Nat) (q:Value),(za9 ps us)[j]?=some q->c.ρ (k+j)=q)->(∀j,j<(z0f n k ps).2.1.length->c.L (k+j)) ->
  (∀(j:Nat) (sv:SV) (u:Value),(z0f n k ps).1[j]?=some sv->us[j]?=some u->SVR c sv u)/\(∀(j:Nat) (o:Ob),(z0f n k ps).2.1[j]?=some o->ExtR c (k+j) o)/\(z0f n k ps).2.2=n+ds.length/\(z0f n k ps).1.length=us.length/\(z0f n k ps).2.1.length=(za9 ps us).length
 | [],n,k,ds,us,h,hE,hρ,hL=>by obtain⟨rfl,rfl⟩:=h;exact⟨λj sv u hs=>by simp[z0f]at hs,λj o ho=>by simp[z0f]at ho,rfl,rfl,rfl⟩
 |p::ps,n,k,ds,us,h,hE,hρ,hL=>by
  obtain⟨d1,d2,v,vs,rfl,rfl,h1,h2⟩:=h;have hlt:∀j,j<(z20 n k p).2.1.length->j<(z0f n k (p::ps)).2.1.length:=λj hj=>by simp only[z0f,zY04];omega
  obtain⟨a1,a2,a3,a4⟩:=z061 (n:=n) (k:=k) h1 (λj d hd=>hE j d (by rw[zY0l (zY02.1 hd).1];exact hd)) (λj q hq=>hρ j q (by simp only[za9];rw[zY0l (zY02.1 hq).1];exact hq)) (λj hj=>hL j (hlt j hj))
  obtain⟨b1,b2,b3,b4,b5⟩:=zot (n:=n+(z20 n k p).2.2) (k:=k+(z20 n k p).2.1.length) h2 (λj d hd=>by
    have:=hE (d1.length+j) d (by rw[zY0q zX0,show d1.length+j-d1.length=j by omega];exact hd);rw[a3,show n+d1.length+j=n+(d1.length+j)by omega];exact this) (λj q hq=>by
    have:=hρ ((z9j p v).length+j) q (by simp only[za9];rw[zY0q zX0,show(z9j p v).length+j-(z9j p v).length=j by omega];exact hq);rw[a4,show k+(z9j p v).length+j=k+((z9j p v).length+j)by omega];exact this) (λj hj=>by
    have:=hL ((z20 n k p).2.1.length+j) (by simp only[z0f,zY04];omega);rw[show k+(z20 n k p).2.1.length+j=k+((z20 n k p).2.1.length+j)by omega];exact this)
  refine⟨λj sv u hs hu=>?_,λj o ho=>?_,?_,by simp[z0f,b4],by simp only[z0f,za9,zY04];omega⟩
  ·cases j with
   |zero =>simp only[z0f,zY05,zY00]at hs hu;subst hs;subst hu;exact a1
   |succ j=>exact b1 j sv u (by simpa[z0f]using hs) zXy
  ·simp only[z0f]at ho;by_cases hj:j<(z20 n k p).2.1.length
   ·rw[zY0l hj]at ho;exact a2 j o ho
   ·rw[zY0q zX0]at ho;have:=b2 _ o ho;rw[show k+(z20 n k p).2.1.length+(j-(z20 n k p).2.1.length)=k+j by omega]at this;exact this
  ·simp only[z0f,zY04];rw[b3];omega
section
variable {P:Program} {w0 W:World} {F0:Bk} {E:Env} {τ:List SV} {ω:List (Option Ob)} {a:Act} {ρ:Nat->Value} {cx:Cx} {sp:Nat->zd}
theorem z09p{cap:Nat}{ds:List Dt}{args:List Value}(hF:zd1 F W)(h:PKRs W F sig.args ds args)(hnt:sig.args.length<=nt) :
  ∃ρ,Sim W ⟨F,[],[]⟩ ds (initS sig nt cap).τ (initS sig nt cap).ω { tmps:=args.toArray++Array.replicate (nt-args.toArray.size) undef,defers:=[] } W ρ/\ds.length=(initS sig nt cap).n:=by
 let ω:=(initS sig nt cap).ω
 let ρ:Nat->Value:=λk=>(za9 sig.args args).getD (k-cap) undef
 have hω:ω=List.replicate cap none++(z0f 0 cap sig.args).2.1.map some:=rfl;have hob:∀k o,ω[k]?=some (some o)->∃j,k=cap+j/\(z0f 0 cap sig.args).2.1[j]?=some o:=by
  intro k o hk;rw[hω]at hk;by_cases hlt:k<cap
  ·rw[zY0l zXi,zY32,zP hlt]at hk;simp at hk
  ·rw[zY0q zXa,zY25,zY0m,zY0t]at hk;obtain⟨o',h1,h2⟩:=hk;injection h2 with h2;subst h2;exact⟨k-cap,by omega,h1⟩
 have hget:∀j o,(z0f 0 cap sig.args).2.1[j]?=some o->ω[cap+j]?=some (some o):=by intro j o ho;rw[hω,zY0q zX4,zY25,show cap+j-cap=j by omega,zY0m,ho];rfl
 have hmore:∀b,F b->Frr W ⟨F,[],[]⟩ ω ρ W b->True:=λ_ _ _=>trivial;have hext:∀(ps:List PK) (n k j:Nat) (o:Ob),(z0f n k ps).2.1[j]?=some o->∃cs,o=.ext cs:=by
  intro ps;induction ps with
  |nil=>intro n k j o ho;simp[z0f]at ho
  |cons p ps ih =>
   intro n k j o ho;simp only[z0f]at ho;by_cases hj:j<(z20 n k p).2.1.length
   ·rw[zY0l hj]at ho;cases p with
    |one=>simp[z20]at ho
    |agg m=>simp[z20]at ho
    |mine e sz=>simp[z20]at ho
    |ptr m =>
     cases j with
     |zero=>simp only[z20,zY05,zY00]at ho;exact⟨_,ho.symm⟩
     |succ j=>simp[z20]at ho
    |clos f ms =>
     simp only[z20]at ho;have key:∀(ms:List Nat) (n j:Nat) (o:Ob),(z4l n ms)[j]?=some o->∃cs,o=.ext cs:=by
      intro ms;induction ms with
      |nil=>intro n j o ho;simp[z4l]at ho
      |cons m ms ih =>
       intro n j o ho;cases j with
       |zero=>simp only[z4l,zY05,zY00]at ho;exact⟨_,ho.symm⟩
       |succ j=>exact ih (n+m) j o (by simpa[z4l]using ho)
     exact key ms n j o ho
   ·rw[zY0q zX0]at ho;exact ih _ _ _ o ho
 have hno:∀b,¬zlh ω ρ b:=by rintro b ⟨k,o,h1,h2⟩;obtain⟨j,rfl,h3⟩:=hob k o h1;obtain⟨cs,rfl⟩:=hext _ _ _ _ _ h3;simp only[own]at h2;cases h2
 have hFF:∀b,F b->Frr W ⟨F,[],[]⟩ ω ρ W b:=λb hb=>⟨.inl hb,hno b⟩
 have hPK:PKRs W (Frr W ⟨F,[],[]⟩ ω ρ W) sig.args ds args:=by
  have key:∀(ps:List PK) (ds:List Dt) (us:List Value),PKRs W F ps ds us->PKRs W (Frr W ⟨F,[],[]⟩ ω ρ W) ps ds us:=by
   intro ps;induction ps with
   |nil=>intro ds us h;exact h
   |cons p ps ih=>intro ds us ⟨d1,d2,v,vs,h1,h2,h3,h4⟩;exact⟨d1,d2,v,vs,h1,h2,h3.mono hFF,ih d2 vs h4⟩
  exact key _ _ _ h
 obtain⟨a1,a2,a3,a4,a5⟩:=zot (c:=ctx W ⟨F,[],[]⟩ ds ω ρ W) (n:=0) (k:=cap) hPK (λj d hd=>by rw[zY0z];exact hd) (λj q hq=>by show(za9 sig.args args).getD (cap+j-cap) undef=q;rw[show cap+j-cap=j by omega,zY0r,hq];rfl) (λj hj=>⟨_,hget j _ (zY03 hj)⟩)
 have hal:args.length=sig.args.length:=by
  have key:∀(ps:List PK) (ds:List Dt) (us:List Value),PKRs W F ps ds us->us.length=ps.length:=by
   intro ps;induction ps with
   |nil=>intro ds us ⟨_,h⟩;subst h;rfl
   |cons p ps ih=>intro ds us ⟨d1,d2,v,vs,h1,h2,h3,h4⟩;subst h2;simp[ih d2 vs h4]
  exact key _ _ _ h
 refine⟨ρ,⟨Below.refl _ _,hF,trivial,rfl,?_,λt sv ht=>?_,λk o ho=>?_,λk k' o o' g h1 h2 h3 h4=>absurd ⟨k,o,h1,h3⟩ (hno g)⟩,by show ds.length=(z0f 0 cap sig.args).2.2;rw[a3,zY0z]⟩
 ·simp[initS,a4]
 ·have hτ:(initS sig nt cap).τ=(z0f 0 cap sig.args).1++List.replicate (nt-(z0f 0 cap sig.args).1.length) (.one .und):=rfl;rw[hτ]at ht;by_cases hlt:t<args.length
  ·rw[zY0l zX0]at ht;have e1:(args.toArray++Array.replicate (nt-args.toArray.size) undef).getD t undef=args[t]:=by rw[zY0s,Array.getElem?_append_left zXi];simp[hlt]
   simp only[e1];exact a1 t sv _ ht (zY03 hlt)
  ·rw[zY0q zX0,zY32]at ht;split at ht
   ·rename_i hlt2;injection ht with ht;subst ht;show(args.toArray++Array.replicate (nt-args.toArray.size) undef).getD t undef=undef;rw[zY0s,Array.getElem?_append_right zXi,Array.getElem?_replicate];split<;>rfl
   ·cases ht
 ·obtain⟨j,rfl,h3⟩:=hob k o ho;obtain⟨g,q,cs,vs,rfl,h4,h5,h6,h7⟩:=a2 j o h3;exact⟨g,q,vs,h4,h5,h6,h7⟩
def zw4(w0 W:World)(F0:Bk)(E:Env)(ω:List (Option Ob))(ρ:Nat->Value)(f:CF)(p:Atom×Option Nat×Option Nat)(u:Value):Prop:=match f with
 |.fresh e sz=>(∃k,p.2=(some k,none)/\ω[k]?=some (some (.row e sz p.1))/\u=ρ k)\/(p=(.c (.nil sz),none,none)/\u=.slice none 0 0)
 |.scal=>p.2=(none,none)/\∃d,p.1.val E=some d/\Rep W (Frr w0 F0 ω ρ W) d u
 |.pure=>p.2.1=none/\((∃d,p.1.val E=some d/\Rep W (Frr w0 F0 ω ρ W) d u)\/∃k e sz,p.2.2=some k/\ω[k]?=some (some (.row e sz p.1))/\u=ρ k)
theorem z0cn(h:Sim w0 F0 E τ ω a W ρ){f:CF}{c:C1}{p:Atom×Option Nat×Option Nat}(hr:(outC f c).run τ ω=some p){u:Value}(hc:C1R (ctx w0 F0 E ω ρ W) c u):zw4 w0 W F0 E ω ρ f p u:=by
 unfold outC at hr;split at hr
 ·simp only[run_pure,zY00]at hr;subst hr;exact⟨rfl,.inl (C1R.at_ hc)⟩
 ·simp only[run_pure,zY00]at hr;subst hr;exact⟨rfl,C1R.at_ hc⟩
 ·rename_i k;simp only[run_bind,z2y,zY01]at hr;obtain⟨ob,hob,hr⟩:=hr;obtain⟨_,hv,_⟩:=hc;split at hr
  ·simp only[run_pure,zY00]at hr;subst hr;exact⟨rfl,.inr ⟨k,_,_,rfl,hob,hv⟩⟩
  ·simp only[run_pure,zY00]at hr;subst hr;refine⟨rfl,.inl ?_⟩;have:=h.objs k _ hob;rw[hv];exact this
  ·cases hr
 ·rename_i e sz k;simp only[run_bind,z2y,zY01]at hr;obtain⟨ob,hob,hr⟩:=hr;obtain⟨_,hv,_⟩:=hc;split at hr
  ·simp only[run_ite]at hr;split at hr
   ·rename_i hcond;obtain⟨rfl,rfl⟩:=hcond;simp only[run_pure,zY00]at hr;subst hr;exact .inl ⟨k,rfl,hob,hv⟩
   ·cases hr
  ·cases hr
 ·rename_i e sz z;simp only[run_ite]at hr;split at hr
  ·rename_i hz;subst hz;simp only[run_pure,zY00]at hr;subst hr;exact .inr ⟨rfl,C1R.isNil hc⟩
  ·cases hr
 ·cases hr
theorem zw5(h:Sim w0 F0 E τ ω a W ρ):∀ {fs:List CF} {cs:List C1} {ps:List (Atom×Option Nat×Option Nat)} {us:List Value},(zoh fs cs).run τ ω=some ps->C1Rs (ctx w0 F0 E ω ρ W) cs us ->
  ps.length=fs.length/\us.length=fs.length/\∀(j:Nat) (f:CF) (p:Atom×Option Nat×Option Nat) (u:Value),fs[j]?=some f->ps[j]?=some p->us[j]?=some u->zw4 w0 W F0 E ω ρ f p u
 | [],[],ps,us,hr,hc=>by
  simp only[zoh,run_pure,zY00]at hr;subst hr;cases us with
  |nil=>exact⟨rfl,rfl,by simp⟩
  |cons _ _=>exact absurd hc (λh=>h)
 |f::fs,c::cs,ps,[],hr,hc=>absurd hc (λh=>h)
 |f::fs,c::cs,ps,u::us,hr,hc=>by
  simp only[zoh,run_bind,run_pure,zY01,zY00]at hr;obtain⟨p,h1,ps',h2,rfl⟩:=hr;obtain⟨k1,k2,k3⟩:=zw5 h h2 hc.2;refine⟨by simp[k1],by simp[k2],λj f' p' u' hf hp hu=>?_⟩;cases j with
  |zero=>simp only[zY05,zY00]at hf hp hu;subst hf;subst hp;subst hu;exact z0cn h h1 hc.1
  |succ j=>exact k3 j f' p' u' (by simpa using hf) (by simpa using hp) zXy
 | [],_::_,ps,us,hr,hc=>by cases hr
 |_::_,[],ps,us,hr,hc=>by cases hr
theorem zw6(h:Sim w0 F0 E τ ω a W ρ):∀ {rs:List (Bool×List CF)} {svs:List SV} {ps:List (Atom×Option Nat×Option Nat)} {vs:List Value},(zlg rs svs).run τ ω=some ps->vs.length=svs.length->(∀(j:Nat) (sv:SV) (u:Value),svs[j]?=some sv->vs[j]?=some u->SVR (ctx w0 F0 E ω ρ W) sv u) ->
  ∃us:List Value,zoo rs vs us/\ps.length=(rs.flatMap (·.2)).length/\us.length=(rs.flatMap (·.2)).length/\vs.length=rs.length/\∀(j:Nat) (f:CF) (p:Atom×Option Nat×Option Nat) (u:Value),(rs.flatMap (·.2))[j]?=some f->ps[j]?=some p->us[j]?=some u->zw4 w0 W F0 E ω ρ f p u
 | [],[],ps,vs,hr,hl,hj=>by simp only[zlg,run_pure,zY00]at hr;subst hr;have:vs=[]:=zY0c zXf;subst this;exact⟨[],⟨rfl,rfl⟩,rfl,rfl,rfl,by simp⟩
 |(g,fs)::rs,sv::svs,ps,[],hr,hl,hj=>by simp at hl
 |(g,fs)::rs,sv::svs,ps,v::vs,hr,hl,hj=>by
  simp only[zlg,run_bind,run_pure,zY01,zY00]at hr;obtain⟨cs,h0,p1,h1,p2,h2,rfl⟩:=hr;obtain⟨us,k1,k2,k3,k4,k5⟩:=zw6 h h2 zXf λj sv u hs hu=>hj (j+1) sv u zX1f zXy;have hv:=hj 0 sv v rfl rfl;have hpart:∃u1:List Value,C1Rs (ctx w0 F0 E ω ρ W) cs u1/\(u1.length=fs.length->PartV (g,fs) v u1):=by
   unfold z05f at h0;split at h0
   ·simp only[run_pure,zY00]at h0;subst h0;exact⟨[v],⟨hv,trivial⟩,λh=>⟨rfl,by simpa using h.symm⟩⟩
   ·simp only[run_pure,zY00]at h0;subst h0;obtain⟨u1,rfl,h4⟩:=hv;exact⟨u1,h4,λh=>⟨rfl,h⟩⟩
   ·cases h0
  obtain⟨u1,h3,h4⟩:=hpart;obtain⟨m1,m2,m3⟩:=zw5 h h1 h3;refine⟨u1++us,⟨v,vs,u1,us,rfl,rfl,h4 m2,k1⟩,by simp[m1,k2],by simp[m2,k3],by simp[k4],λj f p u hf hp hu=>?_⟩;rw[zY1x]at hf;have hf:(fs++rs.flatMap (·.2))[j]?=some f:=hf;by_cases hlt:j<fs.length
  ·rw[zY0l hlt]at hf;rw[zY0l zX0]at hp hu;exact m3 j f p u hf hp hu
  ·rw[zY0q zX0]at hf hp hu;rw[m1]at hp;rw[m2]at hu;exact k5 _ f p u hf hp hu
 | [],_::_,ps,vs,hr,hl,hj=>by cases hr
 |_::_,[],ps,vs,hr,hl,hj=>by cases hr
theorem z062{α:Type}{g:α->Option Nat}:∀ {l:List α},za7 (l.filterMap g)=true->∀(i j:Nat) (x y:α) (k:Nat),l[i]?=some x->l[j]?=some y->g x=some k->g y=some k->i=j
 | [],_,i,_,_,_,_,h,_,_,_=>by simp at h
 |z::l,hd,i,j,x,y,k,hx,hy,gx,gy=>by
  have hmem:∀ {j:Nat} {y:α},l[j]?=some y->g y=some k->k∈l.filterMap g:=λh1 h2=>List.mem_filterMap.2 ⟨_,zY06 h1,h2⟩;have htail:za7 (l.filterMap g)=true:=by
   rw[List.filterMap_cons]at hd;split at hd
   ·exact hd
   ·simp only[za7,zY0e]at hd;exact hd.2
  have hhead:g z=some k->k∉l.filterMap g:=by intro hz hm;rw[List.filterMap_cons,hz]at hd;simp only[za7,zY0e,zY2u]at hd;rw[zY2c.2 hm]at hd;cases hd.1
  cases i with
  |zero =>
   simp only[zY05,zY00]at hx;subst hx;cases j with
   |zero=>rfl
   |succ j=>exact absurd (hmem zXu gy) (hhead gx)
  |succ i =>
   cases j with
   |zero =>simp only[zY05,zY00]at hy;subst hy;exact absurd (hmem zXo gx) (hhead gy)
   |succ j=>rw[z062 htail i j x y k zXo zXu gx gy]
theorem zw7{E:Env}:∀ {as0:List Atom} {ds:List Dt},vals E as0=some ds->∀(i:Nat) (x:Atom),as0[i]?=some x->∃d,x.val E=some d/\ds[i]?=some d
 | [],ds,h,i,x,hx=>by simp at hx
 |a::as0,ds,h,i,x,hx=>by
  simp only[vals,zY0a,zY01,zY1e,zY00]at h;obtain⟨d,h1,ds',h2,rfl⟩:=h;cases i with
  |zero=>simp only[zY05,zY00]at hx;subst hx;exact⟨d,h1,rfl⟩
  |succ i=>exact zw7 h2 i x zXo
def z7g(sig:Sig)(rs:List Dt):Prop:=∀(i:Nat) (d:Dt),(zu sig)[i]?=some .scal->rs[i]?=some d->d.scal=true
theorem z0f6(h:Sim w0 F0 E τ ω a W ρ){ps:List (Atom×Option Nat×Option Nat)}{us:List Value}{v:Value}{rs:List Dt}(hv:zvx sig.res v us)(hps:ps.length=(zu sig).length)(hus:us.length=(zu sig).length)
  (hout:∀(j:Nat) (f:CF) (p:Atom×Option Nat×Option Nat) (u:Value),(zu sig)[j]?=some f->ps[j]?=some p->us[j]?=some u->zw4 w0 W F0 E ω ρ f p u) (hrs:vals E (ps.map (·.1))=some rs) (hsc:z7g sig rs)
  (hdup:za7 (ps.filterMap (·.2.1))=true) (hdj:∀k∈ps.filterMap (·.2.1),k∉ps.filterMap (·.2.2)):∃F',ResR w0 F0.F W sig rs v us F':=by
 let F':Nat->Prop:=λb=>(F0.F b\/(w0.heap.size<=b/\b<W.heap.size))/\¬ ∃k∈ps.filterMap (·.2.1),∃o,ω[k]?=some (some o)/\own o (ρ k)=some b
 have hFF:∀b,Frr w0 F0 ω ρ W b->F' b:=λb hb=>⟨hb.1,λ⟨k,_,o,h1,h2⟩=>hb.2 ⟨k,o,h1,h2⟩⟩
 have hrl:rs.length=(zu sig).length:=by rw[zea hrs,zY0y,hps]
 have hat:∀(j:Nat) (f:CF) (u:Value),(zu sig)[j]?=some f->us[j]?=some u->∃p d,ps[j]?=some p/\p.1.val E=some d/\rs[j]?=some d/\zw4 w0 W F0 E ω ρ f p u:=by
  intro j f u hf hu;have hlt:j<ps.length:=by rw[hps];exact(zY02.1 hf).1
  have hp:=zY03 hlt;obtain⟨d,h1,h2⟩:=zw7 hrs j ps[j].1 (by rw[zY0m,hp];rfl);exact⟨ps[j],d,hp,h1,h2,hout j f _ u hf hp hu⟩
 have hkeys:∀(j:Nat) (p:Atom×Option Nat×Option Nat) (k:Nat),ps[j]?=some p->p.2.1=some k->k∈ps.filterMap (·.2.1):=λj p k hp hk=>List.mem_filterMap.2 ⟨p,zY06 hp,hk⟩;refine⟨F',hv,hrl,hus,λj f d u hf hd hu=>?_,λb hb=>hb.1,λj e sz u b hf hu hb hF=>?_,λj j' e sz e' sz' u u' b hf hu hf' hu' hb hb'=>?_⟩
 ·obtain⟨p,d',hp,hval,hd',hO⟩:=hat j f u hf hu;rw[hd]at hd';injection hd' with hd';subst hd';cases f with
  |pure =>
   obtain⟨_,h1|⟨k,e,sz,h2,h3,rfl⟩⟩:=hO
   ·obtain⟨d',h1,h2⟩:=h1;rw[hval]at h1;injection h1 with h1;subst h1;exact h2.mono (λ_ _=>rfl) hFF
   ·obtain⟨xs,vs,b1,b2,b3,b4⟩:=h.objs k _ h3;simp only[ctx]at b1 b3 b4;rw[hval]at b1;injection b1 with b1;subst b1;refine zlj b2 b3 b4 hFF λg hg=>⟨.inr (z3p b3 hg),?_⟩
    rintro⟨k',hk',o',h5,h6⟩;have:k=k':=h.dj k k' _ o' g h3 h5 (by simpa[own]using hg) h6;subst this;exact hdj k hk' (List.mem_filterMap.2 ⟨p,zY06 hp,h2⟩)
  |scal =>obtain⟨_,d',h1,h2⟩:=hO;rw[hval]at h1;injection h1 with h1;subst h1;exact⟨hsc j d hf hd,h2.mono (λ_ _=>rfl) hFF⟩
  |fresh e sz =>
   rcases hO with⟨k,h2,h3,rfl⟩|⟨rfl,rfl⟩
   ·obtain⟨xs,vs,b1,b2,b3,b4⟩:=h.objs k _ h3;simp only[ctx]at b1 b3 b4;rw[hval]at b1;injection b1 with b1;subst b1;exact⟨xs,vs,rfl,b2,b3,b4.mono (λ_ _=>rfl) hFF⟩
   ·have hd0:d=.l sz []:=by have:(Atom.c (.nil sz)).val E=some d:=hval;injection this with this;exact this.symm
    subst hd0;exact⟨[],[],rfl,by simp,World.ownsRow_nil _ _ _ _,trivial⟩
 ·obtain⟨p,d',hp,hval,hd',hO⟩:=hat j _ u hf hu;rcases hO with⟨k,h2,h3,rfl⟩|⟨rfl,rfl⟩
  ·exact hF.2 ⟨k,hkeys j p k hp (by rw[h2]),_,h3,by simpa[own]using hb⟩
  ·cases hb
 ·obtain⟨p,d',hp,hval,hd',hO⟩:=hat j _ u hf hu;obtain⟨p',d2,hp',hval',hd2,hO'⟩:=hat j' _ u' hf' hu';rcases hO with⟨k,h2,h3,rfl⟩|⟨rfl,rfl⟩
  ·rcases hO' with⟨k',h2',h3',rfl⟩|⟨rfl,rfl⟩
   ·have:k=k':=h.dj k k' _ _ b h3 h3' (by simpa[own]using hb) (by simpa[own]using hb');subst this;exact z062 hdup j j' p p' k hp hp' (by rw[h2]) (by rw[h2'])
   ·cases hb'
  ·cases hb
inductive Dt.ok:Dt->Prop
 |i (k:IntKind) (n:Int):k.wrap n=n->Dt.ok (.i k n)
 |b (x:Bool):Dt.ok (.b x)
 |s (x:List UInt8):x.length<=9223372036854775807->Dt.ok (.s x)
 |e (x:Bool):Dt.ok (.e x)
 |l (sz:Nat) (xs:List (List Dt)):xs.length<=9223372036854775807->(∀x∈xs,x.length=sz)->(∀x∈xs,∀d∈x,Dt.ok d)->Dt.ok (.l sz xs)
theorem Rep.ok{W:World}{d:Dt}{v:Value}(h:Rep W F d v):d.ok:=by
 induction h with
 |i k n h=>exact .i k n h
 |b x=>exact .b x
 |s x h=>exact .s x h
 |e0=>exact .e _
 |e1 t p=>exact .e _
 |l sz xs A n c b o vs h0 h1 h2 h3 h4 h5 h6 ih =>refine .l sz xs zX0 h3 λx hx d hd=>?_;obtain⟨i,hi⟩:=zY27 hx;obtain⟨j,hj⟩:=zY27 hd;exact ih i j x d hi hj
theorem Reps.ok{W:World}{F:Nat->Prop}:∀ {ds:List Dt} {vs:List Value},Reps W F ds vs->∀d∈ds,d.ok
 | [],[],_,d,hd=>by cases hd
 |x::ds,v::vs,h,d,hd=>by
  rcases zY0g.1 hd with rfl|hd
  ·exact h.1.ok
  ·exact Reps.ok h.2 d hd
theorem PKR.ok{W:World}{p:PK}{ds:List Dt}{v:Value}(h:PKR W F p ds v):∀d∈ds,d.ok:=by
 cases p with
 |one=>obtain⟨d,rfl,h2⟩:=h;intro x hx;rw[zY12.1 hx];exact h2.ok
 |agg m=>obtain⟨_,us,_,h2⟩:=h;exact h2.ok
 |ptr m=>obtain⟨_,g,o,us,_,_,_,h2⟩:=h;exact h2.ok
 |clos f ns =>
  obtain⟨us,_,h1⟩:=h;have key:∀(ns:List Nat) (ds:List Dt) (us:List Value),zhh W F ns ds us->∀d∈ds,d.ok:=by
   intro ns;induction ns with
   |nil=>intro ds us ⟨h,_⟩;subst h;simp
   |cons m ns ih =>
    intro ds us ⟨d1,d2,v,vs,h1,_,_,⟨_,_,_,_,_,_,h2⟩,h3⟩ d hd;subst h1;rcases zY13.1 hd with hd|hd
    ·exact h2.ok d hd
    ·exact ih d2 vs h3 d hd
  exact key ns ds us h1
 |mine e sz=>exact absurd h id
theorem PKRs.ok{W:World}{F:Nat->Prop}:∀ {ps:List PK} {ds:List Dt} {us:List Value},PKRs W F ps ds us->∀d∈ds,d.ok
 | [],ds,us,h=>by obtain⟨rfl,_⟩:=h;simp
 |p::ps,ds,us,h=>by
  obtain⟨d1,d2,v,vs,rfl,rfl,h1,h2⟩:=h;intro d hd;rcases zY13.1 hd with hd|hd
  ·exact h1.ok d hd
  ·exact PKRs.ok h2 d hd
theorem zw8{fx:Fx}{fn:Func}{t:T}{spec:zd}(hf:P.funcs[f]?=some fn)(hname:(fn.name == "runtime.NumGoroutine")=false)(hdec:decomp fx sig fn=some t)(htab:tabB P fx.cx.ty=true)
  (hm:P.follows .mixedOrders=true) (hfn:∀g∈fx.fns,zee P g) (hsig:∀ci f s,fx.cx.sigs[ci]?=some (f,s)->Meets P (sp ci) f s) (hspec:∀ds rs,(∀d∈ds,d.ok)->spec ds=some rs->(∃N,den sp N t ds []=some rs)/\z7g sig rs):Meets P spec f sig:=by
 have hmi:z4w sig.args=false:=by
  unfold decomp at hdec;split at hdec
  ·cases hdec
  rename_i hnt;simpa using(not_or.1 hnt).2
 refine .mk hmi ?_;intro W F ds args rs hF hargs hrs;obtain⟨⟨N,hden⟩,hsc⟩:=hspec ds rs hargs.ok hrs;have hty:∀t i,fx.cx.ti t=some i->TyOk P t i:=λt i h=>z0et htab h;unfold decomp at hdec;split at hdec
 ·cases hdec
 rename_i hnt;simp only[not_or,ne_eq,zY0u,Nat.not_lt]at hnt;have hnt:=hnt.1;split at hdec
 ·cases hdec
 rename_i c hb;obtain⟨ρ,hs,hlen⟩:=z09p (sig:=sig) (nt:=fn.ntmps) (cap:=fx.cap) hF hargs hnt.2;refine .inl ⟨zjj hf hname hb args.toArray W,calls_of_wp hf hb ?_⟩;refine wp_mono (z01t (η:=[]) (ks:=[]) hm hfn (z01u hm fx.dep fx hty hsig hfn) hty hsig c hdec hden ⟨hlen,(λv b h=>by cases h),rfl,ρ,hs⟩) λe a' W' ⟨x,s',t',E',ks',h1,h2,h3,h4,h5,hkb,h6⟩=>?_;obtain⟨ρ',hs'⟩:=h6.sim;have fin:outOf fx.cx sig fn.results.toList s'=some t'->a'.defers=[]/\∃v,(results fn a'.tmps).run P W' = .ok v W'/\∃v',Ending.returned v = .returned v'/\Below W.heap.size W W'/\∃us F',ResR W F W' sig rs v' us F':=by
  intro ho;unfold outOf at ho;simp only[zY0a,zY01]at ho;obtain⟨svs,hsvs,ps,hps,ho⟩:=ho;split at ho
  ·rename_i hck;simp only[zY0e]at hck;injection ho with ho;subst ho;simp only[den]at h3;obtain⟨vs,k1,k2,k3⟩:=zhk hs' hty hsvs;obtain⟨us,g1,g2,g3,g4,g5⟩:=zw6 hs' hps k2 k3;have hres:(results fn a'.tmps).run P W' = .ok (if h:vs.toArray.size=1 then vs.toArray[0]else .tuple vs.toArray) W':=by unfold results;rw[Array.mapM_eq_mapM_toList];simp only[Sem.run_bind,Sem.run_map,Sem.run_pure];exact congrArg (λr=>(Result.andThen (Result.andThen r λa w'=>Result.ok a.toArray w') λa w'=>Result.ok (if h:a.size=1 then a[0]else Value.tuple a) w')) k1
   have hval:zvx sig.res (if h:vs.toArray.size=1 then vs.toArray[0]else .tuple vs.toArray) us:=by
    match hr:sig.res,g1,g4 with
    | [p],g1,g4 =>obtain⟨v,vs',u1,u2,rfl,rfl,m1,m2,rfl⟩:=g1;subst m2;simp only[zY1b];exact m1
    | [],g1,g4 =>
     have hn:¬vs.toArray.size=1:=by simp at g4;simp[g4]
     rw[dif_neg hn];exact⟨vs,rfl,g1⟩
    |p::q::r,g1,g4 =>
     have hn:¬vs.toArray.size=1:=by simp at g4;simp[g4]
     rw[dif_neg hn];exact⟨vs,rfl,g1⟩
   obtain⟨F',hR⟩:=z0f6 hs' hval g2 g3 g5 h3 hsc hck.1 (λk hk hq=>by have:=zY1j.1 hck.2 k hk;rw[zY2c.2 hq]at this;cases this)
   exact⟨hs'.defers,_,hres,_,rfl,hs'.below,us,F',hR⟩
  ·cases ho
 cases x with
 |exit i=>simp only at h2;cases h2
 |normal =>
  cases e with
  |normal=>exact fin h2
  |_=>exact False.elim h1
 |ret =>
  cases e with
  |ret=>exact fin h2
  |_=>exact False.elim h1
end
abbrev I(n:Int):Dt:=.i .i64 n
def zl(n:Int):List Dt:=[I n]
def zhl(x:Bool):List Dt:=[.b x]
def z0a(x:List UInt8):List Dt:=[.s x]
def eSl(sz:Nat)(e:α->List Dt)(xs:List α):List Dt:=[.l sz (xs.map e)]
def eOp(x:Op):List Dt:=[I x.kind,I x.n]
def z3k(x:Point):List Dt:=[I x.tx,I x.at_]
def eIn(x:In):List Dt:=[I x.p.tx,I x.p.at_,.l 2 (x.key.map eOp)]
def z30(x:Out):List Dt:=[I x.coin,.l 2 (x.lock.map eOp)]
def eTx(x:Tx):List Dt:=[I x.height,.l 3 (x.ins.map eIn),.l 2 (x.outs.map z30)]
def za(x:Coin):List Dt:=[I x.p.tx,I x.p.at_,I x.o.coin,.l 2 (x.o.lock.map eOp),I x.height,.b x.reward]
def z6q(x:Undo):List Dt:=[.l 6 (x.spent.map za)]
def zf8(x:Book):List Dt:=[.l 1 (x.texts.map z0a)]
def z08(x:Block):List Dt:=[I x.parent,I x.height,I x.work,I x.nonce,.l 3 (x.txs.map eTx)]
def zc9(x:Tree):List Dt:=[.l 1 (x.names.map zl),.l 5 (x.blocks.map z08)]
structure ShE{α:Type}(S:Sh α)(e:α->List Dt):Prop where
 len:∀x,(e x).length=S.size
 to:∀ {w:World} {F:Nat->Prop} {x:α} {cs:List Value},S.rep w F x cs->Reps w F (e x) cs
 of:∀ {w:World} {F:Nat->Prop} {x:α} {cs:List Value},Reps w F (e x) cs->S.rep w F x cs
theorem wrap_i64{n:Int}(h: -9223372036854775808<=n/\n<=9223372036854775807):IntKind.i64.wrap n=n:=by unfold IntKind.wrap;simp only[IntKind.bits,IntKind.signed,zY39,ge_iff_le,decide_eq_true_eq];split<;>omega
theorem zsz{n:Int}(h:IntKind.i64.wrap n=n): -9223372036854775808<=n/\n<=9223372036854775807:=by unfold IntKind.wrap at h;simp only[IntKind.bits,IntKind.signed,zY39,ge_iff_le,decide_eq_true_eq]at h;split at h<;>omega
theorem z45:ShE shInt zl where
 len x:=rfl
 to:=by rintro w F x cs ⟨rfl,h⟩;exact⟨.i _ _ (wrap_i64 h),trivial⟩
 of:=by
  intro w F x cs h
  match cs,h with
  | [v],h=>obtain⟨rfl,h1⟩:=z3n h.1;exact⟨rfl,zsz h1⟩
theorem z09s:ShE shBool zhl where
 len x:=rfl
 to:=by rintro w F x cs rfl;exact⟨.b _,trivial⟩
 of:=by
  intro w F x cs h
  match cs,h with
  | [v],h=>obtain rfl:=z82 h.1;rfl
theorem ze1:ShE shStr z0a where
 len x:=rfl
 to:=by rintro w F x cs ⟨rfl,h⟩;exact⟨.s _ h,trivial⟩
 of:=by
  intro w F x cs h
  match cs,h with
  | [v],h=>obtain⟨rfl,h1⟩:=zoj h.1;exact⟨rfl,h1⟩
theorem zr0{S:Sh α}{e:α->List Dt}(h:ShE S e){xs:List α}{A:Option Addr}{c:Nat}(hr:Rds S w F xs A n c):Rep w F (.l S.size (xs.map e)) (.slice A n c):=by
 obtain⟨h1,h2,h3,h4⟩:=hr;have hsz:∀x∈xs.map e,x.length=S.size:=by intro x hx;obtain⟨y,_,rfl⟩:=zY2k.1 hx;exact h.len y
 rcases zY1u n with h0|h0
 ·have:xs=[]:=zY0c zX0;subst this;exact .l _ _ A n c 0 0 (λ_ _=>undef) (by simp[h1.symm]) zX4 h3 zX4 zX4 zX4 zX4
 ·obtain⟨b,off,rfl,hF,hc⟩:=h4 h0;have hc':∀i:Nat,∃cs:List Value,∀hi:i<xs.length,S.rep w F xs[i] cs/\∀j v,cs[j]?=some v->w.cell? ⟨b,off+i*S.size+j,none⟩=some v:=λi=>by
   by_cases hi:i<xs.length
   ·obtain⟨cs,g1,g2⟩:=hc i hi;exact⟨cs,λ_=>⟨g1,g2⟩⟩
   ·exact⟨[],λh=>absurd h hi⟩
  have key:∀i j x d,(xs.map e)[i]?=some x->x[j]?=some d->w.cell? ⟨b,off+i*S.size+j,none⟩=some ((Classical.choose (hc' i)).getD j undef)/\Rep w F d ((Classical.choose (hc' i)).getD j undef):=by
   intro i j x d hx hd;rw[zY0m,zY0t]at hx;obtain⟨y,hy,rfl⟩:=hx;have hi:=(zY02.1 hy).1;rw[zY03 hi]at hy;injection hy with hy;obtain⟨g1,g2⟩:=zY3j (hc' i) hi;rw[hy]at g1;obtain⟨v,hv,hr⟩:=(h.to g1).get hd;have e1:(Classical.choose (hc' i)).getD j undef=v:=by rw[zY0r,hv];rfl
   rw[e1];exact⟨g2 j v hv,hr⟩
  exact .l _ _ _ n c b off (λi j=>(Classical.choose (hc' i)).getD j undef) (by simp[h1]) zXa h3 hsz (λ_=>⟨rfl,hF⟩) (λi j x d hx hd=>(key i j x d hx hd).1) (λi j x d hx hd=>(key i j x d hx hd).2)
theorem z2u{S:Sh α}{e:α->List Dt}(h:ShE S e){xs:List α}{v:Value}(hr:Rep w F (.l S.size (xs.map e)) v):∃A n c,v=.slice A n c/\Rds S w F xs A n c:=by
 generalize hd:Dt.l S.size (xs.map e)=d at hr;cases hr with
 |l sz ys A n c b o vs g0 g1 g2 g3 g4 g5 g6 =>
  injection hd with e1 e2;subst e1;subst e2;simp only[zY0y]at g0 g1;refine⟨A,n,c,rfl,g0.symm,by omega,g2,λh0=>?_⟩;obtain⟨rfl,hF⟩:=g4 zXa;refine⟨b,o,rfl,hF,λi hi=>⟨(List.range S.size).map (vs i),h.of ?_,λj v hv=>?_⟩⟩
  ·refine Reps.of zX1i λj d u hd hu=>?_;obtain⟨hj,rfl⟩:=z37 hu;exact g6 i j (e xs[i]) d (by simp[hi]) hd
  ·obtain⟨hj,rfl⟩:=z37 hv;have hlt:j<(e xs[i]).length:=by rw[h.len];exact hj
   exact g5 i j (e xs[i]) _ (by simp[hi]) (zY03 hlt)
 |_=>cases hd
theorem z5a{S:Sh α}{e:α->List Dt}(h:ShE S e)(hs:S.size=sz):ShE (z0j S) (eSl sz e) where
 len x:=rfl
 to:=by rintro w F x cs ⟨A,n,c,rfl,hr⟩;subst hs;exact⟨zr0 h hr,trivial⟩
 of:=by
  intro w F x cs hr;subst hs
  match cs,hr with
  | [v],hr=>obtain⟨A,n,c,rfl,h1⟩:=z2u h hr.1;exact⟨A,n,c,rfl,h1⟩
theorem Reps.split{w:World}{F:Nat->Prop}:∀ {d1 d2:List Dt} {cs:List Value},Reps w F (d1++d2) cs->∃c1 c2,cs=c1++c2/\Reps w F d1 c1/\Reps w F d2 c2
 | [],d2,cs,h=>⟨[],cs,rfl,trivial,h⟩
 |d::d1,d2,[],h=>absurd h id
 |d::d1,d2,c::cs,h=>by obtain⟨c1,c2,rfl,h1,h2⟩:=Reps.split h.2;exact⟨c::c1,c2,rfl,⟨h.1,h1⟩,h2⟩
theorem z7h{τ:Type}{S0:Sh α}{S1:Sh β}{f:α->β->τ}{e0:α->List Dt}{e1:β->List Dt}{e:τ->List Dt}(h0:ShE S0 e0)(h1:ShE S1 e1)(hf:∀x,∃a b,x=f a b)(he:∀a b,e (f a b)=e0 a++e1 b):ShE (z3q S0 S1 f) e where
 len x:=by obtain⟨a,b,rfl⟩:=hf x;rw[he,zY04,h0.len,h1.len];rfl
 to:=by rintro w F x cs ⟨a,b,ca,cb,rfl,rfl,ha,hb⟩;rw[he];exact(h0.to ha).append (h1.to hb)
 of:=by intro w F x cs hr;obtain⟨a,b,rfl⟩:=hf x;rw[he]at hr;obtain⟨c1,c2,rfl,g1,g2⟩:=hr.split;exact⟨a,b,c1,c2,rfl,rfl,h0.of g1,h1.of g2⟩
theorem z0f8{τ:Type}{S0:Sh α}{f:α->τ}{e0:α->List Dt}{e:τ->List Dt}(h0:ShE S0 e0)(hf:∀x,∃a,x=f a)(he:∀a,e (f a)=e0 a):ShE (shS1 S0 f) e where
 len x:=by obtain⟨a,rfl⟩:=hf x;rw[he,h0.len];rfl
 to:=by rintro w F x cs ⟨a,rfl,ha⟩;rw[he];exact h0.to ha
 of:=by intro w F x cs hr;obtain⟨a,rfl⟩:=hf x;rw[he]at hr;exact⟨a,rfl,h0.of hr⟩
theorem zar:ShE shOp eOp:=z7h z45 z45 (λx=>⟨x.kind,x.n,rfl⟩) (λa b=>rfl)
theorem zt0:ShE shPoint z3k:=z7h z45 z45 (λx=>⟨x.tx,x.at_,rfl⟩) (λa b=>rfl)
theorem zwa:ShE shIn eIn:=z7h zt0 (z5a zar rfl) (λx=>⟨x.p,x.key,rfl⟩) (λa b=>rfl)
theorem zll:ShE shOut z30:=z7h z45 (z5a zar rfl) (λx=>⟨x.coin,x.lock,rfl⟩) (λa b=>rfl)
def zca(e0:α->List Dt)(e1:β->List Dt)(p:α×β):List Dt:=e0 p.1++e1 p.2
theorem zn7{S0:Sh α}{S1:Sh β}{e0:α->List Dt}{e1:β->List Dt}(h0:ShE S0 e0)(h1:ShE S1 e1):ShE (z3q S0 S1 Prod.mk) (zca e0 e1):=z7h h0 h1 (λx=>⟨x.1,x.2,rfl⟩) (λa b=>rfl)
theorem she_tx:ShE shTx eTx:=z7h (e1:=zca (eSl 3 eIn) (eSl 2 z30)) z45 (zn7 (z5a zwa rfl) (z5a zll rfl)) (λx=>⟨x.height,(x.ins,x.outs),rfl⟩) (λa b=>rfl)
theorem she_book:ShE shBook zf8:=z0f8 (e0:=eSl 1 z0a) (z5a ze1 rfl) (λx=>⟨x.texts,rfl⟩) (λa=>rfl)
theorem she_coin:ShE shCoin za:=by refine z7h (e0:=z3k) (e1:=zca z30 (zca zl zhl)) zt0 ?_ (λx=>⟨x.p,(x.o,x.height,x.reward),rfl⟩) (λa b=>rfl);exact z7h zll (zn7 z45 z09s) (λx=>⟨x.1,(x.2.1,x.2.2),rfl⟩) (λa b=>rfl)
theorem she_block:ShE shBlock z08:=by refine z7h (e0:=zl) (e1:=zca zl (zca zl (zca zl (eSl 3 eTx)))) z45 ?_ (λx=>⟨x.parent,(x.height,x.work,x.nonce,x.txs),rfl⟩) (λa b=>rfl);refine z7h (e1:=zca zl (zca zl (eSl 3 eTx))) z45 ?_ (λx=>⟨x.1,(x.2.1,x.2.2.1,x.2.2.2),rfl⟩) (λa b=>rfl);refine z7h (e1:=zca zl (eSl 3 eTx)) z45 ?_ (λx=>⟨x.1,(x.2.1,x.2.2),rfl⟩) (λa b=>rfl);exact zn7 z45 (z5a she_tx rfl)
theorem she_tree:ShE shTree zc9:=z7h (e0:=eSl 1 zl) (e1:=eSl 5 z08) (z5a z45 rfl) (z5a she_block rfl) (λx=>⟨x.names,x.blocks,rfl⟩) (λa b=>rfl)
theorem z4m{α β:Type}{f:α->β}(h:∀x y,f x=f y->x=y):∀ {xs ys:List α},xs.map f=ys.map f->xs=ys
 | [],[],_=>rfl
 |x::xs,y::ys,e=>by simp only[zY1n,zY22]at e;rw[h _ _ e.1,z4m h e.2]
 | [],_::_,e=>by simp at e
 |_::_,[],e=>by simp at e
theorem zn8(x y:Int)(h:zl x=zl y):x=y:=by simpa[zl]using h
theorem zwb(x y:List UInt8)(h:z0a x=z0a y):x=y:=by simpa[z0a]using h
theorem zlm(x y:Op)(h:eOp x=eOp y):x=y:=by cases x;cases y;simpa[eOp]using h
theorem zas(x y:Point)(h:z3k x=z3k y):x=y:=by cases x;cases y;simpa[z3k]using h
theorem z01w(x y:In)(h:eIn x=eIn y):x=y:=by obtain⟨⟨a,b⟩,k⟩:=x;obtain⟨⟨a',b'⟩,k'⟩:=y;simp only[eIn,zY22,Dt.i.injEq,true_and,Dt.l.injEq,and_true]at h;obtain⟨rfl,rfl,h⟩:=h;rw[z4m zlm h]
theorem zwc(x y:Out)(h:z30 x=z30 y):x=y:=by obtain⟨a,k⟩:=x;obtain⟨a',k'⟩:=y;simp only[z30,zY22,Dt.i.injEq,true_and,Dt.l.injEq,and_true]at h;obtain⟨rfl,h⟩:=h;rw[z4m zlm h]
theorem zr1(x y:Tx)(h:eTx x=eTx y):x=y:=by obtain⟨a,k,l⟩:=x;obtain⟨a',k',l'⟩:=y;simp only[eTx,zY22,Dt.i.injEq,true_and,Dt.l.injEq,and_true]at h;obtain⟨rfl,h,h'⟩:=h;rw[z4m z01w h,z4m zwc h']
theorem zf9(x y:Coin)(h:za x=za y):x=y:=by obtain⟨⟨a,b⟩,⟨c,k⟩,d,r⟩:=x;obtain⟨⟨a',b'⟩,⟨c',k'⟩,d',r'⟩:=y;simp only[za,zY22,Dt.i.injEq,true_and,Dt.l.injEq,Dt.b.injEq,and_true]at h;obtain⟨rfl,rfl,rfl,h,rfl,rfl⟩:=h;rw[z4m zlm h]
theorem z065(x y:Undo)(h:z6q x=z6q y):x=y:=by obtain⟨k⟩:=x;obtain⟨k'⟩:=y;simp only[z6q,zY22,true_and,Dt.l.injEq,and_true]at h;rw[z4m zf9 h]
theorem z066(x y:Book)(h:zf8 x=zf8 y):x=y:=by obtain⟨k⟩:=x;obtain⟨k'⟩:=y;simp only[zf8,zY22,true_and,Dt.l.injEq,and_true]at h;rw[z4m zwb h]
theorem zou(x y:Block)(h:z08 x=z08 y):x=y:=by obtain⟨a,b,c,d,k⟩:=x;obtain⟨a',b',c',d',k'⟩:=y;simp only[z08,zY22,Dt.i.injEq,true_and,Dt.l.injEq,and_true]at h;obtain⟨rfl,rfl,rfl,rfl,h⟩:=h;rw[z4m zr1 h]
theorem zt1(x y:Tree)(h:zc9 x=zc9 y):x=y:=by obtain⟨a,k⟩:=x;obtain⟨a',k'⟩:=y;simp only[zc9,zY22,true_and,Dt.l.injEq,and_true]at h;rw[z4m zn8 h.1,z4m zou h.2]
noncomputable def z09(e:α->List Dt)(f:α->List Dt):zd:=λds=>open Classical in if h:∃x,e x=ds then some (f (Classical.choose h))else none
theorem z8d{e:α->List Dt}{f:α->List Dt}(hi:∀x y,e x=e y->x=y)(x:α):z09 e f (e x)=some (f x):=by
 have h:∃y,e y=e x:=⟨x,rfl⟩
 unfold z09;rw[dif_pos h,hi _ _ (zY3j h)]
theorem z38{e:α->List Dt}{f:α->List Dt}{ds rs:List Dt}(h:z09 e f ds=some rs):∃x,ds=e x/\rs=f x:=by
 unfold z09 at h;split at h
 ·rename_i hx;injection h with h;exact⟨_,(zY3j hx).symm,h.symm⟩
 ·cases h
section
variable {P:Program} {W:World} {F:Nat->Prop}
theorem z1y{ds:List Dt}{us:List Value}(h:PKRs W F [] ds us):us=[]:=h.2
theorem zeg{ds:List Dt}{us:List Value}(h:PKRs W F [.agg n] ds us):∃cs:List Value,us=[.agg cs.toArray]/\Reps W F ds cs:=by obtain⟨e1,e2,v,vs,rfl,rfl,⟨hl,cs,rfl,hr⟩,rfl,rfl⟩:=h;exact⟨cs,rfl,by simpa using hr⟩
theorem z1c{ps:List PK}{d:Dt}{ds:List Dt}{us:List Value}(h:PKRs W F (.one::ps) (d::ds) us):∃v vs,us=v::vs/\Rep W F d v/\PKRs W F ps ds vs:=by obtain⟨e1,e2,v,vs,he,rfl,⟨x,rfl,hr⟩,h2⟩:=h;simp only[zY2y,zY22]at he;obtain⟨rfl,rfl⟩:=he;exact⟨v,vs,rfl,hr,h2⟩
theorem zov:PKRs W F [] [] []:=⟨rfl,rfl⟩
theorem zdk{ps:List PK}{d:Dt}{ds:List Dt}{v:Value}{us:List Value}(h:Rep W F d v)(h2:PKRs W F ps ds us):PKRs W F (.one::ps) (d::ds) (v::us):=⟨[d],ds,v,us,rfl,rfl,⟨d,rfl,h⟩,h2⟩
theorem zow{ps:List PK}{d1 d2:List Dt}{cs us:List Value}(h:Reps W F d1 cs)(hn:d1.length=n)(h2:PKRs W F ps d2 us):PKRs W F (.agg n::ps) (d1++d2) (.agg cs.toArray::us):=⟨d1,d2,_,us,rfl,rfl,⟨hn,cs,rfl,h⟩,h2⟩
def En(P:Program)(f:Nat):Prop:=∃fn c,P.funcs[f]?=some fn/\(fn.name == "runtime.NumGoroutine")=false/\fn.body=some c
theorem En.run(h:En P f)(args:Array Value)(w:World):(callFunc f args).run P w=.ok (.enter f args) w:=let⟨_,_,h1,h2,h3⟩:=h;zjj h1 h2 h3 args w
theorem zn9{s:List PK}{l:Bool}{d:Dt}{v:Value}(hd:d.scal=true)(hr:Rep W' F d v):∃us F',ResR W F W' ⟨s,[(false,[.scal])],l⟩ [d] v us F':=by
 refine⟨[v],F,⟨⟨rfl,rfl⟩,rfl,rfl,λj f x u hf hx hu=>?_,λb hb=>.inl hb,λj e sz u b hf=>?_,λj j' e sz e' sz' u u' b hf=>?_⟩⟩
 ·cases j with
  |zero =>simp only[zu,zY1x,zY2r,zY1b,zY05,zY00]at hf hx hu;subst hf;subst hx;subst hu;exact⟨hd,hr⟩
  |succ j=>simp[zu]at hf
 ·cases j<;>simp[zu]at hf
 ·cases j<;>simp[zu]at hf
theorem zm2{spec:zd}{pk:List PK}{b:Bool}(hpk:z4w pk=false)(hen:En P f)(hM:Meets P spec f ⟨pk,[(false,[.scal])],true⟩){ds:List Dt}{us:List Value}(hF:zd1 F W)(hs:spec ds=some [.b b])(hargs:PKRs W F pk ds us) :
  Calls P f us.toArray W λe w'=>e=.returned (.bool b)/\Below W.heap.size W w':=by
 rcases hM.1 hpk W F ds us _ hF hargs hs with⟨_,h⟩|⟨v,W',h1,_⟩
 ·refine h.mono λe w' ⟨v,h1,h2,us,F',hR⟩=>⟨?_,h2⟩
  obtain⟨rfl,_⟩:=hR.val;have:=(hR.cells 0 .scal (.b b) v rfl rfl rfl).2;rw[h1,z82 this]
 ·rw[hen.run]at h1;cases h1
end
section
variable {sp:Nat->zd} {N:Nat} {E:Env} {ks:List (List Dt->Option (List Dt))} {res:Option (List Dt)}
theorem z5{ds:List Dt}(h:vals E as0=some ds)(hr:some ds=res):den sp N (.ret as0) E ks=res:=by simp only[den];rw[h];exact hr
theorem z4{k:T}{d:Dt}{E':Env}(h:denX sp E x=some d)(hk:den sp N k E' ks=res)(hE:E++[d]=E':=by(simp only[zY1g,zY16];try exact rfl)):den sp N (.W [x] [] k) E ks=res:=by subst hE;simp only[den,z0s,h,z0w,zY0a,zY07,zY1e,if_true];exact hk
theorem z26{k:T}(h:z0w sp E xs=true)(hk:den sp N k E ks=res):den sp N (.W [] xs k) E ks=res:=by simp only[den,z0s,zY1b,h,if_true];exact hk
theorem z3g{k:T}{ds:List Dt}{E':Env}(h:z0s sp E xs=some ds)(hk:den sp N k E' ks=res)(hE:E++ds=E':=by(simp only[zY1g,zY16];try exact rfl)):den sp N (.W xs [] k) E ks=res:=by subst hE;simp only[den,h,z0w,if_true];exact hk
theorem z1t{a:Atom}{t e:T}{c:Bool}(h:a.val E=some (.b c))(ht:c=true->den sp N t E ks=res)(he:c=false->den sp N e E ks=res):den sp N (.ite a t e) E ks=res:=by
 simp only[den,h];cases c
 ·exact he rfl
 ·exact ht rfl
theorem z3y:z0s sp E []=some []:=rfl
theorem z0d{d:Dt}{ds:List Dt}(h:denX sp E x=some d)(hs:z0s sp E xs=some ds):z0s sp E (x::xs)=some (d::ds):=by simp only[z0s,h,hs,zY0a,zY07,zY1e]
theorem z3h{args:List Atom}{ds rs:List Dt}{d:Dt}(h:vals E args=some ds)(hs:sp ci ds=some rs)(hj:rs[j]?=some d):denX sp E (.call ci args j)=some d:=by simp only[denX,h,hs,zY0a,zY07];exact hj
theorem zt2{args:List Atom}{ds rs:List Dt}(h:vals E args=some ds)(hs:sp ci ds=some rs):z0s sp E ((List.range rs.length).map λj=>.call ci args j)=some rs:=by
 have key:∀(n k:Nat),k+n=rs.length->z0s sp E ((List.range' k n).map λj=>.call ci args j)=some (rs.drop k):=by
  intro n;induction n with
  |zero=>intro k hk;simp[z0s,zY2a (show rs.length<=k by omega)]
  |succ n ih =>intro k hk;rw[List.range'_succ,zY1n,zY1z (by omega:k<rs.length)];exact z0d (z3h h hs (zY03 _)) (ih (k+1) zX0)
 have:=key rs.length 0 zX0;rw[List.range_eq_range'];simpa using this
theorem z0y{body:T}{ds:List Dt}(h:vals E as0=some ds)(hi:z04 (λagain ds=>den sp N body (E++ds) (ks++[again])) N ds=res):den sp N (.loop as0 body) E ks=res:=by simp only[den,h];exact hi
theorem z6{lvl:Nat}{ds:List Dt}{k:List Dt->Option (List Dt)}(hk:ks[lvl]?=some k)(h:vals E as0=some ds)(hr:k ds=res):den sp N (.again lvl as0) E ks=res:=by simp only[den,hk,h];exact hr
theorem z0co{n:Nat}{a i:Atom}{xs:List (List Dt)}{m:Int}(ha:a.val E=some (.l sz xs))(hi:i.val E=some (I m))(h0:0<=m)(h1:m<xs.length):denX sp E (.inr sz a i)=some (.b true):=by simp only[denX,ha,hi,asI,if_true];simp[h0,h1]
theorem z1h{a i:Atom}{xs:List (List Dt)}{m:Int}(ha:a.val E=some (.l sz xs))(hi:i.val E=some (I m))(h0:0<=m)(h1:m<xs.length):z0w sp E [.inr sz a i]=true:=by simp only[z0w,z0co (sp:=sp) (n:=0) ha hi h0 h1]
theorem z1d{a i:Atom}{xs:List (List Dt)}{m:Int}{x:List Dt}{d:Dt}(ha:a.val E=some (.l sz xs))(hi:i.val E=some (I m))(h0:0<=m)(hx:xs[m.toNat]?=some x)(hj:x[j]?=some d):denX sp E (.idx a i j)=some d:=by simp only[denX,ha,hi,asI,zP h0,hx,zY07];exact hj
theorem z0cp{a b:Atom}{xs ys:List (List Dt)}(ha:a.val E=some (.l sz xs))(hb:b.val E=some (.l sz ys))(h:xs.length+ys.length<=1000000):denX sp E (.app sz a b)=some (.l sz (xs++ys)):=by simp only[denX,ha,hb];exact zP ⟨trivial,.inl ⟨rfl,h⟩⟩
theorem z1p{rows:List (List Atom)}{r:List (List Dt)}(h:valss E rows=some r)(hs:r.all (λx=>x.length==sz)=true)(hl:r.length<=1000000):denX sp E (.mk sz rows)=some (.l sz r):=by simp only[denX,h,zY0a,zY07];simp only[hs,hl,and_self,if_true]
end
section
variable {P:Program}
theorem z14(f:Nat)(s:Sig):Meets P (λ_=>none) f s:=by
 refine⟨?_,?_⟩
 ·intro _ W F ds args rs _ _ h;cases h
 ·intro e sz ps _ W F base v xs vs ds args rs _ _ _ _ _ _ _ h;cases h
theorem z27{sp:Nat->zd}{f0:Nat}{s0:Sig}{l:List (Nat×Sig)}(h0:Meets P (sp 0) f0 s0)(h:∀ci f s,l[ci]?=some (f,s)->Meets P ((λc=>sp (c+1)) ci) f s):∀ci f s,((f0,s0)::l)[ci]?=some (f,s)->Meets P (sp ci) f s
 |0,f,s,e=>by simp only[zY05,zY00,zY19]at e;obtain⟨rfl,rfl⟩:=e;exact h0
 |ci+1,f,s,e=>h ci f s (by simpa using e)
end
end Go.Proofs.YtmjelcjgllkapaaGreatDoor
