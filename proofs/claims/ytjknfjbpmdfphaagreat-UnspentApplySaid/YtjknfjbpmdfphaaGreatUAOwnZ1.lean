/- Own texts, put together by wip/bundle.py: VdW, VdX, VU1, VdY1, VdY2, VdY3, VdY, VEr0, VU2, VU3, VU4, VU5, VTK, VL0, VU7, VUA, VQ1, VQ2, VQ3, VQ4, VQ5. -/
import Derived.Test.YtjknfjbpmdfphaaGreatProg
import Derived.KernelRfl
import Derived.Sort.Defs
import Derived.Deep.DeepCutAuto
import Derived.Deep.Light
import Derived.Test.YtjknfjbpmdfphaaGreatUAOwnB
import Derived.Test.YtjknfjbpmdfphaaGreatUAOwnC
import Derived.Test.YtjknfjbpmdfphaaGreatUAOwnR
import Derived.Test.YtjknfjbpmdfphaaGreatUAOwnV2
set_option linter.unusedVariables false
set_option linter.unusedSimpArgs false
namespace Go.Proofs.YtjknfjbpmdfphaaGreat
section
open Go.RowKit
def zfw:zdn:=[(3,⟨1,false,[.i .i64 0],[],false,none,some .i64,none,none⟩),(5,⟨1,false,[.i .u8 0],[],false,none,some .u8,none,none⟩),(102,⟨1,false,[.i .u64 0],[],false,none,some .u64,none,none⟩),(4,⟨1,false,[.b false],[],false,none,none,none,none⟩),(9,⟨1,false,[.s []],[],false,none,none,none,none⟩),(29,⟨1,false,[.i .i64 0],[],false,none,some .i64,none,none⟩),(67,⟨1,false,[.nil 1],[],false,some (3,1,8),none,none,none⟩),(45,⟨1,false,[.nil 2],[],false,some (54,2,16),none,none,none⟩),(65,⟨1,false,[.nil 2],[],false,some (49,2,16),none,none,none⟩),(23,⟨1,false,[.nil 3],[],false,some (61,3,40),none,none,none⟩),(24,⟨1,false,[.nil 2],[],false,some (47,2,32),none,none,none⟩),(22,⟨1,false,[.nil 6],[],false,some (57,6,64),none,none,none⟩),(92,⟨1,false,[.nil 1],[],false,some (22,1,24),none,none,none⟩),(54,⟨2,true,[.i .i64 0,.i .i64 0],[(0,1),(1,1)],true,none,none,none,none⟩),(49,⟨2,true,[.i .i64 0,.i .i64 0],[(0,1),(1,1)],true,none,none,none,none⟩),(61,⟨3,true,[.i .i64 0,.i .i64 0,.nil 2],[(0,2),(2,1)],false,none,none,none,none⟩),(47,⟨2,true,[.i .i64 0,.nil 2],[(0,1),(1,1)],false,none,none,none,none⟩),(26,⟨3,true,[.i .i64 0,.nil 3,.nil 2],[(0,1),(1,1),(2,1)],false,none,none,none,none⟩),(57,⟨6,true,[.i .i64 0,.i .i64 0,.i .i64 0,.nil 2,.i .i64 0,.b false],[(0,2),(2,2),(4,1),(5,1)],false,none,none,none,none⟩),(28,⟨1,true,[.nil 6],[(0,1)],false,none,none,none,none⟩),(119,⟨3,true,[.nil 1,.i .i64 0,.b false],[(0,1),(1,1),(2,1)],false,none,none,none,none⟩),(117,⟨1,false,[],[],false,none,none,none,none⟩),(99,⟨2,true,[.nil 2,.nil 2],[],false,none,none,some (2,45),none⟩),(103,⟨1,false,[],[],false,none,none,none,some (3,3)⟩)]
theorem zip:tabB Tryz.prog zfw=true:=by kernel_rfl
theorem zok:Tryz.prog.follows .mixedOrders=true:=by kernel_rfl
def z86 (f:Nat) (fn:Func) (hints:List Hint) (cut:List Nat):FnI:=⟨f,fn.ntmps,hints,cut,fn.results.toList,fn.body.getD .skip⟩
def fxOf (ty:zdn) (sigs:List (Nat × Sig)) (fn:Func) (cut:List Nat) (hints:List Hint) (fns:List FnI) (dep:Nat):Fx :=
 ⟨⟨ty,sigs,cut⟩,fn.ntmps,hints,fns,4 * fn.ntmps+dep * 400,if dep=0 then 4 * fn.ntmps+10 else 4 * fn.ntmps+dep * 400+100,dep,4⟩
def fxIn (ty:zdn) (sigs:List (Nat × Sig)) (fn:Func) (cut:List Nat) (hints:List Hint) (fns:List FnI) (dep pool:Nat):Fx:=⟨⟨ty,sigs,cut⟩,fn.ntmps,hints,fns,pool,pool+80,dep,1⟩
theorem z04z {sp:Nat→zh} {sigs:List (Nat × Sig)} {cut:List Nat} {hints:List Hint} {sig:Sig} {f:Nat} {fn:Func} {t:T} {spec:zh} {fns:List FnI} {dep pool:Nat} (hf:Tryz.prog.funcs[f]? = some fn) (hname:(fn.name == "runtime.NumGoroutine")=false)
  (hdec:decomp (fxIn zfw sigs fn cut hints fns dep pool) sig fn=some t) (hfn:∀ g ∈ fns,z98 Tryz.prog g) (hsig:∀ ci f s,sigs[ci]? = some (f,s)→Meets Tryz.prog (sp ci) f s) (hspec:∀ ds rs,(∀ d ∈ ds,d.ok)→spec ds=some rs→(∃ N,den sp N t ds []=some rs)∧z4h sig rs):Meets Tryz.prog spec f sig :=
 zo9 hf hname hdec zip zok hfn hsig hspec
theorem z9b {P:Program}:∀ g ∈ ([]:List FnI),z98 P g:=fun g h=>by cases h
theorem z28 {P:Program} {g:FnI} {l:List FnI} {fn:Func} (h1:P.funcs[g.f]? = some fn) (h2:(fn.name == "runtime.NumGoroutine")=false) (h3:fn.body=some g.body) (h4:fn.ntmps=g.nt) (h5:fn.results.toList=g.results) (hl:∀ g ∈ l,z98 P g):∀ x ∈ g::l,z98 P x:=by
 intro x hx;rcases zY0m.1 hx with he|hx
 ·rw [he];exact ⟨fn,h1,h2,h3,h4,h5⟩
 ·exact hl x hx
theorem z3s {sp:Nat→zh} {sigs:List (Nat × Sig)} {cut:List Nat} {hints:List Hint} {sig:Sig} {f:Nat} {fn:Func} {t:T} {spec:zh} (hf:Tryz.prog.funcs[f]? = some fn) (hname:(fn.name == "runtime.NumGoroutine")=false)
  (hdec:decomp (fxOf zfw sigs fn cut hints [] 0) sig fn=some t) (hsig:∀ ci f s,sigs[ci]? = some (f,s)→Meets Tryz.prog (sp ci) f s) (hspec:∀ ds rs,(∀ d ∈ ds,d.ok)→spec ds=some rs→(∃ N,den sp N t ds []=some rs)∧z4h sig rs):Meets Tryz.prog spec f sig :=
 zo9 hf hname hdec zip zok (fun g h=>by cases h) hsig hspec
theorem z4c {P:Program} {f:Nat} {fn:Func} (h1:P.funcs[f]? = some fn) (h2:(fn.name == "runtime.NumGoroutine")=false) (h3:fn.body.isSome=true):En P f:=by
 obtain ⟨c,hc⟩:=Option.isSome_iff_exists.1 h3;exact ⟨fn,c,h1,h2,hc⟩
section
variable {P:Program} {W W':World} {F F':Nat→Prop}
theorem za2 {α β:Type} {S:Sh β} {eS:β→List Dt} (hE:ShE S eS) {e:α→List Dt} {xs:α→List β} {pk:List PK} {t sz:Nat} {f:Nat} (hpk:z3n pk=false) (hsz:S.size=sz) (hpos:0<S.size) (hen:En P f)
  (h:∀ x W F us,(∀ b,F b→b<W.heap.size)→PKRs W F pk (e x) us→Calls P f us.toArray W fun r W'=>∃ n,z9a S t W F (xs x) n r W') :
  Meets P (z0p e fun x=>[.l sz ((xs x).map eS)]) f ⟨pk,[(false,[.fresh t sz])],false⟩:=by
 refine .mk hpk ?_;intro W F ds args rs hF hargs hsp;obtain ⟨x,rfl,rfl⟩:=z1u hsp;refine .inl ⟨hen.run _ _,(h x W F args hF.1 hargs).mono ?_⟩;rintro r W' ⟨n,v,zs,rfl,hz,hr,ho,hb⟩;subst hsz;have hag:Agree F W W':=fun b hb'=>hb.block b (hF.1 b hb')
 have hzl:zs.length=n:=by
  have h1:=ho.1;rw [z46 fun z hz=>S.len (hr z hz)] at h1;exact Nat.eq_of_mul_eq_mul_right hpos h1
 refine ⟨v,rfl,hb,[v],F,⟨⟨rfl,rfl⟩,rfl,rfl,fun j c d u hf hd hu=>?_,fun b hb=>.inl hb,fun j e' sz' u b hf hu hbl hFb=>?_,fun j j' e sz e' sz' u u' b hf hu hf' hu' _ _=>?_⟩⟩
 ·cases j with
  | succ j=>simp [zw] at hf
  | zero =>
   simp only [zw,zY25,List.flatMap_nil,zY2e,zY09,zY00] at hf hd hu;subst hf;subst hd;subst hu;refine ⟨_,flat zs,rfl,fun y hy=>?_,?_,?_⟩
   ·obtain ⟨z,_,rfl⟩:=zY2h.1 hy
    exact hE.len z
   ·rw [zY10,← hz,zY10,hzl];exact ho
   ·rw [← hz]
    clear ho hz hzl
    induction zs with
    | nil=>exact trivial
    | cons z zs ih =>
     simp only [flat,zY1t,zY1d];exact (hE.to (S.keep hag (hr z (zY0l ..)))).append (ih fun z hz=>hr z (zY0j _ hz))
 ·cases j with
  | succ j=>simp [zw] at hf
  | zero =>
   simp only [zY09,zY00] at hu;subst hu;have h1:=zfs ho hbl;have h2:=hF.1 b hFb;omega
 ·cases j <;> cases j' <;> simp [zw] at hf hf' ⊢
theorem z7k {α:Type} {e:α→List Dt} {d:α→Dt} {pk:List PK} {f:Nat} (hpk:z3n pk=false) (hen:En P f) (hd:∀ x,(d x).scal=true)
  (h:∀ x W F us,(∀ b,F b→b<W.heap.size)→PKRs W F pk (e x) us→Calls P f us.toArray W fun r W'=>∃ v,r = .returned v∧Below W.heap.size W W'∧Rep W' (fun _=>False) (d x) v):Meets P (z0p e fun x=>[d x]) f ⟨pk,[(false,[.scal])],true⟩:=by
 refine .mk hpk ?_;intro W F ds args rs hF hargs hs;obtain ⟨x,rfl,rfl⟩:=z1u hs;refine .inl ⟨hen.run _ _,(h x W F args hF.1 hargs).mono fun e w' ⟨v,h1,h2,h3⟩=>⟨v,h1,h2,zog (hd x) (h3.mono (fun _ h=>h.elim) (fun _ h=>h.elim))⟩⟩
end
end
section
open Go.RowKit
section
variable {sp:Nat→zh} {N:Nat} {E:Env} {ks:List (List Dt→Option (List Dt))} {res:Option (List Dt)}
theorem zzp {ci:Nat} {args:List Atom} {xs:List X} {ds rs:List Dt} (hx:xs=(List.range rs.length).map fun j=>.call ci args j) (h:vals E args=some ds) (hs:sp ci ds=some rs):z1b sp E xs=some rs:=hx ▸ zim h hs
theorem z47 {a b:Atom} {m n:Int} (ha:a.val E=some (I m)) (hb:b.val E=some (I n)) (h : -9223372036854775808≤m+n∧m+n≤9223372036854775807):denX sp E (.bin .add a b)=some (I (m+n)):=by
 have e:denX sp E (.bin .add a b)=some (I (IntKind.i64.wrap (m+n))):=by simp only [denX,ha,hb,zY0a,zY05];rfl
 rw [e,wrap_i64 h]
end
section
variable {sp:Nat→zh} {N:Nat} {E:Env} {ks:List (List Dt→Option (List Dt))} {res:Option (List Dt)}
theorem z072 {a b:Atom} {m n:Int} (ha:a.val E=some (I m)) (hb:b.val E=some (I n)) (h:m=n):denX sp E (.bin .neq a b)=some (.b false):=by
 have e:denX sp E (.bin .neq a b)=some (.b (!decide (m=n))):=by simp only [denX,ha,hb,zY0a,zY05];rfl
 rw [e,decide_eq_true h];rfl
theorem zt {a:Atom} {t e:T} (h:a.val E=some (.b true)) (ht:den sp N t E ks=res):den sp N (.ite a t e) E ks=res:=z0z h (fun _=>ht) (fun h=>by cases h)
theorem zq {a:Atom} {t e:T} (h:a.val E=some (.b false)) (he:den sp N e E ks=res):den sp N (.ite a t e) E ks=res:=z0z h (fun h=>by cases h) (fun _=>he)
theorem z04 {a:Atom} {sz:Nat} {xs:List (List Dt)} {n:Int} (ha:a.val E=some (.l sz xs)) (h:(xs.length:Int)=n):denX sp E (.len a)=some (I n):=by
 simp only [denX,ha];rw [h]
end
section
variable {sp:Nat→zh} {N:Nat} {E:Env} {ks:List (List Dt→Option (List Dt))} {res:Option (List Dt)}
theorem z073 {a b:Atom} {m n:Int} (ha:a.val E=some (I m)) (hb:b.val E=some (I n)) (h : -9223372036854775808≤m - n∧m - n≤9223372036854775807):denX sp E (.bin .sub a b)=some (I (m - n)):=by
 have e:denX sp E (.bin .sub a b)=some (I (IntKind.i64.wrap (m - n))):=by simp only [denX,ha,hb,zY0a,zY05];rfl
 rw [e,wrap_i64 h]
theorem z05 {a b:Atom} {m n:Int} (ha:a.val E=some (I m)) (hb:b.val E=some (I n)) (h : -9223372036854775808≤m * n∧m * n≤9223372036854775807):denX sp E (.bin .mul a b)=some (I (m * n)):=by
 have e:denX sp E (.bin .mul a b)=some (I (IntKind.i64.wrap (m * n))):=by simp only [denX,ha,hb,zY0a,zY05];rfl
 rw [e,wrap_i64 h]
theorem zhf {a b:Atom} {m n:Int} (ha:a.val E=some (I m)) (hb:b.val E=some (I n)) (h:n≠0):denX sp E (.bin .rem a b)=some (I (m.tmod n)):=by
 have e:denX sp E (.bin .rem a b)=(if n=0 then none else some (I (m.tmod n))):=by simp only [denX,ha,hb,zY0a,zY05];rfl
 rw [e,if_neg h]
theorem zol {F:(List Dt→Option (List Dt))→List Dt→Option (List Dt)} {σ:Type} {st:σ→List Dt} {Inv:σ→Prop} {μ:σ→Nat} (step:∀ s,Inv s→∀ again,(∀ s',Inv s'→μ s'<μ s→again (st s')=res)→F again (st s)=res):∀ (N:Nat) (s:σ),Inv s→μ s<N→zf F N (st s)=res
 | 0,s,_,h=>absurd h (Nat.not_lt_zero _)
 | N+1,s,hi,h=>step s hi _ fun s' h1 h2=>zol step N s' h1 (by omega)
theorem zco {ats:List Atom} {body:T} {σ:Type} (st:σ→List Dt) (Inv:σ→Prop) (μ:σ→Nat) (s0:σ) (h:vals E ats=some (st s0)) (h0:Inv s0) (hN:μ s0<N)
  (step:∀ s,Inv s→∀ again:List Dt→Option (List Dt),(∀ s',Inv s'→μ s'<μ s→again (st s')=res)→den sp N body (E++st s) (ks++[again])=res):den sp N (.loop ats body) E ks=res :=
 zn h (zol (F:=fun again ds=>den sp N body (E++ds) (ks++[again])) step N s0 h0 hN)
end
theorem z0i {pk:List PK} {l:Bool} {d:Dt} (h:d.scal=true):z4h ⟨pk,[(false,[.scal])],l⟩ [d]:=by
 intro i x hi hd
 match i,hi,hd with
 | 0,_,hd=>simp only [zY09,zY00] at hd;subst hd;exact h
 | i+1,_,hd=>simp at hd
theorem zb7 {pk:List PK} {l:Bool} {d d':Dt} (h:d.scal=true) (h':d'.scal=true):z4h ⟨pk,[(false,[.scal]),(false,[.scal])],l⟩ [d,d']:=by
 intro i x hi hd
 match i,hi,hd with
 | 0,_,hd=>simp only [zY09,zY00] at hd;subst hd;exact h
 | 1,_,hd=>simp only [zY09,zY22,zY00] at hd;subst hd;exact h'
 | i+2,_,hd=>simp at hd
theorem zvz {s:Sig} {ds:List Dt} (h:∀ c ∈ zw s,c.isScal=false):z4h s ds:=by
 intro i x hi hd;have:=h _ (zY0o hi)
 cases this
end
section
open Go.RowKit
set_option maxRecDepth 100000
abbrev zZr:Nat × Sig:=(99999,⟨[],[],true⟩)
def zb8:List (Nat × Sig):=[(49,⟨[.one],[(false,[.scal])],true⟩),(50,⟨[.one,.one],[(false,[.scal])],true⟩),(64,⟨[.one],[(false,[.scal])],true⟩),(26,⟨[.agg 2,.agg 2],[(false,[.scal])],true⟩),(46,⟨[.agg 6,.agg 2],[(false,[.scal])],true⟩),(45,⟨[.one,.agg 2,.clos 46 []],[(false,[.scal]),(false,[.scal])],true⟩),(19,⟨[.one,.agg 2],[(false,[.scal]),(false,[.scal])],true⟩),(25,⟨[.one],[(false,[.scal])],true⟩)]
def z4k (a b:Int):Int:=if a<b then -1 else if b<a then 1 else 0
def z14 (p q:Point):Int:=if z4k p.tx q.tx≠0 then z4k p.tx q.tx else z4k p.at_ q.at_
def ltP (p q:Point):Prop:=p.tx<q.tx∨(p.tx=q.tx∧p.at_<q.at_)
instance (p q:Point):Decidable (ltP p q):=by unfold ltP;infer_instance
theorem zym (a b:Int):z4k a b<0↔a<b:=by unfold z4k;split <;> (try split) <;> omega
theorem zhg (a b:Int):z4k a b=0↔a=b:=by unfold z4k;split <;> (try split) <;> omega
theorem zdv (p q:Point):z14 p q<0↔ltP p q:=by
 have h1:=zym p.tx q.tx;have h2:=zhg p.tx q.tx;have h3:=zym p.at_ q.at_;unfold z14 ltP
 split <;> omega
theorem z075 (p q:Point):z14 p q=0↔p=q:=by
 have h2:=zhg p.tx q.tx;have h3:=zhg p.at_ q.at_;obtain ⟨a,b⟩:=p;obtain ⟨c,d⟩:=q;simp only [Point.mk.injEq];unfold z14;simp only at *
 split <;> omega
theorem z4l {p q r:Point} (h:ltP p q) (k:ltP q r):ltP p r:=by unfold ltP at *;omega
theorem z3x (p:Point):¬ ltP p p:=by unfold ltP;omega
theorem zir {p q:Point} (h:ltP p q):¬ ltP q p:=by unfold ltP at *;omega
theorem zhh (p q:Point):ltP p q∨p=q∨ltP q p:=by
 obtain ⟨a,b⟩:=p;obtain ⟨c,d⟩:=q;simp only [Point.mk.injEq];unfold ltP;simp only;omega
def z0a (l:List Coin):Prop:=l.Pairwise fun c d=>ltP c.p d.p
def zi (l:List Coin) (p:Point):Nat:=l.countP fun c=>decide (ltP c.p p)
def z1g (l:List Coin) (p:Point):Bool:=l.any fun c=>decide (c.p=p)
theorem zb9 (l:List Coin) (p:Point):zi l p≤l.length:=List.countP_le_length
theorem z60 {l:List Coin} (h:z0a l) {i j:Nat} (hi:i<j) (hj:j<l.length):ltP (l[i]'(by omega)).p l[j].p:=List.pairwise_iff_getElem.1 h i j (by omega) hj hi
theorem zom {l:List Coin} {p:Point} {i:Nat} (hi:i≤l.length) (h1:∀ t (ht:t<l.length),t<i→ltP l[t].p p) (h2:∀ t (ht:t<l.length),i≤t→¬ ltP l[t].p p):zi l p=i:=by
 unfold zi
 induction l generalizing i with
 | nil=>simp at hi;simp [hi]
 | cons c l ih =>
  cases i with
  | zero =>
   rw [List.countP_eq_zero];intro x hx;obtain ⟨t,ht,rfl⟩:=zY2f hx;simpa using h2 t ht (Nat.zero_le _)
  | succ i =>
   have h0:=h1 0 (by simp) (by omega);simp only [List.getElem_cons_zero] at h0;rw [List.countP_cons_of_pos (by simpa using h0),ih (i:=i) (by simpa using hi) (fun t ht hti=>h1 (t+1) (by simpa using ht) (by omega)) (fun t ht hti=>h2 (t+1) (by simpa using ht) (by omega))]
theorem zea {l:List Coin} (h:z0a l) (p:Point):(∀ t (ht:t<l.length),t<zi l p→ltP l[t].p p)∧(∀ t (ht:t<l.length),zi l p≤t→¬ ltP l[t].p p):=by
 induction l with
 | nil=>simp
 | cons c l ih =>
  have hs:z0a l:=(zY1p.1 h).2;have hc:=(zY1p.1 h).1;obtain ⟨i1,i2⟩:=ih hs
  by_cases h0:ltP c.p p
  ·have e:zi (c::l) p=zi l p+1:=by unfold zi;rw [List.countP_cons_of_pos (by simpa using h0)]
   rw [e];refine ⟨fun t ht hti=>?_,fun t ht hti=>?_⟩
   ·cases t with
    | zero=>exact h0
    | succ t=>simpa using i1 t (by simpa using ht) (by omega)
   ·cases t with
    | zero=>omega
    | succ t=>simpa using i2 t (by simpa using ht) (by omega)
  ·have e:zi (c::l) p=0:=by
    unfold zi;rw [List.countP_eq_zero];intro x hx;rcases zY0m.1 hx with rfl|hx
    ·simpa using h0
    ·have:=hc x hx
     simp only [decide_eq_true_eq];exact fun hx'=>h0 (z4l this hx')
   rw [e];refine ⟨fun t ht hti=>by omega,fun t ht hti=>?_⟩
   cases t with
   | zero=>exact h0
   | succ t =>
    have ht':t<l.length:=by simpa using ht
    have:=hc l[t] (zY1r _);simp only [List.getElem_cons_succ];exact fun hx'=>h0 (z4l this hx')
theorem zba {l:List Coin} (h:z0a l) (p:Point):z1g l p=true↔∃ ht:zi l p<l.length,(l[zi l p]'ht).p=p:=by
 unfold z1g;rw [zY2t];obtain ⟨i1,i2⟩:=zea h p;constructor
 ·rintro ⟨c,hc,hp⟩
  obtain ⟨t,ht,rfl⟩:=zY2f hc;have hp:=of_decide_eq_true hp;have e:zi l p=t:=by
   refine zom (by omega) (fun s hs hst=>?_) (fun s hs hst=>?_)
   ·rw [← hp];exact z60 h hst ht
   ·rw [← hp]
    rcases Nat.eq_or_lt_of_le hst with rfl|hlt
    ·exact z3x _
    ·exact zir (z60 h hlt hs)
  exact ⟨by omega,by simpa [e] using hp⟩
 ·rintro ⟨ht,hp⟩
  exact ⟨_,zY1r ht,by simpa using hp⟩
abbrev zzq (x:Int × Int):List Dt:=[I x.1,I x.2]
abbrev e2P (x:Point × Point):List Dt:=z2c x.1++z2c x.2
abbrev eCP (x:Coin × Point):List Dt:=zb x.1++z2c x.2
abbrev z02a:={ x:List Coin × Point // z0a x.1∧x.1.length≤1000000 }
abbrev eLP (x:z02a):List Dt:=.l 6 (x.1.1.map zb)::z2c x.1.2
noncomputable def spOr:zh:=z0p (fun x:Int × Int=>[.l 1 ([x.1,x.2].map z13)]) fun x=>[I (if x.1≠0 then x.1 else x.2)]
noncomputable def zzr:zh:=z0p zzq fun x=>[I (z4k x.1 x.2)]
noncomputable def zzs:zh:=z0p (fun x:Int=>[I x]) fun _=>[.b false]
noncomputable def zhi:zh:=z0p e2P fun x=>[I (z14 x.1 x.2)]
noncomputable def zdw:zh:=z0p eCP fun x=>[I (z14 x.1.p x.2)]
noncomputable def zfx:zh:=z0p eLP fun x=>[I (zi x.1.1 x.1.2),.b (z1g x.1.1 x.1.2)]
theorem z076 (a b:Int):spOr [.l 1 [[I a],[I b]]]=some [I (if a≠0 then a else b)]:=z4i (e:=fun x:Int × Int=>[.l 1 ([x.1,x.2].map z13)]) (fun x y h=>by
 obtain ⟨a,b⟩:=x;obtain ⟨c,d⟩:=y;simpa [z13] using h) (a,b)
theorem zon (a b:Int):zzr [I a,I b]=some [I (z4k a b)]:=z4i (e:=zzq) (fun x y h=>by
 obtain ⟨a,b⟩:=x;obtain ⟨c,d⟩:=y;simpa [zzq] using h) (a,b)
theorem zoo (a:Int):zzs [I a]=some [.b false]:=z4i (e:=fun x:Int=>[I x]) (fun x y h=>by simpa using h) a
theorem zfy (p q:Point):zhi [I p.tx,I p.at_,I q.tx,I q.at_]=some [I (z14 p q)]:=z4i (e:=e2P) (fun x y h=>by
 obtain ⟨h1,h2⟩:=List.append_inj h rfl;exact Prod.ext (z6f _ _ h1) (z6f _ _ h2)) (p,q)
theorem zzt (c:Coin) (p:Point):zdw (zb c++z2c p)=some [I (z14 c.p p)]:=z4i (e:=eCP) (fun x y h=>by
 obtain ⟨h1,h2⟩:=List.append_inj h rfl;exact Prod.ext (z9p _ _ h1) (z6f _ _ h2)) (c,p)
theorem zis (l:List Coin) (p:Point) (h:z0a l) (hl:l.length≤1000000):zfx [.l 6 (l.map zb),I p.tx,I p.at_]=some [I (zi l p),.b (z1g l p)]:=z4i (e:=eLP) (fun x y h=>by
 obtain ⟨⟨l,p⟩,_⟩:=x;obtain ⟨⟨m,q⟩,_⟩:=y;simp only [eLP,zY20,Dt.l.injEq,true_and] at h;exact Subtype.ext (Prod.ext (z2y z9p h.1) (z6f _ _ h.2))) ⟨(l,p),h,hl⟩
attribute [local irreducible] z0p
def zhj:T :=
 .lets [.len 0] [] (.loop [zI 0,zI 0] (.lets [.bin .lss 3 1] [] (.ite 4 (.lets [] [.inr 1 0 3] (.lets [.idx 0 3 0] []
  (.lets [.bin .neq 5 (zI 0)] [] (.ite 6 (.ret [5]) (.lets [.bin .add 3 (zI 1)] [] (.again 0 [2,7])))))) (.ret [zI 0]))))
def zfz:T :=
 .lets [.bin .neq 0 0] [] (.ret [1])
def zcp:T :=
 .lets [.call 2 [0] 0] [] (.lets [.call 2 [1] 0] [] (.ite 2 (.ite 3 (.ret [zI 0]) (.ret [.c (.i .i64 (-1))])) (.ite 3 (.ret [zI 1]) (.lets
  [.bin .lss 0 1] [] (.ite 4 (.ret [.c (.i .i64 (-1))]) (.lets [.bin .gtr 0 1] [] (.ite 5 (.ret [zI 1]) (.ret [zI 0]))))))))
def zhk:T :=
 .lets [.call 1 [0,2] 0] [] (.lets [.call 1 [1,3] 0] [] (.lets [.mk 1 [[4],[5]]] [] (.lets [.call 0 [6] 0] [] (.ret [7]))))
def zhl:T :=
 .lets [.call 3 [0,1,6,7] 0] [] (.ret [8])
def z4m:T :=
 .lets [.len 0] [] (.loop [zI 0,3] (.lets [.bin .lss 4 5] [] (.ite 6 (.lets [.bin .add 4 5] [] (.lets [.conv .u64 7] [] (.lets [.bin
  .shr 8 (.c (.i .u64 1))] [] (.lets [.conv .i64 9] [] (.lets [] [.inr 6 0 10] (.lets [.idx 0 10 0,.idx 0 10 1,.idx 0 10 2,.idx
  0 10 3,.idx 0 10 4,.idx 0 10 5] [] (.lets [.call 4 [11,12,13,14,15,16,1,2] 0] [] (.lets [.bin .lss 17 (.c (.i
  .i64 0))] [] (.ite 18 (.lets [.bin .add 10 (zI 1)] [] (.again 0 [19,5])) (.again 0 [4,10])))))))))) (.lets [.bin .lss 4 3] [] (.ite (.v
  7) (.lets [] [.inr 6 0 4] (.lets [.idx 0 4 0,.idx 0 4 1,.idx 0 4 2,.idx 0 4 3,.idx 0 4 4,.idx 0 4 5] []
  (.lets [.call 4 [8,9,10,11,12,13,1,2] 0] [] (.lets [.bin .eql 14 (zI 0)] [] (.ret [4,15]))))) (.ret [4,.c (.b false)]))))))
def zop:T :=
 .lets [.call 5 [0,1,2] 0,.call 5 [0,1,2] 1] [] (.ret [3,4])
theorem mNaN:Meets Tryz.prog zzs 64 ⟨[.one],[(false,[.scal])],true⟩:=by
 refine z3s (sp:=(fun ci=>[].getD ci fun _=>none)) (sigs:=zb8) (cut:=[]) (hints:=[]) (fn:=Tryz.f64) (t:=zfz) (by kernel_rfl) (by kernel_rfl) (by kernel_rfl) ?_ ?_
 ·exact fun ci f s _=>z0m f s
 ·rintro ds rs - h
  obtain ⟨x,rfl,rfl⟩:=z1u h;refine ⟨⟨1,?_⟩,z0i rfl⟩;unfold zfz;refine z4 (d:=.b false) (z072 rfl rfl rfl) ?_;exact z5 rfl rfl
theorem mCmp:Meets Tryz.prog zzr 50 ⟨[.one,.one],[(false,[.scal])],true⟩:=by
 refine z3s (sp:=(fun ci=>[fun _=>none,fun _=>none,zzs].getD ci fun _=>none)) (sigs:=zb8) (cut:=[]) (hints:=[]) (fn:=Tryz.f50) (t:=zcp) (by kernel_rfl) (by kernel_rfl) (by kernel_rfl) ?_ ?_
 ·exact (z18 (z0m _ _) (z18 (z0m _ _) (z18 mNaN (fun ci f s _=>z0m f s))))
 ·rintro ds rs - h
  obtain ⟨⟨a,b⟩,rfl,rfl⟩:=z1u h;refine ⟨⟨1,?_⟩,z0i rfl⟩;unfold zcp;refine z4 (d:=.b false) (z1z rfl (zoo a) rfl) ?_;refine z4 (d:=.b false) (z1z rfl (zoo b) rfl) ?_;refine zq rfl (zq rfl ?_);refine z4 (d:=.b (decide (a<b))) rfl ?_;unfold z4k;refine z0z rfl (fun h1=>?_) (fun h1=>?_)
  ·exact z5 rfl (by rw [if_pos (of_decide_eq_true h1)];rfl)
  rw [if_neg (of_decide_eq_false h1)];refine z4 (d:=.b (decide (b<a))) rfl ?_;refine z0z rfl (fun h2=>?_) (fun h2=>?_)
  ·exact z5 rfl (by rw [if_pos (of_decide_eq_true h2)];rfl)
  ·exact z5 rfl (by rw [if_neg (of_decide_eq_false h2)];rfl)
theorem mOr:Meets Tryz.prog spOr 49 ⟨[.one],[(false,[.scal])],true⟩:=by
 refine z3s (sp:=(fun ci=>[].getD ci fun _=>none)) (sigs:=zb8) (cut:=[]) (hints:=[⟨3,[.t 2,.t 8]⟩]) (fn:=Tryz.f49) (t:=zhj) (by kernel_rfl) (by kernel_rfl) (by kernel_rfl) ?_ ?_
 ·exact fun ci f s _=>z0m f s
 ·rintro ds rs - h
  obtain ⟨⟨a,b⟩,rfl,rfl⟩:=z1u h;refine ⟨⟨5,?_⟩,z0i rfl⟩
  show den _ 5 zhj [.l 1 [[I a],[I b]]] []=some [I (if a≠0 then a else b)]
  unfold zhj;refine z4 (d:=I 2) rfl ?_;refine zco (fun k:Nat=>[I 0,I k]) (fun k=>k≤2∧(1≤k→a=0)∧(2≤k→b=0)) (fun k=>2 - k) 0 rfl (by simp) (by simp) fun k hk again hag=>?_
  simp only [zY18,zY0y];obtain ⟨k1,k2,k3⟩:=hk
  match k,k1,k2,k3,hag with
  | 0,k1,k2,k3,hag =>
   refine z4 (d:=.b true) rfl (zt rfl ?_);refine z07 (zm rfl rfl (by decide) (by simp)) ?_;refine z4 (d:=I a) (zo (x:=[I a]) rfl rfl (by decide) rfl rfl) ?_;refine z4 (d:=.b (!decide (a=0))) rfl ?_;refine z0z rfl (fun h1=>?_) (fun h1=>?_)
   ·exact z5 rfl (by rw [if_pos (by simpa using h1)])
   ·refine z4 (d:=I 1) rfl ?_
    exact z6 rfl rfl (hag 1 ⟨by omega,fun _=>by simpa using h1,fun h=>by omega⟩ (by omega))
  | 1,k1,k2,k3,hag =>
   refine z4 (d:=.b true) rfl (zt rfl ?_);refine z07 (zm rfl rfl (by decide) (by simp)) ?_;refine z4 (d:=I b) (zo (x:=[I b]) rfl rfl (by decide) rfl rfl) ?_;refine z4 (d:=.b (!decide (b=0))) rfl ?_;have h0:=k2 (by omega);refine z0z rfl (fun h1=>?_) (fun h1=>?_)
   ·exact z5 rfl (by rw [if_neg (by simp [h0])])
   ·refine z4 (d:=I 2) rfl ?_
    exact z6 rfl rfl (hag 2 ⟨by omega,fun _=>h0,fun _=>by simpa using h1⟩ (by omega))
  | 2,k1,k2,k3,hag =>
   refine z4 (d:=.b false) rfl (zq rfl ?_);exact z5 rfl (by rw [k2 (by omega),k3 (by omega)];rfl)
  | k+3,k1,_,_,_=>exact absurd k1 (by omega)
theorem z02b:Meets Tryz.prog zhi 26 ⟨[.agg 2,.agg 2],[(false,[.scal])],true⟩:=by
 refine z3s (sp:=(fun ci=>[spOr,zzr].getD ci fun _=>none)) (sigs:=zb8) (cut:=[]) (hints:=[]) (fn:=Tryz.f26) (t:=zhk) (by kernel_rfl) (by kernel_rfl) (by kernel_rfl) ?_ ?_
 ·exact (z18 mOr (z18 mCmp (fun ci f s _=>z0m f s)))
 ·rintro ds rs - h
  obtain ⟨⟨⟨a,b⟩,⟨c,d⟩⟩,rfl,rfl⟩:=z1u h;refine ⟨⟨1,?_⟩,z0i rfl⟩
  show den _ 1 zhk [I a,I b,I c,I d] []=_
  unfold zhk;refine z4 (d:=I (z4k a c)) (z1z rfl (zon a c) rfl) ?_;refine z4 (d:=I (z4k b d)) (z1z rfl (zon b d) rfl) ?_;refine z4 (zp (r:=[[I (z4k a c)],[I (z4k b d)]]) rfl rfl (by simp)) ?_;refine z4 (d:=I (if z4k a c≠0 then z4k a c else z4k b d)) (z1z rfl (z076 _ _) rfl) ?_;exact z5 rfl rfl
theorem z090:Meets Tryz.prog zdw 46 ⟨[.agg 6,.agg 2],[(false,[.scal])],true⟩:=by
 refine z3s (sp:=(fun ci=>[fun _=>none,fun _=>none,fun _=>none,zhi].getD ci fun _=>none)) (sigs:=zb8) (cut:=[]) (hints:=[]) (fn:=Tryz.f46) (t:=zhl) (by kernel_rfl) (by kernel_rfl) (by kernel_rfl) ?_ ?_
 ·exact (z18 (z0m _ _) (z18 (z0m _ _) (z18 (z0m _ _) (z18 z02b (fun ci f s _=>z0m f s)))))
 ·rintro ds rs - h
  obtain ⟨⟨c,p⟩,rfl,rfl⟩:=z1u h;refine ⟨⟨1,?_⟩,z0i rfl⟩
  show den _ 1 zhl [I c.p.tx,I c.p.at_,I c.o.coin,.l 2 (c.o.lock.map eOp),I c.height,.b c.reward,I p.tx,I p.at_] []=_
  unfold zhl;refine z4 (d:=I (z14 c.p p)) (z1z rfl (zfy c.p p) rfl) ?_;exact z5 rfl rfl
theorem zoq {sp:Nat→zh} {E:Env} {a i:Atom} {l:List Coin} {m:Int} {c:Coin} (ha:a.val E=some (.l 6 (l.map zb))) (hi:i.val E=some (I m)) (h0:0≤m) (hx:l[m.toNat]? = some c) :
  z1b sp E [.idx a i 0,.idx a i 1,.idx a i 2,.idx a i 3,.idx a i 4,.idx a i 5]=some [I c.p.tx,I c.p.at_,I c.o.coin,.l 2 (c.o.lock.map eOp),I c.height,.b c.reward]:=by
 have hx':(l.map zb)[m.toNat]? = some (zb c):=by rw [zY0k,hx];rfl
 exact z1x (zo ha hi h0 hx' rfl) (z1x (zo ha hi h0 hx' rfl) (z1x (zo ha hi h0 hx' rfl) (z1x (zo ha hi h0 hx' rfl) (z1x (zo ha hi h0 hx' rfl) (z1x (zo ha hi h0 hx' rfl) zcl)))))
theorem z052:Meets Tryz.prog zfx 45 ⟨[.one,.agg 2,.clos 46 []],[(false,[.scal]),(false,[.scal])],true⟩:=by
 refine z3s (sp:=(fun ci=>[fun _=>none,fun _=>none,fun _=>none,fun _=>none,zdw].getD ci fun _=>none)) (sigs:=zb8) (cut:=[]) (hints:=[⟨3,[.t 9,.t 10]⟩]) (fn:=Tryz.f45) (t:=z4m) (by kernel_rfl) (by kernel_rfl) (by kernel_rfl) ?_ ?_
 ·exact (z18 (z0m _ _) (z18 (z0m _ _) (z18 (z0m _ _) (z18 (z0m _ _) (z18 z090 (fun ci f s _=>z0m f s))))))
 ·rintro ds rs - h
  obtain ⟨⟨⟨l,⟨pt,pa⟩⟩,hs,hl⟩,rfl,rfl⟩:=z1u h;simp only at hs hl;refine ⟨⟨l.length+1,?_⟩,zb7 rfl rfl⟩
  show den _ (l.length+1) z4m [.l 6 (l.map zb),I pt,I pa] []=some [I (zi l ⟨pt,pa⟩),.b (z1g l ⟨pt,pa⟩)]
  generalize hp:(⟨pt,pa⟩:Point)=p;have hpc:∀ c:Coin,zdw [I c.p.tx,I c.p.at_,I c.o.coin,.l 2 (c.o.lock.map eOp),I c.height,.b c.reward,I pt,I pa]=some [I (z14 c.p p)]:=fun c=>by rw [← hp];exact zzt c ⟨pt,pa⟩
  unfold z4m;refine z4 (d:=I l.length) (z04 rfl (by simp)) ?_;refine zco (fun s:Nat × Nat=>[I s.1,I s.2]) (fun s=>s.1≤s.2∧s.2≤l.length∧(∀ t (ht:t<l.length),t<s.1→ltP l[t].p p)∧∀ t (ht:t<l.length),s.2≤t→¬ ltP l[t].p p) (fun s=>s.2 - s.1) (0,l.length) rfl ⟨by omega,by omega,fun t ht h=>by omega,fun t ht h=>by omega⟩ (by simp) ?_;rintro ⟨i,j⟩ ⟨h1,h2,h3,h4⟩ again hag;simp only at h1 h2 h3 h4 hag;simp only [zY18,zY0y]
  by_cases hij:i<j
  ·obtain ⟨m,hm⟩:∃ m:Nat,m=(i+j) / 2:=⟨_,rfl⟩
   have hmi:i≤m:=by omega
   have hmj:m<j:=by omega
   have hml:m<l.length:=by omega
   have hsum:(i:Int)+(j:Int)=((i+j:Nat):Int):=by omega
   have hc1:IntKind.u64.wrap ((i+j:Nat):Int)=((i+j:Nat):Int):=by
    unfold IntKind.wrap;simp only [IntKind.bits,IntKind.signed,zY3b,zY0n,if_false];omega
   have hdiv:(((i+j:Nat):Int)).fdiv (2 ^ (min (1:Int).toNat IntKind.u64.bits))=(m:Int):=by
    show (((i+j:Nat):Int)).fdiv 2=(m:Int)
    rw [Int.fdiv_eq_ediv_of_nonneg _ (by omega)];omega
   have hc2:IntKind.u64.wrap (m:Int)=m:=by
    unfold IntKind.wrap;simp only [IntKind.bits,IntKind.signed,zY3b,zY0n,if_false];omega
   have hc3:IntKind.i64.wrap (m:Int)=m:=wrap_i64 (by omega);have hlm:l[((m:Nat):Int).toNat]? = some l[m]:=by simp [hml]
   have hcall:=hpc l[m];have hlt:=zdv l[m].p p;have hup:ltP l[m].p p→∀ t (ht:t<l.length),t<m+1→ltP l[t].p p:=fun h t ht htm=>by
    rcases zY1w t m with h'|h'
    ·exact z4l (z60 hs h' hml) h
    ·obtain rfl:t=m:=by omega
     exact h
   have hdn:¬ ltP l[m].p p→∀ t (ht:t<l.length),m≤t→¬ ltP l[t].p p:=fun h t ht htm h'=>by
    rcases Nat.eq_or_lt_of_le htm with rfl|htm
    ·exact h h'
    ·exact h (z4l (z60 hs htm ht) h')
   have hm1:((m+1:Nat):Int)=(m:Int)+1:=by omega
   have hag1:ltP l[m].p p→again [I ((m:Int)+1),I (j:Int)]=some [I (zi l p),.b (z1g l p)]:=fun h=>by rw [← hm1];exact hag (m+1,j) ⟨by simp only;omega,h2,hup h,h4⟩ (by simp only;omega)
   have hag2:=fun h=>hag (i,m) ⟨hmi,by simp only;omega,h3,hdn h⟩ (by simp only;omega)
   have hi0:(0:Int)≤m:=by omega
   have hi1:(m:Int)<(l.map zb).length:=by simp;omega
   have hlim:(m:Int)+1≤2000000:=by omega
   have hlim2:(i:Int)+j≤2000000:=by omega
   have hlim3:(i:Int)<j:=by omega
   have hlim4:(0:Int)≤(i:Int)+j:=by omega
   clear hm1;generalize l[m]=c at *;generalize hmm:(m:Int)=mm at *;generalize ((i+j:Nat):Int)=ij at *;generalize (i:Int)=ii at *;generalize (j:Int)=jj at *;refine z4 (d:=.b (decide (ii<jj))) rfl ?_;refine z0z rfl (fun _=>?_) (fun h=>absurd (of_decide_eq_false h) (by omega));refine z4 (d:=I ij) (by rw [← hsum];exact z47 rfl rfl (by omega)) ?_;refine z4 (d:=.i .u64 ij) (by show some (Dt.i .u64 (IntKind.u64.wrap ij))=_;rw [hc1]) ?_;refine z4 (d:=.i .u64 mm) (by
    show (if (1:Int)<0 then none else if IntKind.u64.wrap (ij.fdiv (2 ^ (min (1:Int).toNat IntKind.u64.bits)))=ij.fdiv (2 ^ (min (1:Int).toNat IntKind.u64.bits)) then some (Dt.i .u64 (ij.fdiv (2 ^ (min (1:Int).toNat IntKind.u64.bits)))) else none)=_
    rw [hdiv,if_neg (by decide),if_pos hc2]) ?_
   refine z4 (d:=I mm) (by show some (Dt.i .i64 (IntKind.i64.wrap mm))=_;rw [hc3]) ?_;refine z07 (zm rfl rfl hi0 hi1) ?_;refine z3j (ds:=[I c.p.tx,I c.p.at_,I c.o.coin,.l 2 (c.o.lock.map eOp),I c.height,.b c.reward]) (zoq rfl rfl hi0 hlm) ?_;refine z4 (d:=I (z14 c.p p)) (z1z rfl hcall rfl) ?_;refine z4 (d:=.b (decide (z14 c.p p<0))) rfl ?_;refine z0z rfl (fun h=>?_) (fun h=>?_)
   ·refine z4 (d:=I (mm+1)) (z47 rfl rfl (by omega)) ?_
    exact z6 rfl rfl (hag1 (hlt.1 (of_decide_eq_true h)))
   ·exact z6 rfl rfl (hag2 fun h'=>of_decide_eq_false h (hlt.2 h'))
  ·obtain rfl:i=j:=by omega
   have hpos:=zom h2 h3 h4;have hhas:=zba hs p;refine z4 (d:=.b (decide ((i:Int)<i))) rfl ?_;refine z0z rfl (fun h=>absurd (of_decide_eq_true h) (by omega)) (fun _=>?_);refine z4 (d:=.b (decide ((i:Int)<(l.length:Int)))) rfl ?_;refine z0z rfl (fun h=>?_) (fun h=>?_)
   ·have h:=of_decide_eq_true h
    have hil:i<l.length:=by omega
    have hlm:l[((i:Nat):Int).toNat]? = some l[i]:=by simp [hil]
    have hcall:=hpc l[i];have heq:=z075 l[i].p p;have hi0:(0:Int)≤i:=by omega
    have hi1:(i:Int)<(l.map zb).length:=by simp;omega
    have hv:decide (z14 l[i].p p=0)=z1g l p:=by
     rw [Bool.eq_iff_iff,decide_eq_true_iff,heq,hhas,hpos];exact ⟨fun h=>⟨hil,h⟩,fun ⟨_,h⟩=>h⟩
    rw [hpos,← hv];generalize l[i]=c at *;generalize (i:Int)=ii at *;refine z07 (zm rfl rfl hi0 hi1) ?_;refine z3j (ds:=[I c.p.tx,I c.p.at_,I c.o.coin,.l 2 (c.o.lock.map eOp),I c.height,.b c.reward]) (zoq rfl rfl hi0 hlm) ?_;refine z4 (d:=I (z14 c.p p)) (z1z rfl hcall rfl) ?_;refine z4 (d:=.b (decide (z14 c.p p=0))) rfl ?_;exact z5 rfl rfl
   ·have h:=of_decide_eq_false h
    have hv:z1g l p=false:=by
     rw [← zY2u,hhas,hpos];rintro ⟨h',_⟩;omega
    rw [hpos,hv];exact z5 rfl rfl
theorem z0a7:Meets Tryz.prog zfx 19 ⟨[.one,.agg 2],[(false,[.scal]),(false,[.scal])],true⟩:=by
 refine z3s (sp:=(fun ci=>[fun _=>none,fun _=>none,fun _=>none,fun _=>none,fun _=>none,zfx].getD ci fun _=>none)) (sigs:=zb8) (cut:=[]) (hints:=[]) (fn:=Tryz.f19) (t:=zop) (by kernel_rfl) (by kernel_rfl) (by kernel_rfl) ?_ ?_
 ·exact (z18 (z0m _ _) (z18 (z0m _ _) (z18 (z0m _ _) (z18 (z0m _ _) (z18 (z0m _ _) (z18 z052 (fun ci f s _=>z0m f s)))))))
 ·rintro ds rs - h
  obtain ⟨⟨⟨l,p⟩,hs,hl⟩,rfl,rfl⟩:=z1u h;refine ⟨⟨1,?_⟩,zb7 rfl rfl⟩
  show den _ 1 zop [.l 6 (l.map zb),I p.tx,I p.at_] []=_
  unfold zop;refine z3j (ds:=[I (zi l p),.b (z1g l p)]) (zzp (ci:=5) rfl rfl (zis l p hs hl)) ?_;exact z5 rfl rfl
end
end Go.Proofs.YtjknfjbpmdfphaaGreat
noncomputable section
namespace Go.Proofs.YtjknfjbpmdfphaaGreat
open Go.RowKit
inductive Tri (α:Type) where
 | lf (x:α)
 | nd (n:Nat) (l r:Tri α)
 | em
def Tri.get {α:Type} (t:Tri α):Nat→Option α :=
 Tri.rec (motive:=fun _=>Nat→Option α) (fun x i=>Nat.rec (motive:=fun _=>Option α) (some x) (fun _ _=>none) i) (fun n _ _ gl gr i=>Bool.rec (motive:=fun _=>Option α) (gr (Nat.sub i n)) (gl i) (Nat.blt i n)) (fun _=>none) t
def Tri.set {α:Type} (t:Tri α):Nat→α→Tri α :=
 Tri.rec (motive:=fun _=>Nat→α→Tri α) (fun x i v=>Nat.rec (motive:=fun _=>Tri α) (.lf v) (fun _ _=>.lf x) i) (fun n l r sl sr i v=>Bool.rec (motive:=fun _=>Tri α) (.nd n l (sr (Nat.sub i n) v)) (.nd n (sl i v) r) (Nat.blt i n)) (fun _ _=>.em) t
def Tri.any {α:Type} (f:α→Bool) (t:Tri α):Bool:=Tri.rec (motive:=fun _=>Bool) (fun x=>f x) (fun _ _ _ a b=>Bool.rec (motive:=fun _=>Bool) b true a) false t
def Tri.all {α:Type} (f:α→Bool) (t:Tri α):Bool:=Tri.rec (motive:=fun _=>Bool) (fun x=>f x) (fun _ _ _ a b=>Bool.rec (motive:=fun _=>Bool) false b a) true t
def Tri.map {α β:Type} (f:α→β) (t:Tri α):Tri β:=Tri.rec (motive:=fun _=>Tri β) (fun x=>.lf (f x)) (fun n _ _ a b=>.nd n a b) .em t
def Tri.all2 {α:Type} (f:α→α→Bool) (t:Tri α):Tri α→Bool :=
 Tri.rec (motive:=fun _=>Tri α→Bool) (fun x u=>Tri.rec (motive:=fun _=>Bool) (fun y=>f x y) (fun _ _ _ _ _=>false) false u) (fun n _ _ a b u=>Tri.rec (motive:=fun _=>Bool) (fun _=>false) (fun m l r _ _=>Bool.rec (motive:=fun _=>Bool) false (Bool.rec (motive:=fun _=>Bool) false (b r) (a l)) (Nat.beq n m)) false u) (fun u=>Tri.rec (motive:=fun _=>Bool) (fun _=>false) (fun _ _ _ _ _=>false) true u) t
def Tri.size {α:Type} (t:Tri α):Nat:=Tri.rec (motive:=fun _=>Nat) (fun _=>1) (fun n _ _ _ b=>Nat.add n b) 0 t
def Tri.rep {α:Type} (x:α):Nat→Nat→Tri α
 | 0,_=>.em
 | d+1,n=>match n with
  | 0=>.em
  | 1=>.lf x
  | n=>.nd (n / 2) (Tri.rep x d (n / 2)) (Tri.rep x d (n - n / 2))
def Tri.puts {α:Type}:Nat→List α→Tri α→Tri α
 | _,[],t=>t
 | i,x::xs,t=>Tri.puts (i+1) xs (t.set i x)
def z9c {α:Type} (τ:Tri SV) (ω:Tri (Option Ob)) (m:Rd α):Option α :=
 Rd.rec (motive:=fun _=>Option α) (fun a=>some a) none (fun i _ ih=>Option.rec (motive:=fun _=>Option α) none (fun x=>ih x) (τ.get i)) (fun i _ ih=>Option.rec (motive:=fun _=>Option α) none (fun x=>ih x) (ω.get i)) m
def zor {α:Type} (τ:Tri SV) (ω:Tri (Option Ob)) (m:Rd α):List Loc :=
 Rd.rec (motive:=fun _=>List Loc) (fun _=>[]) [] (fun i _ ih=>Option.rec (motive:=fun _=>List Loc) [] (fun x=>.t i::ih x) (τ.get i)) (fun i _ ih=>Option.rec (motive:=fun _=>List Loc) [] (fun x=>.o i::ih x) (ω.get i)) m
structure SF where
 τ:Tri SV
 ω:Tri (Option Ob)
 n:Nat
 lvl:Nat
 kn:List (Nat × Bool)
 kb:Nat
 σ:List (Tri SV)
def fN {β:Type} (n:Nat) (k:Nat→β):β:=Nat.rec (motive:=fun _=>β) (k 0) (fun m _=>k (Nat.succ m)) n
def fL {α β:Type} (f:α→(α→β)→β) (l:List α):(List α→β)→β:=List.rec (motive:=fun _=>(List α→β)→β) (fun k=>k []) (fun x _ ih k=>f x fun x=>ih fun xs=>k (x::xs)) l
def fA {β:Type} (a:Atom) (k:Atom→β):β:=match a with
 | .v n=>fN n fun n=>k (.v n)
 | .c l=>k (.c l)
def fOp {β:Type} (o:Option Atom) (k:Option Atom→β):β:=match o with
 | none=>k none
 | some a=>fA a fun a=>k (some a)
def fPr {β:Type} (p:Atom × Atom) (k:Atom × Atom→β):β:=fA p.1 fun a=>fA p.2 fun b=>k (a,b)
def fX {β:Type} (x:X) (k:X→β):β:=match x with
 | .bin op a b=>fA a fun a=>fA b fun b=>k (.bin op a b)
 | .eqs n ps=>fL fPr ps fun ps=>k (.eqs n ps)
 | .beq n a b=>fA a fun a=>fA b fun b=>k (.beq n a b)
 | .not a=>fA a fun a=>k (.not a)
 | .neg a=>fA a fun a=>k (.neg a)
 | .conv c a=>fA a fun a=>k (.conv c a)
 | .len a=>fA a fun a=>k (.len a)
 | .slen a=>fA a fun a=>k (.slen a)
 | .inr s a i=>fN s fun s=>fA a fun a=>fA i fun i=>k (.inr s a i)
 | .idx a i j=>fA a fun a=>fA i fun i=>fN j fun j=>k (.idx a i j)
 | .sub s a l h=>fN s fun s=>fA a fun a=>fOp l fun l=>fOp h fun h=>k (.sub s a l h)
 | .mk s r=>fN s fun s=>fL (fL fA) r fun r=>k (.mk s r)
 | .app s a b=>fN s fun s=>fA a fun a=>fA b fun b=>k (.app s a b)
 | .set a i j vs=>fA a fun a=>fA i fun i=>fN j fun j=>fL fA vs fun vs=>k (.set a i j vs)
 | .ite c a b=>fA c fun c=>fA a fun a=>fA b fun b=>k (.ite c a b)
 | .scal a=>fA a fun a=>k (.scal a)
 | .call c l j=>fN c fun c=>fL fA l fun l=>fN j fun j=>k (.call c l j)
 | .sel l i=>fL fA l fun l=>fA i fun i=>k (.sel l i)
 | .ssub a l h=>fA a fun a=>fOp l fun l=>fOp h fun h=>k (.ssub a l h)
 | .mkz s z a=>fN s fun s=>fA a fun a=>k (.mkz s z a)
 | .mn a b=>fA a fun a=>fA b fun b=>k (.mn a b)
 | .ise n a=>fA a fun a=>k (.ise n a)
 | .mget z a i j=>fA a fun a=>fA i fun i=>fN j fun j=>k (.mget z a i j)
 | .mhas a i=>fA a fun a=>fA i fun i=>k (.mhas a i)
 | .mput v a i l=>fN v fun v=>fA a fun a=>fA i fun i=>fL fA l fun l=>k (.mput v a i l)
def fNN {β:Type} (p:Nat × Nat) (k:Nat × Nat→β):β:=fN p.1 fun a=>fN p.2 fun b=>k (a,b)
def fC {β:Type} (c:C1) (k:C1→β):β:=match c with
 | .top=>k .top
 | .und=>k .und
 | .at a=>fA a fun a=>k (.at a)
 | .bp a b=>fN a fun a=>fN b fun b=>k (.bp a b)
 | .ep a i o=>fA a fun a=>fA i fun i=>fN o fun o=>k (.ep a i o)
 | .row a=>fN a fun a=>k (.row a)
 | .rp a i s o=>fN a fun a=>fA i fun i=>fN s fun s=>fN o fun o=>k (.rp a i s o)
 | .fn f cs=>fN f fun f=>fL fNN cs fun cs=>k (.fn f cs)
def fBl {β:Type} (b:Bool) (k:Bool→β):β:=match b with
 | true=>k true
 | false=>k false
def fPt {β:Type} (p:Bool × List C1) (k:Bool × List C1→β):β:=fBl p.1 fun a=>fL fC p.2 fun b=>k (a,b)
def fV {β:Type} (v:SV) (k:SV→β):β:=match v with
 | .one c=>fC c fun c=>k (.one c)
 | .agg cs=>fL fC cs fun cs=>k (.agg cs)
 | .tup ps=>fL fPt ps fun ps=>k (.tup ps)
def fO {β:Type} (o:Option Ob) (k:Option Ob→β):β:=match o with
 | none=>k none
 | some (.box t cs)=>fN t fun t=>fL fC cs fun cs=>k (some (.box t cs))
 | some (.ext cs)=>fL fC cs fun cs=>k (some (.ext cs))
 | some (.row e s a)=>fN e fun e=>fN s fun s=>fA a fun a=>k (some (.row e s a))
 | some (.frz a)=>fA a fun a=>k (some (.frz a))
 | some .dead=>k (some .dead)
 | some (.gone a)=>fA a fun a=>k (some (.gone a))
 | some (.map t v g a)=>fN t fun t=>fN v fun v=>fBl g fun g=>fA a fun a=>k (some (.map t v g a))
def fW {β:Type} (w:Wr) (k:Wr→β):β:=match w with
 | .t i v=>fN i fun i=>fV v fun v=>k (.t i v)
 | .o i v=>fN i fun i=>fO v fun v=>k (.o i v)
def fE {β:Type} (e:Eff) (k:Eff→β):β:=fL fX e.xs fun xs=>fL fX e.ck fun ck=>fL fW e.ws fun ws=>k ⟨xs,ck,ws⟩
def fLo {β:Type} (l:Loc) (k:Loc→β):β:=match l with
 | .t i=>fN i fun i=>k (.t i)
 | .o i=>fN i fun i=>k (.o i)
namespace Fast
def fK {β:Type} (l:List (Nat × Bool)) (k:List (Nat × Bool)→β):β:=match l with
 | []=>k []
 | (a,b)::r=>fN a fun a=>k ((a,b)::r)
def wrT (τ:Tri SV) (ω:Tri (Option Ob)):List Wr→Tri SV × Tri (Option Ob)
 | []=>(τ,ω)
 | .t i v::ws=>wrT (τ.set i v) ω ws
 | .o i v::ws=>wrT τ (ω.set i v) ws
def guardOf (ops:List Oper) (s:SF) (o:Oper):Gd:=match o.guard with
 | none=>.yes
 | some (j,want)=>match (ops[j]?).bind (·.dst) with
  | none=>.fail
  | some d=>match s.τ.get d with
   | some (.one .und)=>.no
   | some (.one (.at a))=>match evB s.kn a with
    | some b=>if b=want then .yes else .no
    | none=>match a with
     | .v v=>.ask v
     | _=>.fail
   | _=>.fail
def regDo (cx:Cx) (nt:Nat) (ops:List Oper) (o:Oper) (s:SF) (k:SF→Rec→Option T):Option T :=
 let m:=zl cx s.kb s.n nt s.kn o
 match z9c s.τ s.ω m with
 | none=>none
 | some e=>fE e fun e=>fN (s.n+e.xs.length) fun n=>fL fLo (z4g ops o++zor s.τ s.ω m) fun lg =>
  let p:=wrT s.τ s.ω e.ws
  fK (zh3 cx s.n e.xs s.kn) fun kn =>
  match k { s with τ:=p.1,ω:=p.2,n:=n,kn:=kn } ⟨o,s.n,s.kn,true,e,lg⟩ with
  | none=>none
  | some t=>some (znd e t)
def regSkip (ops:List Oper) (o:Oper) (s:SF) (k:SF→Rec→Option T):Option T :=
 let e:Eff:=⟨[],[],z00 o (.one .und)⟩
 let p:=wrT s.τ s.ω e.ws
 k { s with τ:=p.1,ω:=p.2 } ⟨o,s.n,s.kn,false,e,z4g ops o⟩
def learn (s:SF) (v:Nat) (b:Bool):SF:={ s with kn:=if Nat.ble knB v=true then s.kn else (v,b)::s.kn }
def regRun (cx:Cx) (nt:Nat) (ops:List Oper):List Oper→SF→List Rec→(SF→List Rec→Option T)→Option T
 | [],s,rs,k=>k s rs
 | o::rest,s,rs,k =>
  match guardOf ops s o with
  | .yes=>regDo cx nt ops o s fun s r=>regRun cx nt ops rest s (rs++[r]) k
  | .no=>regSkip ops o s fun s r=>regRun cx nt ops rest s (rs++[r]) k
  | .ask v =>
   let want:=match o.guard with|some (_,w)=>w|none=>true
   match regDo cx nt ops o (learn s v want) (fun s r=>regRun cx nt ops rest s (rs++[r]) k),regSkip ops o (learn s v (!want)) (fun s r=>regRun cx nt ops rest s (rs++[r]) k) with
   | some t,some e=>some (if want then .ite (.v v) t e else .ite (.v v) e t)
   | _,_=>none
  | .fail=>none
abbrev S3:=Tri SV × Tri (Option Ob) × List (Tri SV)
def renKey (k i:Nat) (p:S3):S3:=match p.2.1.get k,p.2.1.get i with
 | some (some o),some none=>if k=i then p else (p.1.map (SV.ren k i),((p.2.1.set k none).set i (some o)).map (Option.map (Ob.ren k i)),p.2.2.map (Tri.map (SV.ren k i)))
 | _,_=>p
def noRef (k:Nat) (τ:Tri SV) (ω:Tri (Option Ob)) (σ:List (Tri SV)):Bool:=!τ.any (SV.refs k) && (!ω.any fun o=>match o with
 | some o=>o.refs k
 | none=>false) && !σ.any (Tri.any (SV.refs k))
def topAll (τ:Tri SV):List Nat→Tri SV
 | []=>τ
 | i::is=>topAll (τ.set i (.one .top)) is
def dropAll (τ:Tri SV) (ω:Tri (Option Ob)) (σ:List (Tri SV)):List Nat→Tri (Option Ob)
 | []=>ω
 | k::ks=>match ω.get k with
  | some (some _)=>if noRef k τ ω σ then dropAll τ (ω.set k none) σ ks else dropAll τ ω σ ks
  | _=>dropAll τ ω σ ks
def rowKey (kb i e sz:Nat) (p:S3):S3 :=
 match p.1.get i with
 | some (.one (.at (.c (.nil z))))=>match p.2.1.get (kb+i) with
  | some none=>if z=sz then (p.1.set i (.one (.row (kb+i))),p.2.1.set (kb+i) (some (.row e sz (.c (.nil sz)))),p.2.2) else p
  | _=>p
 | some (.one (.row k))=>renKey k (kb+i) p
 | _=>p
def cellKey (k j key:Nat) (p:S3):S3:=match p.2.1.get (k) with
 | some (some (.box _ cs))=>match cs[j]? with
  | some (.row q)=>renKey q key p
  | _=>p
 | _=>p
def nilKey (k j key e sz:Nat) (p:S3):S3:=match p.2.1.get k with
 | some (some (.box t cs))=>match cs[j]? with
  | some (.at (.c (.nil z)))=>match p.2.1.get key with
   | some none=>if z=sz then (p.1,(p.2.1.set key (some (.row e sz (.c (.nil sz))))).set k (some (.box t (cs.set j (.row key)))),p.2.2) else p
   | _=>p
  | _=>p
 | _=>p
def rowKeys (kb:Nat) (p:S3):List Cy→S3
 | []=>p
 | .n k j key e sz::cs=>rowKeys kb (nilKey k j key e sz p) cs
 | .r i e sz::cs=>rowKeys kb (rowKey kb i e sz p) cs
 | .c k j key::cs=>rowKeys kb (cellKey k j key p) cs
 | _::cs=>rowKeys kb p cs
def normS (ds:List Nat) (cy:List Cy) (s:SF):S3 :=
 let keep:=cyT cy
 let τ:=topAll s.τ ((ds.filter fun d => !keep.contains d)++cyZ cy)
 let ω:=dropAll τ s.ω s.σ (List.range s.ω.size)
 rowKeys s.kb (τ,ω,s.σ) cy
def genL (kb n:Nat) (τ:Tri SV) (ω:Tri (Option Ob)):Cy→(Tri SV × Tri (Option Ob)) × List Atom
 | .t i=>match τ.get i with
  | some (.one (.at a))=>((τ.set i (.one (.at (.v n))),ω),[a])
  | some (.agg cs)=>let r:=zh4 n cs;((τ.set i (.agg r.1),ω),r.2)
  | _=>((τ,ω),[])
 | .r i _ _=>match ω.get (kb+i) with
  | some (some (.row e sz a))=>((τ,ω.set (kb+i) (some (.row e sz (.v n)))),[a])
  | _=>((τ,ω),[])
 | .o k | .c _ _ k=>match ω.get k with
  | some (some (.row e sz a))=>((τ,ω.set k (some (.row e sz (.v n)))),[a])
  | some (some (.box t cs))=>let r:=zh4 n cs;((τ,ω.set k (some (.box t r.1))),r.2)
  | some (some (.map t vs g a))=>((τ,ω.set k (some (.map t vs g (.v n)))),[a])
  | _=>((τ,ω),[])
 | .z _ | .n .. => ((τ,ω),[])
def gen (kb n:Nat) (τ:Tri SV) (ω:Tri (Option Ob)):List Cy→(Tri SV × Tri (Option Ob)) × List Atom
 | []=>((τ,ω),[])
 | c::cs =>
  let p:=genL kb n τ ω c
  let q:=gen kb (n+p.2.length) p.1.1 p.1.2 cs
  (q.1,p.2++q.2)
def oT (m:Nat):Option Ob→Bool
 | some o=>inO m o
 | none=>true
def bqA (a b:Atom):Bool:=match a,b with
 | .v n,.v m=>Nat.beq n m
 | .c x,.c y=>decide (x=y)
 | _,_=>false
def bqP:List (Nat × Nat)→List (Nat × Nat)→Bool
 | [],[]=>true
 | (a,b)::r,(c,d)::s=>Nat.beq a c && Nat.beq b d && bqP r s
 | _,_=>false
def bqC (a b:C1):Bool:=match a,b with
 | .top,.top=>true
 | .und,.und=>true
 | .at a,.at b=>bqA a b
 | .bp a b,.bp c d=>Nat.beq a c && Nat.beq b d
 | .ep a i o,.ep a' i' o'=>bqA a a' && bqA i i' && Nat.beq o o'
 | .row a,.row b=>Nat.beq a b
 | .rp a i s o,.rp a' i' s' o'=>Nat.beq a a' && bqA i i' && Nat.beq s s' && Nat.beq o o'
 | .fn f cs,.fn g ds=>Nat.beq f g && bqP cs ds
 | _,_=>false
def bqCs:List C1→List C1→Bool
 | [],[]=>true
 | a::r,b::s=>bqC a b && bqCs r s
 | _,_=>false
def bqB (a b:Bool):Bool:=match a with
 | true=>b
 | false => !b
def bqPs:List (Bool × List C1)→List (Bool × List C1)→Bool
 | [],[]=>true
 | (a,b)::r,(c,d)::s=>bqB a c && bqCs b d && bqPs r s
 | _,_=>false
def bqV (a b:SV):Bool:=match a,b with
 | .one a,.one b=>bqC a b
 | .agg a,.agg b=>bqCs a b
 | .tup a,.tup b=>bqPs a b
 | _,_=>false
def bqO (a b:Option Ob):Bool:=match a,b with
 | none,none=>true
 | some (.box t c),some (.box t' c')=>Nat.beq t t' && bqCs c c'
 | some (.ext c),some (.ext c')=>bqCs c c'
 | some (.row e s a),some (.row e' s' a')=>Nat.beq e e' && Nat.beq s s' && bqA a a'
 | some (.frz a),some (.frz a')=>bqA a a'
 | some .dead,some .dead=>true
 | some (.gone a),some (.gone a')=>bqA a a'
 | some (.map t v g a),some (.map t' v' g' a')=>Nat.beq t t' && Nat.beq v v' && bqB g g' && bqA a a'
 | _,_=>false
def bqS:List (Tri SV)→List (Tri SV)→Bool
 | [],[]=>true
 | a::r,b::s=>Tri.all2 bqV a b && bqS r s
 | _,_=>false
def sameS (n:Nat) (as0:List Atom) (σ:List (Tri SV)) (τ:Tri SV) (ω:Tri (Option Ob)) (τ':Tri SV) (ω':Tri (Option Ob)) (σ':List (Tri SV)):Bool :=
 bqS σ' σ && σ.all (Tri.all (inV (n+as0.length))) && bqS (σ.map (Tri.map (sbV n as0))) σ &&
 τ.all (inV (n+as0.length)) && ω.all (oT (n+as0.length)) && Tri.all2 bqV (τ.map (sbV n as0)) τ' && Tri.all2 bqO (ω.map (Option.map (sbO n as0))) ω'
def inlOf (fx:Fx) (s:SF) (o:Oper):Option (FnI × List SV):=match o.op with
 | .call c=>match c.callee with
  | .value fx'=>match z9c s.τ s.ω (evC fx.cx 0 fx') with
   | some (.fn f caps)=>match z91 f fx.fns with
    | some g=>match z9c s.τ s.ω (z7r fx.cx c.args.toList c.argTypes.toList) with
     | some vs=>some (g,vs++caps.map fun p=>.one (.bp p.1 p.2))
     | none=>none
    | none=>none
   | _=>none
  | _=>none
 | _=>none
def freeKey (ω:Tri (Option Ob)):Nat→Nat→Option Nat
 | 0,_=>none
 | m+1,k=>match ω.get k with
  | some none=>some k
  | some (some _)=>freeKey ω m (k+1)
  | none=>none
def toPool (pool:Nat) (p:S3):List Nat→S3
 | []=>p
 | k::ks=>match p.2.1.get k with
  | some (some _)=>match freeKey p.2.1 100 pool with
   | some i=>toPool pool (renKey k i p) ks
   | none=>toPool pool p ks
  | _=>toPool pool p ks
abbrev Inl:=Fx→FnI→List SV→Oper→SF→(SF→Option T)→Option T
def z0a5:Inl:=fun _ _ _ _ _ _=>none
def seqRun (inl:Inl) (fx:Fx) (ops:List Oper):List Oper→SF→(SF→Option T)→Option T
 | [],s,k=>k s
 | o::rest,s,k =>
  let go:SF→Option T:=fun s=>match inlOf fx s o with
   | some (g,vs)=>inl fx g vs o s fun s=>seqRun inl fx ops rest s k
   | none=>regDo fx.cx fx.nt ops o s fun s _=>seqRun inl fx ops rest s k
  match guardOf ops s o with
  | .yes=>go s
  | .no=>regSkip ops o s fun s _=>seqRun inl fx ops rest s k
  | .ask v =>
   let want:=match o.guard with|some (_,w)=>w|none=>true
   match go (learn s v want),regSkip ops o (learn s v (!want)) (fun s _=>seqRun inl fx ops rest s k) with
   | some t,some e=>some (if want then .ite (.v v) t e else .ite (.v v) e t)
   | _,_=>none
  | .fail=>none
def segRun (inl:Inl) (fx:Fx) (ops:List Oper) (an:List (List Nat)):Nat→Nat→SF→(SF→Option T)→Option T
 | 0,_,_,_=>none
 | m+1,off,s,k=>match z92 fx.fns an ops.length (ops.drop off) off with
  | some i=>match ops[i]? with
   | some o'=>if znl an i ops.length && o'.guard.isNone && Nat.ble off i then
     regRun fx.cx fx.nt ops ((ops.drop off).take (i - off)) s [] fun s' rs=>if z68 an off rs then (match inlOf fx s' o' with
      | some (g,vs)=>inl fx g vs o' s' fun s2=>segRun inl fx ops an m (i+1) s2 k
      | none=>regDo fx.cx fx.nt ops o' s' fun s2 _=>segRun inl fx ops an m (i+1) s2 k) else none
    else none
   | none=>none
  | none=>regRun fx.cx fx.nt ops (ops.drop off) s [] fun s' rs=>if z68 an off rs then k s' else none
def exec (inl:Inl) (fx:Fx):Code→SF→(Ex→SF→Option T)→Option T
 | .skip,s,k=>k .normal s
 | .label _,s,k=>k .normal s
 | .region _ ops draw,s,k=>if draw=false then seqRun inl fx ops.toList ops.toList s fun s'=>k .normal s' else
  if z8g 0 ops.toList=false then none else
  segRun inl fx ops.toList (z2q ops.toList []) 40 0 s fun s'=>k .normal s'
 | .seq a b,s,k=>exec inl fx a s fun e s'=>match e with
  | .normal=>exec inl fx b s' k
  | e=>k e s'
 | .cond c x y,s,k=>match z9c s.τ s.ω (evA fx.cx 0 c) with
  | none=>none
  | some a=>match evB s.kn a with
   | some true=>exec inl fx x s k
   | some false=>exec inl fx y s k
   | none=>match a with
    | .v v=>match exec inl fx x (learn s v true) k,exec inl fx y (learn s v false) k with
     | some t,some e=>some (.ite (.v v) t e)
     | _,_=>none
    | _=>none
 | .block id b,s,k=>exec inl fx b s fun e s'=>match e with
  | .exit j=>if j=id then k .normal s' else k (.exit j) s'
  | e=>k e s'
 | .exit id,s,k=>k (.exit id) s
 | .ret,s,k=>k .ret s
 | .loop b,s,k =>
  let cy:=zy b fx.hints
  let ds:=z0l b
  let p:=normS ds cy s
  let g:=gen s.kb s.n p.1 p.2.1 cy
  let n:=s.n
  if sameS n g.2 p.2.2 g.1.1 g.1.2 p.1 p.2.1 p.2.2 then
   match exec inl fx b { s with τ:=g.1.1,ω:=g.1.2,n:=n+g.2.length,lvl:=s.lvl+1,σ:=p.2.2 } (fun e s'=>match e with
    | .normal =>
     let p':=normS ds cy s'
     let g':=gen s.kb n p'.1 p'.2.1 cy
     if s'.kb=s.kb∧g'.2.length=g.2.length∧sameS n g'.2 p.2.2 g.1.1 g.1.2 p'.1 p'.2.1 p'.2.2 then some (.again s.lvl g'.2) else none
    | e=>k e s') with
   | some t=>some (.loop g.2 t)
   | none=>none
  else none
 | _,_,_=>none
def rowArgs (z:List Nat) (τ:Tri SV) (o:Oper):List Nat:=zz9 z++match o.op with
 | .call c=>c.args.toList.filterMap fun x=>match x with
  | .tmp t=>match τ.get t with
   | some (.one (.row _))=>some t
   | _=>none
  | _=>none
 | _=>[]
def inlD:Nat→Inl
 | 0,_,_,_,_,_,_=>none
 | d+1,fx,g,vs,o,s,k =>
  if g.nt<vs.length∨2048<g.nt then none else
  exec (inlD d) { fx with cx:={ fx.cx with cut:=g.cut },nt:=g.nt,hints:=g.hints } g.body { s with τ:=Tri.puts 0 vs (Tri.rep (.one .und) 12 g.nt),kb:=s.kb+fx.mul * fx.nt,σ:=topAll s.τ (rowArgs fx.cx.cut s.τ o)::s.σ } fun e s2=>match e with
   | .exit _=>none
   | _=>match z9c s2.τ s2.ω (z4w fx.cx g.results) with
    | none=>none
    | some svs=>match z7s svs with
     | none=>none
     | some sv =>
      match s2.σ with
      | []=>none
      | τ0::σ0=>if Nat.beq τ0.size s.τ.size=false then none else
      let p:=wrT τ0 s2.ω (z00 o sv)
      let ω:=dropAll p.1 p.2 σ0 (List.range p.2.size)
      let q:=toPool fx.pool (p.1,ω,σ0) (List.range' (s.kb+fx.mul * fx.nt) (fx.mul * g.nt))
      k { s2 with τ:=q.1,ω:=q.2.1,σ:=q.2.2,kb:=s.kb }
def initS (sig:Sig) (nt cap:Nat):SF :=
 let r:=z03 0 cap sig.args
 ⟨Tri.puts 0 r.1 (Tri.rep (.one .und) 12 nt),Tri.puts cap (r.2.1.map some) (Tri.rep none 14 (cap+r.2.1.length)),r.2.2,0,[],0,[]⟩
def outOf (cx:Cx) (sig:Sig) (rs:List ResultVar) (s:SF):Option T:=do
 let vs ← z9c s.τ s.ω (z4w cx rs)
 let p ← z9c s.τ s.ω (zdq sig.res vs)
 let ks:=p.filterMap (·.2.1)
 let qs:=p.filterMap (·.2.2)
 if z5w ks && ks.all (fun k => !qs.contains k) then some (.ret (p.map (·.1))) else none
def fT {β:Type} (t:T) (k:T→β):β:=match t with
 | .ret l=>fL fA l fun l=>k (.ret l)
 | .lets xs ck t=>fL fX xs fun xs=>fL fX ck fun ck=>fT t fun t=>k (.lets xs ck t)
 | .ite a t e=>fA a fun a=>fT t fun t=>fT e fun e=>k (.ite a t e)
 | .loop l b=>fL fA l fun l=>fT b fun b=>k (.loop l b)
 | .again n l=>fN n fun n=>fL fA l fun l=>k (.again n l)
def decomp (fx:Fx) (sig:Sig) (fn:Func):Option T :=
 if (fx.nt≠fn.ntmps∨fn.ntmps<sig.args.length)∨z3n sig.args=true∨2048<fn.ntmps∨8192<fx.cap+(z03 0 fx.cap sig.args).2.1.length∨fn.ntmps<(z03 0 fx.cap sig.args).1.length then none else
 match fn.body with
 | none=>none
 | some c=>exec (inlD fx.dep) fx c (initS sig fn.ntmps fx.cap) fun e s=>match e with
  | .exit _=>none
  | _=>outOf fx.cx sig fn.results.toList s
def decompN (fx:Fx) (sig:Sig) (fn:Func):Option T:=match decomp fx sig fn with
 | none=>none
 | some t=>fT t some
end Fast
end Go.Proofs.YtjknfjbpmdfphaaGreat
namespace Go.Proofs.YtjknfjbpmdfphaaGreat
section
open Go.RowKit
def Tri.toL {α:Type}:Tri α→List α
 | .lf x=>[x]
 | .nd _ l r=>l.toL++r.toL
 | .em=>[]
def Tri.wf {α:Type}:Tri α→Prop
 | .lf _=>True
 | .nd n l r=>l.toL.length=n∧l.wf∧r.wf
 | .em=>True
section
variable {α β:Type}
theorem Tri.get_nd (n:Nat) (l r:Tri α) (i:Nat):(Tri.nd n l r).get i=if i<n then l.get i else r.get (i - n):=by
 show Bool.rec (motive:=fun _=>Option α) (r.get (i - n)) (l.get i) (Nat.blt i n)=_
 by_cases h:i<n
 ·rw [if_pos h,show Nat.blt i n=true from Nat.ble_eq_true_of_le h]
 ·rw [if_neg h]
  have:Nat.blt i n=false:=by
   cases hb:Nat.blt i n with
   | false=>rfl
   | true=>exact absurd (Nat.le_of_ble_eq_true hb) h
  rw [this]
theorem Tri.set_nd (n:Nat) (l r:Tri α) (i:Nat) (v:α):(Tri.nd n l r).set i v=if i<n then .nd n (l.set i v) r else .nd n l (r.set (i - n) v):=by
 show Bool.rec (motive:=fun _=>Tri α) (.nd n l (r.set (i - n) v)) (.nd n (l.set i v) r) (Nat.blt i n)=_
 by_cases h:i<n
 ·rw [if_pos h,show Nat.blt i n=true from Nat.ble_eq_true_of_le h]
 ·rw [if_neg h]
  have:Nat.blt i n=false:=by
   cases hb:Nat.blt i n with
   | false=>rfl
   | true=>exact absurd (Nat.le_of_ble_eq_true hb) h
  rw [this]
theorem Tri.get_eq:∀ {t:Tri α} (h:t.wf) (i:Nat),t.get i=t.toL[i]?
 | .lf x,_,0=>rfl
 | .lf x,_,i+1=>rfl
 | .em,_,i=>rfl
 | .nd n l r,⟨h1,h2,h3⟩,i=>by
  rw [Tri.get_nd,Tri.toL]
  by_cases h:i<n
  ·rw [if_pos h,zY0h (by omega),Tri.get_eq h2]
  ·rw [if_neg h,zY0i (by omega),Tri.get_eq h3,h1]
theorem Tri.set_toL:∀ {t:Tri α} (h:t.wf) (i:Nat) (v:α),(t.set i v).toL=t.toL.set i v
 | .lf x,_,0,v=>rfl
 | .lf x,_,i+1,v=>rfl
 | .em,_,i,v=>rfl
 | .nd n l r,⟨h1,h2,h3⟩,i,v=>by
  rw [Tri.set_nd]
  by_cases h:i<n
  ·rw [if_pos h,Tri.toL,Tri.toL,Tri.set_toL h2,List.set_append,if_pos (by omega)]
  ·rw [if_neg h,Tri.toL,Tri.toL,Tri.set_toL h3,List.set_append,if_neg (by omega),h1]
theorem Tri.set_wf:∀ {t:Tri α} (h:t.wf) (i:Nat) (v:α),(t.set i v).wf
 | .lf x,_,0,v=>trivial
 | .lf x,_,i+1,v=>trivial
 | .em,_,i,v=>trivial
 | .nd n l r,⟨h1,h2,h3⟩,i,v=>by
  rw [Tri.set_nd]
  by_cases h:i<n
  ·rw [if_pos h];exact ⟨by rw [Tri.set_toL h2,List.length_set,h1],Tri.set_wf h2 i v,h3⟩
  ·rw [if_neg h];exact ⟨h1,h2,Tri.set_wf h3 _ v⟩
theorem Tri.any_eq (f:α→Bool):∀ t:Tri α,t.any f=t.toL.any f
 | .lf x=>by simp [Tri.any,Tri.toL]
 | .em=>rfl
 | .nd n l r=>by
  have:(Tri.nd n l r).any f=(l.any f || r.any f):=by
   show Bool.rec (motive:=fun _=>Bool) (r.any f) true (l.any f)=_
   cases l.any f <;> rfl
  rw [this,Tri.toL,List.any_append,Tri.any_eq f l,Tri.any_eq f r]
theorem Tri.all_eq (f:α→Bool):∀ t:Tri α,t.all f=t.toL.all f
 | .lf x=>by simp [Tri.all,Tri.toL]
 | .em=>rfl
 | .nd n l r=>by
  have:(Tri.nd n l r).all f=(l.all f && r.all f):=by
   show Bool.rec (motive:=fun _=>Bool) false (r.all f) (l.all f)=_
   cases l.all f <;> rfl
  rw [this,Tri.toL,zY37,Tri.all_eq f l,Tri.all_eq f r]
theorem Tri.map_nd (f:α→β) (n:Nat) (l r:Tri α):(Tri.nd n l r).map f = .nd n (l.map f) (r.map f):=rfl
theorem Tri.map_toL (f:α→β):∀ t:Tri α,(t.map f).toL=t.toL.map f
 | .lf x=>rfl
 | .em=>rfl
 | .nd n l r=>by rw [Tri.map_nd,Tri.toL,Tri.toL,zY27,Tri.map_toL f l,Tri.map_toL f r]
theorem Tri.map_wf (f:α→β):∀ {t:Tri α},t.wf→(t.map f).wf
 | .lf x,_=>trivial
 | .em,_=>trivial
 | .nd n l r,⟨h1,h2,h3⟩=>⟨by show (l.map f).toL.length=n;rw [Tri.map_toL,zY10,h1],Tri.map_wf f h2,Tri.map_wf f h3⟩
theorem Tri.all2_eq {f:α→α→Bool} (hf:∀ a b,f a b=true→a=b):∀ {t u:Tri α},t.all2 f u=true→t=u
 | .lf x,.lf y,h=>by rw [hf x y h]
 | .lf x,.nd ..,h=>by cases h
 | .lf x,.em,h=>by cases h
 | .em,.lf y,h=>by cases h
 | .em,.nd ..,h=>by cases h
 | .em,.em,h=>rfl
 | .nd n l r,.lf y,h=>by cases h
 | .nd n l r,.em,h=>by cases h
 | .nd n l r,.nd m l' r',h=>by
  have h:Bool.rec (motive:=fun _=>Bool) false (Bool.rec (motive:=fun _=>Bool) false (r.all2 f r') (l.all2 f l')) (Nat.beq n m)=true:=h
  cases h1:Nat.beq n m with
  | false=>rw [h1] at h;cases h
  | true =>
   rw [h1] at h
   cases h2:l.all2 f l' with
   | false=>rw [h2] at h;cases h
   | true =>
    rw [h2] at h;rw [zY0s h1,Tri.all2_eq hf h2,Tri.all2_eq hf (t:=r) (u:=r') h]
theorem Tri.size_eq:∀ {t:Tri α},t.wf→t.size=t.toL.length
 | .lf x,_=>rfl
 | .em,_=>rfl
 | .nd n l r,⟨h1,h2,h3⟩=>by
  have:(Tri.nd n l r).size=n+r.size:=rfl;rw [this,Tri.toL,zY01,h1,Tri.size_eq h3]
theorem Tri.rep_ok (x:α):∀ (d n:Nat),n≤2 ^ d→(Tri.rep x (d+1) n).toL=List.replicate n x∧(Tri.rep x (d+1) n).wf
 | d,0,_=>by unfold Tri.rep;exact ⟨rfl,trivial⟩
 | d,1,_=>by unfold Tri.rep;exact ⟨rfl,trivial⟩
 | 0,n+2,h=>by simp at h
 | d+1,n+2,h=>by
  have hp:2 ^ (d+1)=2 * 2 ^ d:=by rw [Nat.pow_succ];omega
  obtain ⟨h1,h2⟩:=Tri.rep_ok x d ((n+2) / 2) (by omega);obtain ⟨h3,h4⟩:=Tri.rep_ok x d (n+2 - (n+2) / 2) (by omega);have e:Tri.rep x (d+1+1) (n+2) = .nd ((n+2) / 2) (Tri.rep x (d+1) ((n+2) / 2)) (Tri.rep x (d+1) (n+2 - (n+2) / 2)):=rfl;rw [e];refine ⟨?_,?_,h2,h4⟩
  ·rw [Tri.toL,h1,h3,List.replicate_append_replicate]
   congr 1;omega
  ·rw [h1,zY1s]
theorem Tri.puts_ok:∀ (xs:List α) (k:Nat) (t:Tri α),t.wf→k+xs.length≤t.toL.length→(Tri.puts k xs t).toL=t.toL.take k++xs++t.toL.drop (k+xs.length)∧(Tri.puts k xs t).wf
 | [],k,t,h,hl=>by unfold Tri.puts;exact ⟨by simp,h⟩
 | x::xs,k,t,h,hl=>by
  unfold Tri.puts;simp only [zY03] at hl;obtain ⟨h1,h2⟩:=Tri.puts_ok xs (k+1) (t.set k x) (Tri.set_wf h k x) (by rw [Tri.set_toL h,List.length_set];omega);refine ⟨?_,h2⟩;rw [h1,Tri.set_toL h];have hk:k<t.toL.length:=by omega
  rw [List.take_succ_eq_append_getElem (by rw [List.length_set];exact hk),List.getElem_set_self];rw [List.take_set_of_le (zY0t k),List.drop_set_of_lt (by omega)];simp only [zY03,zY15,zY18,zY0y];rw [show k+(xs.length+1)=k+1+xs.length by omega]
end
section
variable {β:Type}
theorem z7l (n:Nat) (k:Nat→β):fN n k=k n:=by cases n <;> rfl
theorem z4d {α:Type} {f:α→(α→β)→β} (hf:∀ x k,f x k=k x):∀ (l:List α) (k:List α→β),fL f l k=k l
 | [],k=>rfl
 | x::xs,k=>by
  show f x (fun x=>fL f xs fun xs=>k (x::xs))=k (x::xs)
  rw [hf,z4d hf xs]
theorem zbb (a:Atom) (k:Atom→β):fA a k=k a:=by cases a <;> simp [fA,z7l]
theorem z091 (a:Option Atom) (k:Option Atom→β):fOp a k=k a:=by cases a <;> simp [fOp,zbb]
theorem z092 (a:Atom × Atom) (k:Atom × Atom→β):fPr a k=k a:=by simp [fPr,zbb]
theorem zcq (l:List Atom) (k:List Atom→β):fL fA l k=k l:=z4d zbb l k
theorem zzu (x:X) (k:X→β):fX x k=k x:=by
 cases x <;> simp [fX,zbb,z7l,z091,z4d z092,zcq,z4d (f:=fL fA) zcq]
theorem z093 (a:Nat × Nat) (k:Nat × Nat→β):fNN a k=k a:=by simp [fNN,z7l]
theorem zng (c:C1) (k:C1→β):fC c k=k c:=by cases c <;> simp [fC,zbb,z7l,z4d z093]
theorem z02c (b:Bool) (k:Bool→β):fBl b k=k b:=by cases b <;> rfl
theorem z094 (a:Bool × List C1) (k:Bool × List C1→β):fPt a k=k a:=by simp [fPt,z02c,z4d zng]
theorem z0a8 (v:SV) (k:SV→β):fV v k=k v:=by cases v <;> simp [fV,zng,z4d zng,z4d z094]
theorem z0a9 (o:Option Ob) (k:Option Ob→β):fO o k=k o:=by
 cases o with
 | none=>rfl
 | some o=>cases o <;> simp [fO,z7l,zbb,z4d zng,z02c]
theorem z0aa (w:Wr) (k:Wr→β):fW w k=k w:=by cases w <;> simp [fW,z7l,z0a8,z0a9]
theorem z0ab (e:Eff) (k:Eff→β):fE e k=k e:=by simp [fE,z4d zzu,z4d z0aa]
theorem z095 (l:Loc) (k:Loc→β):fLo l k=k l:=by cases l <;> simp [fLo,z7l]
theorem zg0:∀ (t:T) (k:T→β),Fast.fT t k=k t
 | .ret l,k=>by rw [Fast.fT,zcq]
 | .lets xs ck t,k=>by rw [Fast.fT,z4d zzu,z4d zzu,zg0 t]
 | .ite a t e,k=>by rw [Fast.fT,zbb,zg0 t,zg0 e]
 | .loop l b,k=>by rw [Fast.fT,zcq,zg0 b]
 | .again n l,k=>by rw [Fast.fT,z7l,zcq]
end
theorem z7x {a b:Atom} (h:Fast.bqA a b=true):a=b:=by
 cases a <;> cases b <;> simp only [Fast.bqA,decide_eq_true_eq,zY0n] at h
 ·rw [zY0s h]
 ·rw [h]
theorem z02d:∀ {a b:List (Nat × Nat)},Fast.bqP a b=true→a=b
 | [],[],_=>rfl
 | [],_::_,h=>by cases h
 | _::_,[],h=>by cases h
 | (a,b)::r,(c,d)::s,h=>by
  simp only [Fast.bqP,zY0c] at h;rw [zY0s h.1.1,zY0s h.1.2,z02d h.2]
theorem z02e {a b:C1} (h:Fast.bqC a b=true):a=b:=by
 cases a <;> cases b <;> simp only [Fast.bqC,zY0c,zY0n] at h <;> try rfl
 ·rw [z7x h]
 ·rw [zY0s h.1,zY0s h.2]
 ·rw [z7x h.1.1,z7x h.1.2,zY0s h.2]
 ·rw [zY0s h]
 ·rw [zY0s h.1.1.1,z7x h.1.1.2,zY0s h.1.2,zY0s h.2]
 ·rw [zY0s h.1,z02d h.2]
theorem zah:∀ {a b:List C1},Fast.bqCs a b=true→a=b
 | [],[],_=>rfl
 | [],_::_,h=>by cases h
 | _::_,[],h=>by cases h
 | a::r,c::s,h=>by
  simp only [Fast.bqCs,zY0c] at h;rw [z02e h.1,zah h.2]
theorem z02f {a b:Bool} (h:Fast.bqB a b=true):a=b:=by cases a <;> cases b <;> first|rfl|cases h
theorem zyn:∀ {a b:List (Bool × List C1)},Fast.bqPs a b=true→a=b
 | [],[],_=>rfl
 | [],_::_,h=>by cases h
 | _::_,[],h=>by cases h
 | (a,b)::r,(c,d)::s,h=>by
  simp only [Fast.bqPs,zY0c] at h;rw [z02f h.1.1,zah h.1.2,zyn h.2]
theorem z02g (a b:SV) (h:Fast.bqV a b=true):a=b:=by
 cases a <;> cases b <;> simp only [Fast.bqV,zY0n] at h
 ·rw [z02e h]
 ·rw [zah h]
 ·rw [zyn h]
theorem z096 (a b:Option Ob) (h:Fast.bqO a b=true):a=b:=by
 cases a with
 | none=>cases b with
  | none=>rfl
  | some b=>cases h
 | some a=>cases b with
  | none=>cases a <;> cases h
  | some b =>
   cases a <;> cases b <;> simp only [Fast.bqO,zY0c,zY0n] at h <;> try rfl
   ·rw [zY0s h.1,zah h.2]
   ·rw [zah h]
   ·rw [zY0s h.1.1,zY0s h.1.2,z7x h.2]
   ·rw [z7x h]
   ·rw [z7x h]
   ·rw [zY0s h.1.1.1,zY0s h.1.1.2,z02f h.1.2,z7x h.2]
theorem zos:∀ {a b:List (Tri SV)},Fast.bqS a b=true→a=b
 | [],[],_=>rfl
 | [],_::_,h=>by cases h
 | _::_,[],h=>by cases h
 | a::r,c::s,h=>by
  simp only [Fast.bqS,zY0c] at h;rw [Tri.all2_eq z02g h.1,zos h.2]
theorem zhm {α:Type} {τ:Tri SV} {ω:Tri (Option Ob)} (h1:τ.wf) (h2:ω.wf):∀ m:Rd α,z9c τ ω m=m.run τ.toL ω.toL
 | .pure a=>rfl
 | .fail=>rfl
 | .t i k=>by
  show Option.rec (motive:=fun _=>Option α) none (fun x=>z9c τ ω (k x)) (τ.get i)=_
  rw [Tri.get_eq h1,Rd.run]
  cases τ.toL[i]? with
  | none=>rfl
  | some x=>exact zhm h1 h2 (k x)
 | .o i k=>by
  show Option.rec (motive:=fun _=>Option α) none (fun x=>z9c τ ω (k x)) (ω.get i)=_
  rw [Tri.get_eq h2,Rd.run]
  cases ω.toL[i]? with
  | none=>rfl
  | some x=>exact zhm h1 h2 (k x)
theorem zhn {α:Type} {τ:Tri SV} {ω:Tri (Option Ob)} (h1:τ.wf) (h2:ω.wf):∀ m:Rd α,zor τ ω m=m.log τ.toL ω.toL
 | .pure a=>rfl
 | .fail=>rfl
 | .t i k=>by
  show Option.rec (motive:=fun _=>List Loc) [] (fun x=>Loc.t i::zor τ ω (k x)) (τ.get i)=_
  rw [Tri.get_eq h1,Rd.log]
  cases τ.toL[i]? with
  | none=>rfl
  | some x=>exact congrArg _ (zhn h1 h2 (k x))
 | .o i k=>by
  show Option.rec (motive:=fun _=>List Loc) [] (fun x=>Loc.o i::zor τ ω (k x)) (ω.get i)=_
  rw [Tri.get_eq h2,Rd.log]
  cases ω.toL[i]? with
  | none=>rfl
  | some x=>exact congrArg _ (zhn h1 h2 (k x))
def Tri.Is {α:Type} (t:Tri α) (l:List α):Prop:=t.wf∧t.toL=l
def IsS (σ:List (Tri SV)) (l:List SV):Prop:=(∀ t ∈ σ,t.wf)∧σ.flatMap Tri.toL=l
theorem Tri.Is.get {α:Type} {t:Tri α} {l:List α} (h:t.Is l) (i:Nat):t.get i=l[i]?:=by rw [Tri.get_eq h.1,h.2]
theorem Tri.Is.set {α:Type} {t:Tri α} {l:List α} (h:t.Is l) (i:Nat) (v:α):(t.set i v).Is (l.set i v):=⟨Tri.set_wf h.1 i v,by rw [Tri.set_toL h.1,h.2]⟩
theorem Tri.Is.map {α β:Type} {t:Tri α} {l:List α} (h:t.Is l) (f:α→β):(t.map f).Is (l.map f):=⟨Tri.map_wf f h.1,by rw [Tri.map_toL,h.2]⟩
theorem IsS.map {σ:List (Tri SV)} {l:List SV} (h:IsS σ l) (f:SV→SV):IsS (σ.map (Tri.map f)) (l.map f):=by
 obtain ⟨h1,rfl⟩:=h;refine ⟨fun t ht=>?_,?_⟩
 ·obtain ⟨u,hu,rfl⟩:=zY2h.1 ht
  exact Tri.map_wf f (h1 u hu)
 ·induction σ with
  | nil=>rfl
  | cons t σ ih=>simp only [zY1t,zY25,zY27,Tri.map_toL,ih fun u hu=>h1 u (zY0j _ hu)]
theorem IsS.any {σ:List (Tri SV)} {l:List SV} (h:IsS σ l) (f:SV→Bool):σ.any (Tri.any f)=l.any f:=by
 obtain ⟨h1,rfl⟩:=h
 induction σ with
 | nil=>rfl
 | cons t σ ih=>simp only [zY2w,zY25,List.any_append,Tri.any_eq,ih fun u hu=>h1 u (zY0j _ hu)]
theorem IsS.all {σ:List (Tri SV)} {l:List SV} (h:IsS σ l) (f:SV→Bool):σ.all (Tri.all f)=l.all f:=by
 obtain ⟨h1,rfl⟩:=h
 induction σ with
 | nil=>rfl
 | cons t σ ih=>simp only [zY3j,zY25,zY37,Tri.all_eq,ih fun u hu=>h1 u (zY0j _ hu)]
theorem Tri.Is.run {α:Type} {τ:Tri SV} {ω:Tri (Option Ob)} {τ':List SV} {ω':List (Option Ob)} (h1:τ.Is τ') (h2:ω.Is ω') (m:Rd α):z9c τ ω m=m.run τ' ω':=by rw [zhm h1.1 h2.1,h1.2,h2.2]
theorem Tri.Is.log {α:Type} {τ:Tri SV} {ω:Tri (Option Ob)} {τ':List SV} {ω':List (Option Ob)} (h1:τ.Is τ') (h2:ω.Is ω') (m:Rd α):zor τ ω m=m.log τ' ω':=by rw [zhn h1.1 h2.1,h1.2,h2.2]
theorem zcr:∀ (ws:List Wr) {τ:Tri SV} {ω:Tri (Option Ob)} {τ':List SV} {ω':List (Option Ob)},τ.Is τ'→ω.Is ω'→(Fast.wrT τ ω ws).1.Is (wr τ' ω' ws).1∧(Fast.wrT τ ω ws).2.Is (wr τ' ω' ws).2
 | [],_,_,_,_,h1,h2=>⟨h1,h2⟩
 | .t i v::ws,_,_,_,_,h1,h2=>zcr ws (h1.set i v) h2
 | .o i v::ws,_,_,_,_,h1,h2=>zcr ws h1 (h2.set i v)
structure Rl (a:SF) (b:St):Prop where
 τ:a.τ.Is b.τ
 ω:a.ω.Is b.ω
 n:a.n=b.n
 lvl:a.lvl=b.lvl
 kn:a.kn=b.kn
 kb:a.kb=b.kb
 σ:IsS a.σ b.σ
theorem zg1 {a:SF} {b:St} (h:Rl a b) (ops:List Oper) (o:Oper):Fast.guardOf ops a o=guardOf ops b o:=by
 unfold Fast.guardOf guardOf;rw [h.kn]
 cases o.guard with
 | none=>rfl
 | some p =>
  simp only
  cases (ops[p.1]?).bind (·.dst) with
  | none=>rfl
  | some d =>
   simp only [h.τ.get];rfl
theorem z0ac {β:Type} (l:List (Nat × Bool)) (k:List (Nat × Bool)→β):Fast.fK l k=k l:=by
 rcases l with _|⟨⟨x,y⟩,r⟩
 ·rfl
 ·show fN x (fun a=>k ((a,y)::r))=_
  rw [z7l]
theorem z9q {a:SF} {b:St} (h:Rl a b) {cx:Cx} {nt:Nat} {ops:List Oper} {o:Oper} {kF:SF→Rec→Option T} {k:St→Rec→Option T} (hk:∀ a b r t,Rl a b→kF a r=some t→k b r=some t) {t:T} (he:Fast.regDo cx nt ops o a kF=some t):regDo cx nt ops o b k=some t:=by
 unfold Fast.regDo at he;unfold regDo;simp only [z0ab,z7l,z4d z095,z0ac,h.n,h.kb,h.kn,h.τ.run h.ω,h.τ.log h.ω] at he ⊢
 cases hr:(zl cx b.kb b.n nt b.kn o).run b.τ b.ω with
 | none=>rw [hr] at he;cases he
 | some e =>
  rw [hr] at he;simp only at he ⊢;obtain ⟨w1,w2⟩:=zcr e.ws h.τ h.ω
  split at he
  ·cases he
  ·rename_i t' ht
   have hh:=fun h'=>hk _ { b with τ:=(wr b.τ b.ω e.ws).1,ω:=(wr b.τ b.ω e.ws).2,n:=b.n+e.xs.length,kn:=zh3 cx b.n e.xs b.kn } _ t' h' ht
   have:=hh ⟨w1,w2,rfl,h.lvl,rfl,rfl,h.σ⟩;rw [this];exact he
theorem z7m {a:SF} {b:St} (h:Rl a b) {ops:List Oper} {o:Oper} {kF:SF→Rec→Option T} {k:St→Rec→Option T} (hk:∀ a b r t,Rl a b→kF a r=some t→k b r=some t) {t:T} (he:Fast.regSkip ops o a kF=some t):regSkip ops o b k=some t:=by
 unfold Fast.regSkip at he;unfold regSkip;simp only [h.n,h.kn] at he ⊢;obtain ⟨w1,w2⟩:=zcr (z00 o (.one .und)) h.τ h.ω;have hh:=fun s h'=>hk _ s _ t h' he
 exact hh _ ⟨w1,w2,rfl,h.lvl,rfl,h.kb,h.σ⟩
theorem z61 {a:SF} {b:St} (h:Rl a b) (v:Nat) (x:Bool):Rl (Fast.learn a v x) (learn b v x):=⟨h.τ,h.ω,h.n,h.lvl,by show (if Nat.ble knB v=true then a.kn else (v,x)::a.kn)=(if Nat.ble knB v=true then b.kn else (v,x)::b.kn);rw [h.kn],h.kb,h.σ⟩
theorem zbc {cx:Cx} {nt:Nat} {ops:List Oper} {kF:SF→List Rec→Option T} {k:St→List Rec→Option T} (hk:∀ a b r t,Rl a b→kF a r=some t→k b r=some t):∀ (l:List Oper) {a:SF} {b:St} (h:Rl a b) (rs:List Rec) {t:T} (he:Fast.regRun cx nt ops l a rs kF=some t),regRun cx nt ops l b rs k=some t
 | [],a,b,h,rs,t,he=>hk a b rs t h he
 | o::l,a,b,h,rs,t,he=>by
  rw [Fast.regRun] at he;rw [regRun];rw [zg1 h] at he;have step:∀ a b r t,Rl a b→Fast.regRun cx nt ops l a (rs++[r]) kF=some t→regRun cx nt ops l b (rs++[r]) k=some t:=fun a b r t h he=>zbc hk l h _ he
  cases hg:guardOf ops b o with
  | yes=>rw [hg] at he;simp only at he ⊢;exact z9q h step he
  | no=>rw [hg] at he;simp only at he ⊢;exact z7m h step he
  | fail=>rw [hg] at he;cases he
  | ask v =>
   rw [hg] at he;simp only at he ⊢;generalize hgd:o.guard=g at he;rcases g with _|⟨gj,gw⟩
   all_goals
    simp only at he ⊢
    split at he
    ·rename_i x y h1 h2
     rw [z9q (z61 h v _) step h1,z7m (z61 h v _) step h2];exact he
    ·cases he
structure RlP (p:Fast.S3) (q:S3):Prop where
 τ:p.1.Is q.1
 ω:p.2.1.Is q.2.1
 σ:IsS p.2.2 q.2.2
theorem zbd {p:Fast.S3} {q:S3} (h:RlP p q) (k i:Nat):RlP (Fast.renKey k i p) (renKey k i q):=by
 unfold Fast.renKey renKey;rw [h.ω.get,h.ω.get];generalize q.2.1[k]? = x;generalize q.2.1[i]? = y;rcases x with _|_|o
 ·exact h
 ·exact h
 ·rcases y with _|_|o'
  ·exact h
  ·show RlP (if k=i then p else _) (if k=i then q else _)
   split
   ·exact h
   ·exact ⟨h.τ.map _,((h.ω.set _ _).set _ _).map _,h.σ.map _⟩
  ·exact h
theorem z053 {τ:Tri SV} {ω:Tri (Option Ob)} {σ:List (Tri SV)} {τ':List SV} {ω':List (Option Ob)} {σ':List SV} (h1:τ.Is τ') (h2:ω.Is ω') (h3:IsS σ σ') (k:Nat):Fast.noRef k τ ω σ=noRef k τ' ω' σ':=by
 unfold Fast.noRef noRef;rw [Tri.any_eq,Tri.any_eq,h1.2,h2.2,h3.any];rfl
theorem zcs:∀ (l:List Nat) {τ:Tri SV} {τ':List SV},τ.Is τ'→(Fast.topAll τ l).Is (topAll τ' l)
 | [],_,_,h=>h
 | i::l,_,_,h=>zcs l (h.set i _)
theorem z51 {τ:Tri SV} {σ:List (Tri SV)} {τ':List SV} {σ':List SV} (h1:τ.Is τ') (h3:IsS σ σ'):∀ (l:List Nat) {ω:Tri (Option Ob)} {ω':List (Option Ob)},ω.Is ω'→(Fast.dropAll τ ω σ l).Is (dropAll τ' ω' σ' l)
 | [],_,_,h=>h
 | k::l,ω,ω',h=>by
  rw [Fast.dropAll,dropAll,h.get,z053 h1 h h3];generalize ω'[k]? = x;rcases x with _|_|v
  ·exact z51 h1 h3 l h
  ·exact z51 h1 h3 l h
  ·show Tri.Is (if noRef k τ' ω' σ'=true then _ else _) (if noRef k τ' ω' σ'=true then _ else _)
   split
   ·exact z51 h1 h3 l (h.set k _)
   ·exact z51 h1 h3 l h
theorem zzv {p:Fast.S3} {q:S3} (h:RlP p q) (kb i e sz:Nat):RlP (Fast.rowKey kb i e sz p) (rowKey kb i e sz q):=by
 unfold Fast.rowKey rowKey;rw [h.τ.get];generalize q.1[i]? = x;rcases x with _|v
 ·exact h
 cases v with
 | agg cs=>exact h
 | tup ps=>exact h
 | one c =>
  cases c with
  | row k=>exact zbd h _ _
  | «at» a =>
   cases a with
   | v n=>exact h
   | c l =>
    cases l with
    | nil z =>
     show RlP (match p.2.1.get (kb+i) with|some none=>_|_=>_) (match q.2.1[kb+i]? with|some none=>_|_=>_)
     rw [h.ω.get];generalize q.2.1[kb+i]? = y;rcases y with _|_|o
     ·exact h
     ·show RlP (if z=sz then _ else _) (if z=sz then _ else _)
      split
      ·exact ⟨h.τ.set _ _,h.ω.set _ _,h.σ⟩
      ·exact h
     ·exact h
    | _=>exact h
  | _=>exact h
theorem zw1 {p:Fast.S3} {q:S3} (h:RlP p q) (k j key:Nat):RlP (Fast.cellKey k j key p) (cellKey k j key q):=by
 unfold Fast.cellKey cellKey;rw [h.ω.get];generalize q.2.1[k]? = x;rcases x with _|_|o
 ·exact h
 ·exact h
 cases o with
 | box t cs =>
  show RlP (match cs[j]? with|some (.row q)=>_|_=>_) (match cs[j]? with|some (.row q)=>_|_=>_)
  generalize cs[j]? = y;rcases y with _|c
  ·exact h
  ·cases c with
   | row k=>exact zbd h _ _
   | _=>exact h
 | _=>exact h
theorem zzw {p:Fast.S3} {q:S3} (h:RlP p q) (k j key e sz:Nat):RlP (Fast.nilKey k j key e sz p) (nilKey k j key e sz q):=by
 unfold Fast.nilKey nilKey;rw [h.ω.get];generalize q.2.1[k]? = x;rcases x with _|_|o
 ·exact h
 ·exact h
 cases o with
 | box t cs =>
  show RlP (match cs[j]? with|some (.at (.c (.nil z)))=>_|_=>_) (match cs[j]? with|some (.at (.c (.nil z)))=>_|_=>_)
  generalize cs[j]? = y;rcases y with _|c
  ·exact h
  cases c with
  | «at» a =>
   cases a with
   | v n=>exact h
   | c l =>
    cases l with
    | nil z =>
     show RlP (match p.2.1.get key with|some none=>_|_=>_) (match q.2.1[key]? with|some none=>_|_=>_)
     rw [h.ω.get];generalize q.2.1[key]? = y;rcases y with _|_|o
     ·exact h
     ·show RlP (if z=sz then _ else _) (if z=sz then _ else _)
      split
      ·exact ⟨h.τ,(h.ω.set _ _).set _ _,h.σ⟩
      ·exact h
     ·exact h
    | _=>exact h
  | _=>exact h
 | _=>exact h
theorem z3k (kb:Nat):∀ (l:List Cy) {p:Fast.S3} {q:S3},RlP p q→RlP (Fast.rowKeys kb p l) (rowKeys kb q l)
 | [],_,_,h=>h
 | .r i e sz::l,_,_,h=>z3k kb l (zzv h kb i e sz)
 | .c k j key::l,_,_,h=>z3k kb l (zw1 h k j key)
 | .t _::l,_,_,h=>z3k kb l h
 | .o _::l,_,_,h=>z3k kb l h
 | .z _::l,_,_,h=>z3k kb l h
 | .n k j key e sz::l,_,_,h=>z3k kb l (zzw h k j key e sz)
theorem zit {a:SF} {b:St} (h:Rl a b) (ds:List Nat) (cy:List Cy):RlP (Fast.normS ds cy a) (normS ds cy b):=by
 unfold Fast.normS normS;simp only;rw [h.kb,Tri.size_eq h.ω.1,h.ω.2];have ht:=zcs ((ds.filter fun d => !(cyT cy).contains d)++cyZ cy) h.τ;exact z3k _ _ ⟨ht,z51 ht h.σ _ h.ω,h.σ⟩
structure RlG (p:(Tri SV × Tri (Option Ob)) × List Atom) (q:(List SV × List (Option Ob)) × List Atom):Prop where
 τ:p.1.1.Is q.1.1
 ω:p.1.2.Is q.1.2
 l:p.2=q.2
theorem z054 {τ:Tri SV} {ω:Tri (Option Ob)} {τ':List SV} {ω':List (Option Ob)} (h1:τ.Is τ') (h2:ω.Is ω') (kb n:Nat):∀ c:Cy,RlG (Fast.genL kb n τ ω c) (genL kb n τ' ω' c)
 | .t i=>by
  rw [Fast.genL,genL,h1.get];generalize τ'[i]? = x;rcases x with _|v
  ·exact ⟨h1,h2,rfl⟩
  cases v with
  | one c=>cases c <;> first|exact ⟨h1,h2,rfl⟩|exact ⟨h1.set _ _,h2,rfl⟩
  | agg cs=>exact ⟨h1.set _ _,h2,rfl⟩
  | tup ps=>exact ⟨h1,h2,rfl⟩
 | .r i e sz=>by
  rw [Fast.genL,genL,h2.get];generalize ω'[kb+i]? = x;rcases x with _|_|o
  ·exact ⟨h1,h2,rfl⟩
  ·exact ⟨h1,h2,rfl⟩
  ·cases o <;> first|exact ⟨h1,h2,rfl⟩|exact ⟨h1,h2.set _ _,rfl⟩
 | .o k=>by
  rw [Fast.genL,genL,h2.get];generalize ω'[k]? = x;rcases x with _|_|o
  ·exact ⟨h1,h2,rfl⟩
  ·exact ⟨h1,h2,rfl⟩
  ·cases o <;> first|exact ⟨h1,h2,rfl⟩|exact ⟨h1,h2.set _ _,rfl⟩
 | .c _ _ k=>by
  rw [Fast.genL,genL,h2.get];generalize ω'[k]? = x;rcases x with _|_|o
  ·exact ⟨h1,h2,rfl⟩
  ·exact ⟨h1,h2,rfl⟩
  ·cases o <;> first|exact ⟨h1,h2,rfl⟩|exact ⟨h1,h2.set _ _,rfl⟩
 | .z _=>⟨h1,h2,rfl⟩
 | .n .. => ⟨h1,h2,rfl⟩
theorem zho (kb:Nat):∀ (cy:List Cy) (n:Nat) {τ:Tri SV} {ω:Tri (Option Ob)} {τ':List SV} {ω':List (Option Ob)},τ.Is τ'→ω.Is ω'→RlG (Fast.gen kb n τ ω cy) (gen kb n τ' ω' cy)
 | [],n,_,_,_,_,h1,h2=>⟨h1,h2,rfl⟩
 | c::cs,n,τ,ω,τ',ω',h1,h2=>by
  have h:=z054 h1 h2 kb n c;have h':=zho kb cs (n+(genL kb n τ' ω' c).2.length) h.τ h.ω;have e:n+(Fast.genL kb n τ ω c).2.length=n+(genL kb n τ' ω' c).2.length:=by rw [h.l]
  show RlG ((Fast.gen kb (n+(Fast.genL kb n τ ω c).2.length) (Fast.genL kb n τ ω c).1.1 (Fast.genL kb n τ ω c).1.2 cs).1,(Fast.genL kb n τ ω c).2++(Fast.gen kb (n+(Fast.genL kb n τ ω c).2.length) (Fast.genL kb n τ ω c).1.1 (Fast.genL kb n τ ω c).1.2 cs).2) ((gen kb (n+(genL kb n τ' ω' c).2.length) (genL kb n τ' ω' c).1.1 (genL kb n τ' ω' c).1.2 cs).1,(genL kb n τ' ω' c).2++(gen kb (n+(genL kb n τ' ω' c).2.length) (genL kb n τ' ω' c).1.1 (genL kb n τ' ω' c).1.2 cs).2)
  rw [e];exact ⟨h'.τ,h'.ω,by rw [h.l,h'.l]⟩
theorem ziu {n:Nat} {l:List Atom} {σ σ1:List (Tri SV)} {τ τ1:Tri SV} {ω ω1:Tri (Option Ob)} {σ' σ1':List SV} {τ' τ1':List SV} {ω' ω1':List (Option Ob)} (hσ:IsS σ σ') (hσ1:IsS σ1 σ1') (hτ:τ.Is τ') (hτ1:τ1.Is τ1') (hω:ω.Is ω') (hω1:ω1.Is ω1')
  (h:Fast.sameS n l σ τ ω τ1 ω1 σ1=true):sameS n l σ' τ' ω' τ1' ω1' σ1'=true:=by
 unfold Fast.sameS at h;simp only [zY0c] at h;obtain ⟨⟨⟨⟨⟨⟨h1,h2⟩,h3⟩,h4⟩,h5⟩,h6⟩,h7⟩:=h;have e1:σ1'=σ':=by rw [← hσ.2,← hσ1.2,zos h1]
 have e3:σ'.map (sbV n l)=σ':=by
  have:=(hσ.map (sbV n l)).2;rw [zos h3,hσ.2] at this;exact this.symm
 have e6:τ'.map (sbV n l)=τ1':=by
  have:=(hτ.map (sbV n l)).2;rw [Tri.all2_eq z02g h6,hτ1.2] at this;exact this.symm
 have e7:ω'.map (Option.map (sbO n l))=ω1':=by
  have:=(hω.map (Option.map (sbO n l))).2;rw [Tri.all2_eq z096 h7,hω1.2] at this;exact this.symm
 rw [hσ.all] at h2;rw [Tri.all_eq,hτ.2] at h4;rw [Tri.all_eq,hω.2] at h5;unfold sameS;simp only [zY0c,decide_eq_true_eq];exact ⟨⟨⟨⟨⟨⟨e1,h2⟩,e3⟩,h4⟩,h5⟩,e6⟩,e7⟩
end
section
open Go.RowKit
theorem zot {a:SF} {b:St} (h:Rl a b) (fx:Fx) (o:Oper):Fast.inlOf fx a o=inlOf fx b o:=by
 unfold Fast.inlOf inlOf
 cases o.op with
 | call c =>
  simp only
  cases c.callee with
  | value fx' =>
   simp only;rw [h.τ.run h.ω];generalize (evC fx.cx 0 fx').run b.τ b.ω=x;rcases x with _|c1
   ·rfl
   ·cases c1 with
    | fn f caps =>
     simp only
     cases z91 f fx.fns with
     | none=>rfl
     | some g =>
      simp only;rw [h.τ.run h.ω];rfl
    | _=>rfl
  | _=>rfl
 | _=>rfl
theorem zg2 {ω:Tri (Option Ob)} {ω':List (Option Ob)} (h:ω.Is ω'):∀ n k,Fast.freeKey ω n k=freeKey ω' n k
 | 0,k=>rfl
 | n+1,k=>by
  rw [Fast.freeKey,freeKey,h.get];generalize ω'[k]? = x;rcases x with _|_|o
  ·rfl
  ·rfl
  ·exact zg2 h n (k+1)
theorem z6h (pool:Nat):∀ (l:List Nat) {p:Fast.S3} {q:S3},RlP p q→RlP (Fast.toPool pool p l) (toPool pool q l)
 | [],_,_,h=>h
 | k::l,p,q,h=>by
  rw [Fast.toPool,toPool,h.ω.get];generalize q.2.1[k]? = x;rcases x with _|_|o
  ·exact z6h pool l h
  ·exact z6h pool l h
  ·show RlP (match Fast.freeKey p.2.1 100 pool with|some i=>_|none=>_) (match freeKey q.2.1 100 pool with|some i=>_|none=>_)
   rw [zg2 h.ω]
   cases freeKey q.2.1 100 pool with
   | none=>exact z6h pool l h
   | some i=>exact z6h pool l (zbd h k i)
def RlI (iF:Fast.Inl) (i:Inl):Prop:=∀ (fx:Fx) (g:FnI) (vs:List SV) (o:Oper) (a:SF) (b:St) (kF:SF→Option T) (k:St→Option T) (t:T),Rl a b→(∀ a b t,Rl a b→kF a=some t→k b=some t)→iF fx g vs o a kF=some t→i fx g vs o b k=some t
theorem zg3 {iF:Fast.Inl} {i:Inl} (hi:RlI iF i) {fx:Fx} {ops:List Oper} {kF:SF→Option T} {k:St→Option T} (hk:∀ a b t,Rl a b→kF a=some t→k b=some t):∀ (l:List Oper) {a:SF} {b:St} (h:Rl a b) {t:T},Fast.seqRun iF fx ops l a kF=some t→seqRun i fx ops l b k=some t
 | [],a,b,h,t,he=>hk a b t h he
 | o::l,a,b,h,t,he=>by
  rw [Fast.seqRun] at he;rw [seqRun];rw [zg1 h] at he;have step:∀ a b t,Rl a b→Fast.seqRun iF fx ops l a kF=some t→seqRun i fx ops l b k=some t:=fun a b t h he=>zg3 hi hk l h he
  have go:∀ a b t,Rl a b→(match Fast.inlOf fx a o with
    | some (g,vs)=>iF fx g vs o a fun s=>Fast.seqRun iF fx ops l s kF
    | none=>Fast.regDo fx.cx fx.nt ops o a fun s _=>Fast.seqRun iF fx ops l s kF)=some t→(match inlOf fx b o with
    | some (g,vs)=>i fx g vs o b fun s=>seqRun i fx ops l s k
    | none=>regDo fx.cx fx.nt ops o b fun s _=>seqRun i fx ops l s k)=some t:=by
   intro a b t h he;rw [zot h] at he;generalize inlOf fx b o=io at he ⊢;rcases io with _|⟨g,vs⟩
   ·exact z9q h (fun a b _ t h he=>step a b t h he) he
   ·exact hi fx g vs o a b _ _ t h step he
  cases hg:guardOf ops b o with
  | yes=>rw [hg] at he;simp only at he ⊢;exact go a b t h he
  | no=>rw [hg] at he;simp only at he ⊢;exact z7m h (fun a b _ t h he=>step a b t h he) he
  | fail=>rw [hg] at he;cases he
  | ask v =>
   rw [hg] at he;simp only at he ⊢;generalize hgd:o.guard=g at he;rcases g with _|⟨gj,gw⟩
   all_goals
    simp only at he ⊢
    split at he
    ·rename_i x y h1 h2
     have g1:=go _ _ _ (z61 h v _) h1;have g2:=z7m (z61 h v _) (fun a b _ t h he=>step a b t h he) h2
     split
     ·rename_i x' y' e1 e2
      cases e1.symm.trans g1
      cases e2.symm.trans g2
      exact he
     ·rename_i hno
      exact (hno x y g1 g2).elim
    ·cases he
theorem zbe {iF:Fast.Inl} {i:Inl} (hi:RlI iF i) {fx:Fx} {ops:List Oper} {an:List (List Nat)} {kF:SF→Option T} {k:St→Option T} (hk:∀ a b t,Rl a b→kF a=some t→k b=some t):∀ (m off:Nat) {a:SF} {b:St} (h:Rl a b) {t:T},Fast.segRun iF fx ops an m off a kF=some t→segRun i fx ops an m off b k=some t
 | 0,off,a,b,h,t,he=>by cases he
 | m+1,off,a,b,h,t,he=>by
  rw [Fast.segRun] at he;rw [segRun]
  cases hsp:z92 fx.fns an ops.length (ops.drop off) off with
  | none =>
   rw [hsp] at he;simp only at he ⊢;refine zbc (fun a b r t h he=>?_) _ h _ he
   by_cases hi':z68 an off r=true
   ·rw [if_pos hi'] at he ⊢
    exact hk a b t h he
   ·rw [if_neg hi'] at he;cases he
  | some j =>
   rw [hsp] at he;simp only at he ⊢
   cases hoj:ops[j]? with
   | none=>rw [hoj] at he;cases he
   | some o' =>
    rw [hoj] at he;simp only at he ⊢
    by_cases hm:(znl an j ops.length && o'.guard.isNone && Nat.ble off j)=true
    ·rw [if_pos hm] at he ⊢
     refine zbc (fun a b r t h he=>?_) _ h _ he
     by_cases hi':z68 an off r=true
     ·rw [if_pos hi'] at he ⊢
      rw [zot h] at he;generalize inlOf fx b o'=io at he ⊢;rcases io with _|⟨g,vs⟩
      ·exact z9q h (fun a b _ t h he=>zbe hi hk m (j+1) h he) he
      ·exact hi fx g vs o' a b _ _ t h (fun a b t h he=>zbe hi hk m (j+1) h he) he
     ·rw [if_neg hi'] at he;cases he
    ·rw [if_neg hm] at he;cases he
theorem z3l {iF:Fast.Inl} {i:Inl} (hi:RlI iF i) {fx:Fx}:∀ (c:Code) {a:SF} {b:St} (h:Rl a b) {kF:Ex→SF→Option T} {k:Ex→St→Option T} (hk:∀ e a b t,Rl a b→kF e a=some t→k e b=some t) {t:T},Fast.exec iF fx c a kF=some t→exec i fx c b k=some t
 | .skip,a,b,h,kF,k,hk,t,he=>hk _ _ _ _ h he
 | .label _,a,b,h,kF,k,hk,t,he=>hk _ _ _ _ h he
 | .exit _,a,b,h,kF,k,hk,t,he=>hk _ _ _ _ h he
 | .ret,a,b,h,kF,k,hk,t,he=>hk _ _ _ _ h he
 | .region id ops draw,a,b,h,kF,k,hk,t,he=>by
  rw [Fast.exec] at he;rw [exec]
  cases draw with
  | false =>
   simp only [if_true] at he ⊢;exact zg3 hi (fun a b t h he=>hk _ a b t h he) _ h he
  | true =>
   simp only [Bool.true_eq_false,if_false] at he ⊢
   split at he
   ·cases he
   rename_i hb;rw [if_neg hb];exact zbe hi (fun a b t h he=>hk _ a b t h he) 40 0 h he
 | .seq x y,a,b,h,kF,k,hk,t,he=>by
  rw [Fast.exec] at he;rw [exec];refine z3l hi x h (fun e a b t h he=>?_) he
  cases e with
  | normal=>exact z3l hi y h hk he
  | exit j=>exact hk _ _ _ _ h he
  | ret=>exact hk _ _ _ _ h he
 | .cond c x y,a,b,h,kF,k,hk,t,he=>by
  rw [Fast.exec] at he;rw [exec];rw [h.τ.run h.ω,h.kn] at he
  cases hr:(evA fx.cx 0 c).run b.τ b.ω with
  | none=>rw [hr] at he;cases he
  | some at' =>
   rw [hr] at he;simp only at he ⊢
   cases hv:evB b.kn at' with
   | some z =>
    rw [hv] at he
    cases z with
    | true=>exact z3l hi x h hk he
    | false=>exact z3l hi y h hk he
   | none =>
    rw [hv] at he
    cases at' with
    | c l=>cases he
    | v v =>
     simp only at he ⊢
     split at he
     ·rename_i t1 t2 h1 h2
      rw [z3l hi x (z61 h v true) hk h1,z3l hi y (z61 h v false) hk h2];exact he
     ·cases he
 | .block id x,a,b,h,kF,k,hk,t,he=>by
  rw [Fast.exec] at he;rw [exec];refine z3l hi x h (fun e a b t h he=>?_) he
  cases e with
  | normal=>exact hk _ _ _ _ h he
  | exit j =>
   simp only at he ⊢
   by_cases hj:j=id
   ·rw [if_pos hj] at he ⊢;exact hk _ _ _ _ h he
   ·rw [if_neg hj] at he ⊢;exact hk _ _ _ _ h he
  | ret=>exact hk _ _ _ _ h he
 | .loop x,a,b,h,kF,k,hk,t,he=>by
  rw [Fast.exec] at he;rw [exec];simp only at he ⊢;have hp:=zit h (z0l x) (zy x fx.hints);have hg:=zho b.kb (zy x fx.hints) b.n hp.τ hp.ω;rw [h.kb,h.n] at he
  split at he
  ·rename_i hs
   rw [hg.l] at hs;have hs':=ziu hp.σ hp.σ hg.τ hp.τ hg.ω hp.ω hs;rw [if_pos hs']
   split at he
   ·rename_i t' ht
    have hr:Rl { a with τ:=(Fast.gen b.kb b.n (Fast.normS (z0l x) (zy x fx.hints) a).1 (Fast.normS (z0l x) (zy x fx.hints) a).2.1 (zy x fx.hints)).1.1,ω:=(Fast.gen b.kb b.n (Fast.normS (z0l x) (zy x fx.hints) a).1 (Fast.normS (z0l x) (zy x fx.hints) a).2.1 (zy x fx.hints)).1.2,n:=b.n+(Fast.gen b.kb b.n (Fast.normS (z0l x) (zy x fx.hints) a).1 (Fast.normS (z0l x) (zy x fx.hints) a).2.1 (zy x fx.hints)).2.length,lvl:=a.lvl+1,kb:=b.kb,σ:=(Fast.normS (z0l x) (zy x fx.hints) a).2.2 }
      { b with τ:=(gen b.kb b.n (normS (z0l x) (zy x fx.hints) b).1 (normS (z0l x) (zy x fx.hints) b).2.1 (zy x fx.hints)).1.1,ω:=(gen b.kb b.n (normS (z0l x) (zy x fx.hints) b).1 (normS (z0l x) (zy x fx.hints) b).2.1 (zy x fx.hints)).1.2,n:=b.n+(gen b.kb b.n (normS (z0l x) (zy x fx.hints) b).1 (normS (z0l x) (zy x fx.hints) b).2.1 (zy x fx.hints)).2.length,lvl:=b.lvl+1,σ:=(normS (z0l x) (zy x fx.hints) b).2.2 } :=
     ⟨hg.τ,hg.ω,by simp only [hg.l],by simp only [h.lvl],h.kn,rfl,hp.σ⟩
    have:=z3l hi x hr (k:=fun e s'=>match e with
     | .normal =>
      if s'.kb=b.kb∧(gen b.kb b.n (normS (z0l x) (zy x fx.hints) s').1 (normS (z0l x) (zy x fx.hints) s').2.1 (zy x fx.hints)).2.length=(gen b.kb b.n (normS (z0l x) (zy x fx.hints) b).1 (normS (z0l x) (zy x fx.hints) b).2.1 (zy x fx.hints)).2.length ∧
        sameS b.n (gen b.kb b.n (normS (z0l x) (zy x fx.hints) s').1 (normS (z0l x) (zy x fx.hints) s').2.1 (zy x fx.hints)).2 (normS (z0l x) (zy x fx.hints) b).2.2 (gen b.kb b.n (normS (z0l x) (zy x fx.hints) b).1 (normS (z0l x) (zy x fx.hints) b).2.1 (zy x fx.hints)).1.1 (gen b.kb b.n (normS (z0l x) (zy x fx.hints) b).1 (normS (z0l x) (zy x fx.hints) b).2.1 (zy x fx.hints)).1.2 (normS (z0l x) (zy x fx.hints) s').1 (normS (z0l x) (zy x fx.hints) s').2.1 (normS (z0l x) (zy x fx.hints) s').2.2
      then some (.again b.lvl (gen b.kb b.n (normS (z0l x) (zy x fx.hints) s').1 (normS (z0l x) (zy x fx.hints) s').2.1 (zy x fx.hints)).2) else none
     | e=>k e s') (fun e a' b' t h' he=>?_) ht
    ·refine Eq.trans (congrArg (fun o:Option T=>match o with|some t=>some (T.loop (gen b.kb b.n (normS (z0l x) (zy x fx.hints) b).1 (normS (z0l x) (zy x fx.hints) b).2.1 (zy x fx.hints)).2 t)|none=>none) this) ?_
     rw [hg.l] at he;exact he
    ·cases e with
     | exit j=>exact hk _ _ _ _ h' he
     | ret=>exact hk _ _ _ _ h' he
     | normal =>
      simp only at he ⊢;have hp':=zit h' (z0l x) (zy x fx.hints);have hg':=zho b.kb (zy x fx.hints) b.n hp'.τ hp'.ω
      split at he
      ·rename_i hc
       obtain ⟨c1,c2,c3⟩:=hc;rw [hg'.l,hg.l] at c2;rw [hg'.l] at c3;rw [if_pos ⟨by rw [← h'.kb];exact c1,c2,ziu hp.σ hp'.σ hg.τ hp'.τ hg.ω hp'.ω c3⟩];rw [hg'.l,h.lvl] at he;exact he
      ·cases he
   ·cases he
  ·cases he
 | .rangeFunc ..,a,b,h,kF,k,hk,t,he=>by cases he
theorem zou:∀ d,RlI (Fast.inlD d) (inlD d)
 | 0=>fun fx g vs o a b kF k t h hk he=>by cases he
 | d+1=>fun fx g vs o a b kF k t h hk he=>by
  rw [Fast.inlD] at he;rw [inlD]
  by_cases hl:g.nt<vs.length∨2048<g.nt
  ·rw [if_pos hl] at he;cases he
  rw [if_neg hl] at he;rw [if_neg (by omega)];obtain ⟨r1,r2⟩:=Tri.rep_ok (SV.one .und) 11 g.nt (by omega);obtain ⟨p1,p2⟩:=Tri.puts_ok vs 0 (Tri.rep (SV.one .und) 12 g.nt) r2 (by rw [r1,zY1s];omega);have hτ:(Tri.puts 0 vs (Tri.rep (SV.one .und) 12 g.nt)).Is (vs++List.replicate (g.nt - vs.length) (.one .und)):=by
   refine ⟨p2,?_⟩;rw [p1,r1];simp only [List.take_zero,zY0y,zY0v,List.drop_replicate]
  have hra:Fast.rowArgs fx.cx.cut a.τ o=rowArgs fx.cx.cut b.τ o:=by
   unfold Fast.rowArgs rowArgs;congr 1
   cases o.op with
   | call c =>
    simp only;congr 1
    funext x
    cases x with
    | tmp t=>simp only [h.τ.get];rfl
    | _=>rfl
   | _=>rfl
  have hT:=zcs (rowArgs fx.cx.cut b.τ o) h.τ;rw [hra] at he;have hσ:IsS (Fast.topAll a.τ (rowArgs fx.cx.cut b.τ o)::a.σ) (topAll b.τ (rowArgs fx.cx.cut b.τ o)++b.σ):=by
   refine ⟨fun t ht=>?_,by rw [zY25,hT.2,h.σ.2]⟩;rcases zY0m.1 ht with rfl|ht
   ·exact hT.1
   ·exact h.σ.1 t ht
  refine z3l (zou d) g.body (a:={ a with τ:=Tri.puts 0 vs (Tri.rep (.one .und) 12 g.nt),kb:=a.kb+fx.mul * fx.nt,σ:=Fast.topAll a.τ (rowArgs fx.cx.cut b.τ o)::a.σ }) (b:={ b with τ:=vs++List.replicate (g.nt - vs.length) (.one .und),kb:=b.kb+fx.mul * fx.nt,σ:=topAll b.τ (rowArgs fx.cx.cut b.τ o)++b.σ }) ⟨hτ,h.ω,h.n,h.lvl,h.kn,by simp only [h.kb],hσ⟩ (fun e a2 b2 t h2 he=>?_) he
  cases e with
  | exit j=>cases he
  | _ =>
   simp only at he ⊢;rw [h2.τ.run h2.ω] at he
   cases hr:(z4w fx.cx g.results).run b2.τ b2.ω with
   | none=>rw [hr] at he;cases he
   | some svs =>
    rw [hr] at he;simp only at he ⊢
    cases hv:z7s svs with
    | none=>rw [hv] at he;cases he
    | some sv =>
     rw [hv] at he;simp only at he ⊢
     split at he
     ·cases he
     ·rename_i τ0 σ0 hs
      split at he
      ·cases he
      ·rename_i hz
       have hz:τ0.size=a.τ.size:=by
        cases hb:Nat.beq τ0.size a.τ.size with
        | false=>exact absurd hb hz
        | true=>exact zY0s hb
       have hw:∀ t ∈ τ0::σ0,t.wf:=by rw [← hs];exact h2.σ.1
       have hf:τ0.toL++σ0.flatMap Tri.toL=b2.σ:=by rw [← zY25,← hs];exact h2.σ.2
       have w0:=hw τ0 (zY0l ..);have hlen:τ0.toL.length=b.τ.length:=by rw [← Tri.size_eq w0,hz,Tri.size_eq h.τ.1,h.τ.2]
       have h0:τ0.Is (b2.σ.take b.τ.length):=⟨w0,by rw [← hf,← hlen,List.take_left]⟩
       have hσ0:IsS σ0 (b2.σ.drop b.τ.length):=⟨fun t ht=>hw t (zY0j _ ht),by rw [← hf,← hlen,List.drop_left]⟩
       obtain ⟨w1,w2⟩:=zcr (z00 o sv) h0 h2.ω;rw [Tri.size_eq w2.1,w2.2,h.kb] at he;have hq:=z6h fx.pool (List.range' (b.kb+fx.mul * fx.nt) (fx.mul * g.nt)) (p:=((Fast.wrT τ0 a2.ω (z00 o sv)).1,Fast.dropAll (Fast.wrT τ0 a2.ω (z00 o sv)).1 (Fast.wrT τ0 a2.ω (z00 o sv)).2 σ0 (List.range (wr (b2.σ.take b.τ.length) b2.ω (z00 o sv)).2.length),σ0))
        (q:=((wr (b2.σ.take b.τ.length) b2.ω (z00 o sv)).1,dropAll (wr (b2.σ.take b.τ.length) b2.ω (z00 o sv)).1 (wr (b2.σ.take b.τ.length) b2.ω (z00 o sv)).2 (b2.σ.drop b.τ.length) (List.range (wr (b2.σ.take b.τ.length) b2.ω (z00 o sv)).2.length),b2.σ.drop b.τ.length)) ⟨w1,z51 w1 hσ0 _ w2,hσ0⟩
       have hh:=fun s h'=>hk _ s t h' he
       exact hh _ ⟨hq.τ,hq.ω,h2.n,h2.lvl,h2.kn,rfl,hq.σ⟩
theorem z02h (sig:Sig) (nt cap:Nat) (h1:nt≤2048) (h2:cap+(z03 0 cap sig.args).2.1.length≤8192) (h3:(z03 0 cap sig.args).1.length≤nt):Rl (Fast.initS sig nt cap) (initS sig nt cap):=by
 obtain ⟨r1,r2⟩:=Tri.rep_ok (SV.one .und) 11 nt (by omega);obtain ⟨p1,p2⟩:=Tri.puts_ok (z03 0 cap sig.args).1 0 (Tri.rep (SV.one .und) 12 nt) r2 (by rw [r1,zY1s];omega);obtain ⟨r3,r4⟩:=Tri.rep_ok (none:Option Ob) 13 (cap+(z03 0 cap sig.args).2.1.length) (by omega);obtain ⟨p3,p4⟩:=Tri.puts_ok ((z03 0 cap sig.args).2.1.map some) cap (Tri.rep (none:Option Ob) 14 (cap+(z03 0 cap sig.args).2.1.length)) r4 (by rw [r3,zY1s,zY10];omega);refine ⟨⟨p2,?_⟩,⟨p4,?_⟩,rfl,rfl,rfl,rfl,⟨fun t ht=>(by cases ht),rfl⟩⟩
 ·show (Tri.puts 0 (z03 0 cap sig.args).1 (Tri.rep (SV.one .und) 12 nt)).toL=(z03 0 cap sig.args).1++List.replicate (nt - (z03 0 cap sig.args).1.length) (.one .und)
  rw [p1,r1];simp only [List.take_zero,zY0y,zY0v,List.drop_replicate]
 ·show (Tri.puts cap ((z03 0 cap sig.args).2.1.map some) (Tri.rep (none:Option Ob) 14 (cap+(z03 0 cap sig.args).2.1.length))).toL=List.replicate cap none++(z03 0 cap sig.args).2.1.map some
  rw [p3,r3];simp only [List.take_replicate,List.drop_replicate,zY10,Nat.sub_self,List.replicate_zero,zY2e];rw [zY1z (by omega)]
theorem ziv {a:SF} {b:St} (h:Rl a b) (cx:Cx) (sig:Sig) (rs:List ResultVar):Fast.outOf cx sig rs a=outOf cx sig rs b:=by
 unfold Fast.outOf outOf;rw [h.τ.run h.ω]
 cases (z4w cx rs).run b.τ b.ω with
 | none=>rfl
 | some vs =>
  simp only [zY0a,zY05];rw [h.τ.run h.ω]
theorem zai {fx:Fx} {sig:Sig} {fn:Func} {t:T} (he:Fast.decompN fx sig fn=some t):decomp fx sig fn=some t:=by
 unfold Fast.decompN at he
 split at he
 ·cases he
 rename_i t' he';rw [zg0] at he
 cases he
 unfold Fast.decomp at he';unfold decomp
 split at he'
 ·cases he'
 rename_i hc;rw [if_neg (by
  rintro (h|h)
  ·exact hc (.inl h)
  ·exact hc (.inr (.inl h)))]
 cases hb:fn.body with
 | none=>rw [hb] at he';cases he'
 | some c =>
  rw [hb] at he';simp only at he' ⊢;refine z3l (zou fx.dep) c (z02h sig fn.ntmps fx.cap (by omega) (by omega) (by omega)) (fun e a b t h he=>?_) he'
  cases e with
  | exit j=>cases he
  | normal=>rw [← ziv h];exact he
  | ret=>rw [← ziv h];exact he
end
section
open Go.RowKit
theorem z06 {sp:Nat→zh} {sigs:List (Nat × Sig)} {cut:List Nat} {hints:List Hint} {sig:Sig} {f:Nat} {fn:Func} {t:T} {spec:zh} (hf:Tryz.prog.funcs[f]? = some fn) (hname:(fn.name == "runtime.NumGoroutine")=false)
  (hdec:Fast.decompN (fxOf zfw sigs fn cut hints [] 0) sig fn=some t) (hsig:∀ ci f s,sigs[ci]? = some (f,s)→Meets Tryz.prog (sp ci) f s) (hspec:∀ ds rs,(∀ d ∈ ds,d.ok)→spec ds=some rs→(∃ N,den sp N t ds []=some rs)∧z4h sig rs):Meets Tryz.prog spec f sig :=
 z3s hf hname (zai hdec) hsig hspec
theorem z7y {sp:Nat→zh} {sigs:List (Nat × Sig)} {cut:List Nat} {hints:List Hint} {sig:Sig} {f:Nat} {fn:Func} {t:T} {spec:zh} {fns:List FnI} {dep pool:Nat} (hf:Tryz.prog.funcs[f]? = some fn) (hname:(fn.name == "runtime.NumGoroutine")=false)
  (hdec:Fast.decompN (fxIn zfw sigs fn cut hints fns dep pool) sig fn=some t) (hfn:∀ g ∈ fns,z98 Tryz.prog g) (hsig:∀ ci f s,sigs[ci]? = some (f,s)→Meets Tryz.prog (sp ci) f s) (hspec:∀ ds rs,(∀ d ∈ ds,d.ok)→spec ds=some rs→(∃ N,den sp N t ds []=some rs)∧z4h sig rs):Meets Tryz.prog spec f sig :=
 z04z hf hname (zai hdec) hfn hsig hspec
def z0w:List (Nat × zh)→Nat→zh
 | [],_=>fun _=>none
 | (i,s)::r,ci=>cond (Nat.beq ci i) s (z0w r ci)
def AllM (P:Program) (sigs:List (Nat × Sig)):List (Nat × zh)→Prop
 | []=>True
 | (i,s)::r=>(∀ f g,sigs[i]? = some (f,g)→Meets P s f g)∧AllM P sigs r
theorem zj {P:Program} {sigs:List (Nat × Sig)} {i f0:Nat} {g0:Sig} {s:zh} (h0:sigs[i]? = some (f0,g0)) (hm:Meets P s f0 g0):∀ f g,sigs[i]? = some (f,g)→Meets P s f g:=fun f g h=>by
 rw [h0] at h
 cases h
 exact hm
theorem z0q {P:Program} {sigs:List (Nat × Sig)}:∀ {L:List (Nat × zh)},AllM P sigs L→∀ ci f s,sigs[ci]? = some (f,s)→Meets P (z0w L ci) f s
 | [],_,ci,f,s,_=>z0m f s
 | (i,sp)::r,⟨h1,h2⟩,ci,f,s,h=>by
  show Meets P (cond (Nat.beq ci i) sp (z0w r ci)) f s
  cases hb:Nat.beq ci i with
  | true =>
   have:=zY0s hb;subst this;exact h1 f s h
  | false=>exact z0q h2 ci f s h
class Enc (α:Type) where
 e:α→List Dt
 n:Nat
 len:∀ x,(e x).length=n
 inj:∀ x y,e x=e y→x=y
instance:Enc Int:=⟨z13,1,fun _=>rfl,zoc⟩
instance:Enc Bool:=⟨z5n,1,fun _=>rfl,fun x y h=>by simpa [z5n] using h⟩
instance (priority:=high):Enc (List UInt8):=⟨z85,1,fun _=>rfl,zod⟩
instance:Enc Op:=⟨eOp,2,fun _=>rfl,zdu⟩
instance:Enc Point:=⟨z2c,2,fun _=>rfl,z6f⟩
instance:Enc In:=⟨eIn,3,fun _=>rfl,zyk⟩
instance:Enc Out:=⟨z1p,2,fun _=>rfl,zoe⟩
instance:Enc Tx:=⟨eTx,3,fun _=>rfl,zyl⟩
instance:Enc Coin:=⟨zb,6,fun _=>rfl,z9p⟩
instance:Enc Undo:=⟨z4x,1,fun _=>rfl,z022⟩
instance:Enc Book:=⟨z6d,1,fun _=>rfl,z023⟩
instance:Enc Block:=⟨z41,5,fun _=>rfl,zfq⟩
instance:Enc Tree:=⟨z6e,2,fun _=>rfl,z024⟩
instance:Enc Unit:=⟨fun _=>[],0,fun _=>rfl,fun _ _ _=>rfl⟩
instance {α:Type} [Enc α]:Enc (List α):=⟨fun l=>[.l (Enc.n α) (l.map Enc.e)],1,fun _=>rfl,fun x y h=>by
 simp only [zY20,Dt.l.injEq,true_and,and_true] at h
 exact z2y Enc.inj h⟩
instance {α β:Type} [Enc α] [Enc β]:Enc (α × β):=⟨fun x=>Enc.e x.1++Enc.e x.2,Enc.n α+Enc.n β,fun x=>by rw [zY01,Enc.len,Enc.len],fun x y h=>by
 obtain ⟨h1,h2⟩:=List.append_inj h (by rw [Enc.len,Enc.len])
 exact Prod.ext (Enc.inj _ _ h1) (Enc.inj _ _ h2)⟩
noncomputable def spD {α β:Type} [Enc α] [Enc β] (p:α→Prop) (f:α→β):zh:=z0p (fun x:{ x:α // p x }=>Enc.e x.1) fun x=>Enc.e (f x.1)
section
variable {α β:Type} [Enc α] [Enc β] {p:α→Prop} {f:α→β}
theorem z09 (x:α) (h:p x):spD p f (Enc.e x)=some (Enc.e (f x)):=z4i (e:=fun x:{ x:α // p x }=>Enc.e x.1) (fun x y h=>Subtype.ext (Enc.inj _ _ h)) ⟨x,h⟩
theorem z01 {ds rs:List Dt} (h:spD p f ds=some rs):∃ x,p x∧ds=Enc.e x∧rs=Enc.e (f x):=by
 obtain ⟨x,rfl,rfl⟩:=z1u h;exact ⟨x.1,x.2,rfl,rfl⟩
end
def ret {ρ:Type} [Enc ρ] (x:ρ):Option (List Dt):=some (Enc.e x)
section
variable {ρ:Type} [Enc ρ] {sp:Nat→zh} {N:Nat} {E:Env} {ks:List (List Dt→Option (List Dt))} {r1 r2:ρ} {a:Atom} {t e:T}
theorem z077 {c:Prop} [Decidable c] {d:Bool} (h:a.val E=some (.b d)) (hd:d=decide c) (ht:c→den sp N t E ks=ret r1) (he:¬ c→den sp N e E ks=ret r2):den sp N (.ite a t e) E ks=ret (if c then r1 else r2):=by
 subst hd;refine z0z h (fun h=>?_) (fun h=>?_)
 ·have h:=of_decide_eq_true h;rw [if_pos h];exact ht h
 ·have h:=of_decide_eq_false h;rw [if_neg h];exact he h
theorem z078 {c:Prop} [Decidable c] {d:Bool} (h:a.val E=some (.b (!d))) (hd:d=decide c) (ht:¬ c→den sp N t E ks=ret r2) (he:c→den sp N e E ks=ret r1):den sp N (.ite a t e) E ks=ret (if c then r1 else r2):=by
 subst hd;refine z0z h (fun h=>?_) (fun h=>?_)
 ·have h:¬ c:=by simpa using h
  rw [if_neg h];exact ht h
 ·have h:c:=by simpa using h
  rw [if_pos h];exact he h
theorem z079 {b d:Bool} (h:a.val E=some (.b d)) (hd:d=b) (ht:b=true→den sp N t E ks=ret r1) (he:b=false→den sp N e E ks=ret r2):den sp N (.ite a t e) E ks=ret (if b=true then r1 else r2):=by
 subst hd;refine z0z h (fun h=>?_) (fun h=>?_)
 ·rw [if_pos h];exact ht h
 ·rw [if_neg (by simp [h])];exact he h
theorem z055 {b d:Bool} (h:a.val E=some (.b (!d))) (hd:d=b) (ht:b=false→den sp N t E ks=ret r2) (he:b=true→den sp N e E ks=ret r1):den sp N (.ite a t e) E ks=ret (if b=true then r1 else r2):=by
 subst hd;refine z0z h (fun h=>?_) (fun h=>?_)
 ·have h:d=false:=by simpa using h
  rw [if_neg (by simp [h])];exact ht h
 ·have h:d=true:=by simpa using h
  rw [if_pos h];exact he h
theorem z07a {b d:Bool} (h:a.val E=some (.b d)) (hd:d=b) (ht:b=true→den sp N t E ks=ret r2) (he:b=false→den sp N e E ks=ret r1):den sp N (.ite a t e) E ks=ret (if b=false then r1 else r2):=by
 subst hd;refine z0z h (fun h=>?_) (fun h=>?_)
 ·rw [if_neg (by simp [h])];exact ht h
 ·rw [if_pos h];exact he h
theorem z056 {b d:Bool} (h:a.val E=some (.b (!d))) (hd:d=b) (ht:b=false→den sp N t E ks=ret r1) (he:b=true→den sp N e E ks=ret r2):den sp N (.ite a t e) E ks=ret (if b=false then r1 else r2):=by
 subst hd;refine z0z h (fun h=>?_) (fun h=>?_)
 ·have h:d=false:=by simpa using h
  rw [if_pos h];exact ht h
 ·have h:d=true:=by simpa using h
  rw [if_neg (by simp [h])];exact he h
section
variable {p q r:Prop} [Decidable p] [Decidable r] {d:Bool}
theorem z02i [Decidable q] [Decidable (p∧q)] (h:a.val E=some (.b d)) (hd:d=decide p) (ht:p→den sp N t E ks=ret (if q then r1 else r2)) (he:¬ p→den sp N e E ks=ret r2):den sp N (.ite a t e) E ks=ret (if p∧q then r1 else r2):=by
 subst hd;refine z0z h (fun h=>?_) (fun h=>?_)
 ·have h:=of_decide_eq_true h;simp only [h,true_and];exact ht h
 ·have h:=of_decide_eq_false h;simp only [h,false_and,if_false];exact he h
theorem z057 [Decidable q] [Decidable (p∨q)] (h:a.val E=some (.b d)) (hd:d=decide p) (ht:p→den sp N t E ks=ret r1) (he:¬ p→den sp N e E ks=ret (if q then r1 else r2)):den sp N (.ite a t e) E ks=ret (if p∨q then r1 else r2):=by
 subst hd;refine z0z h (fun h=>?_) (fun h=>?_)
 ·have h:=of_decide_eq_true h;simp only [h,true_or,if_true];exact ht h
 ·have h:=of_decide_eq_false h;simp only [h,false_or];exact he h
theorem zw2 [Decidable ((p∧q)∨r)] [Decidable (q∨r)] (h:a.val E=some (.b d)) (hd:d=decide p) (ht:p→den sp N t E ks=ret (if q∨r then r1 else r2)) (he:¬ p→den sp N e E ks=ret (if r then r1 else r2)):den sp N (.ite a t e) E ks=ret (if (p∧q)∨r then r1 else r2):=by
 subst hd;refine z0z h (fun h=>?_) (fun h=>?_)
 ·have h:=of_decide_eq_true h;simp only [h,true_and];exact ht h
 ·have h:=of_decide_eq_false h;simp only [h,false_and,false_or];exact he h
theorem zw3 [Decidable ((p∨q)∧r)] [Decidable (q∧r)] (h:a.val E=some (.b d)) (hd:d=decide p) (ht:p→den sp N t E ks=ret (if r then r1 else r2)) (he:¬ p→den sp N e E ks=ret (if q∧r then r1 else r2)):den sp N (.ite a t e) E ks=ret (if (p∨q)∧r then r1 else r2):=by
 subst hd;refine z0z h (fun h=>?_) (fun h=>?_)
 ·have h:=of_decide_eq_true h;simp only [h,true_or,true_and];exact ht h
 ·have h:=of_decide_eq_false h;simp only [h,false_or];exact he h
end
theorem z0ad {c:Prop} {i:Decidable c} {res:Option (List Dt)} (h:a.val E=some (.b (@decide c i))) (hc:c) (ht:den sp N t E ks=res):den sp N (.ite a t e) E ks=res:=zt (by rw [h,decide_eq_true hc]) ht
theorem z0ae {c:Prop} {i:Decidable c} {res:Option (List Dt)} (h:a.val E=some (.b (@decide c i))) (hc:¬ c) (he:den sp N e E ks=res):den sp N (.ite a t e) E ks=res:=zq (by rw [h,decide_eq_false hc]) he
theorem z02 {c:Prop} {i:Decidable c} {res:Option (List Dt)} (h:a.val E=some (.b (@decide c i))) (ht:c→den sp N t E ks=res) (he:¬ c→den sp N e E ks=res):den sp N (.ite a t e) E ks=res:=z0z h (fun h=>ht (of_decide_eq_true h)) (fun h=>he (of_decide_eq_false h))
theorem z058 {b q d:Bool} (h:a.val E=some (.b d)) (hd:d=b) (ht:b=true→den sp N t E ks=ret q) (he:b=false→den sp N e E ks=ret false):den sp N (.ite a t e) E ks=ret (b && q):=by
 subst hd;refine z0z h (fun h=>?_) (fun h=>?_)
 ·rw [h,zY2v];exact ht h
 ·rw [h,zY3b];exact he h
theorem z07b {b q d:Bool} (h:a.val E=some (.b d)) (hd:d=b) (ht:b=true→den sp N t E ks=ret true) (he:b=false→den sp N e E ks=ret q):den sp N (.ite a t e) E ks=ret (b || q):=by
 subst hd;refine z0z h (fun h=>?_) (fun h=>?_)
 ·rw [h,Bool.true_or];exact ht h
 ·rw [h,zY31];exact he h
end
section
variable {sp:Nat→zh} {N:Nat} {E:Env} {ks:List (List Dt→Option (List Dt))} {a b:Atom} {m n:Int}
theorem z098 (ha:a.val E=some (I m)) (hb:b.val E=some (I n)):denX sp E (.bin .eql a b)=some (.b (decide (m=n))):=by simp only [denX,ha,hb,zY0a,zY05];rfl
theorem z099 (ha:a.val E=some (I m)) (hb:b.val E=some (I n)):denX sp E (.bin .neq a b)=some (.b (decide (m≠n))):=by
 have e:denX sp E (.bin .neq a b)=some (.b (!decide (m=n))):=by simp only [denX,ha,hb,zY0a,zY05];rfl
 rw [e];simp
theorem z09a (ha:a.val E=some (I m)) (hb:b.val E=some (I n)):denX sp E (.bin .lss a b)=some (.b (decide (m<n))):=by simp only [denX,ha,hb,zY0a,zY05];rfl
theorem z09b (ha:a.val E=some (I m)) (hb:b.val E=some (I n)):denX sp E (.bin .leq a b)=some (.b (decide (m≤n))):=by simp only [denX,ha,hb,zY0a,zY05];rfl
theorem z09c (ha:a.val E=some (I m)) (hb:b.val E=some (I n)):denX sp E (.bin .gtr a b)=some (.b (decide (n<m))):=by simp only [denX,ha,hb,zY0a,zY05];rfl
theorem z09d (ha:a.val E=some (I m)) (hb:b.val E=some (I n)):denX sp E (.bin .geq a b)=some (.b (decide (n≤m))):=by simp only [denX,ha,hb,zY0a,zY05];rfl
theorem z09e {x y:List UInt8} (ha:a.val E=some (.s x)) (hb:b.val E=some (.s y)):denX sp E (.bin .eql a b)=some (.b (decide (x=y))):=by simp only [denX,ha,hb,zY0a,zY05];rfl
theorem z09f {x y:List UInt8} (ha:a.val E=some (.s x)) (hb:b.val E=some (.s y)):denX sp E (.bin .neq a b)=some (.b (decide (x≠y))):=by
 have e:denX sp E (.bin .neq a b)=some (.b (!decide (x=y))):=by simp only [denX,ha,hb,zY0a,zY05];rfl
 rw [e];simp
theorem z09g {x y:Bool} (ha:a.val E=some (.b x)) (hb:b.val E=some (.b y)):denX sp E (.beq false a b)=some (.b (decide (x=y))):=by simp only [denX,ha,hb];simp
theorem z09h {x y:Bool} (ha:a.val E=some (.b x)) (hb:b.val E=some (.b y)):denX sp E (.beq true a b)=some (.b (decide (x≠y))):=by simp only [denX,ha,hb];simp
theorem z09i {x:Bool} (ha:a.val E=some (.b x)):denX sp E (.not a)=some (.b (!x)):=by simp only [denX,ha]
theorem z09j {ats:List Atom} {i:Atom} {ds:List Dt} {d:Dt} (hv:vals E ats=some ds) (hi:i.val E=some (I m)) (h0:0≤m) (hd:ds[m.toNat]? = some d):denX sp E (.sel ats i)=some d:=by
 simp only [denX,hv,hi,asI,if_pos h0];exact hd
theorem z0af (ha:a.val E=some (I m)) (hb:b.val E=some (I n)):denX sp E (.mn a b)=some (I (if n<m then n else m)):=by simp only [denX,ha,hb,if_true]
theorem z07c {x:List UInt8} (ha:a.val E=some (.s x)):denX sp E (.slen a)=some (I x.length):=by simp only [denX,ha]
theorem z09k (ha:a.val E=some (I m)) (hw : -9223372036854775808 ≤ -m ∧ -m≤9223372036854775807):denX sp E (.neg a)=some (I (-m)):=by
 have e:denX sp E (.neg a)=some (I (IntKind.i64.wrap (0 - m))):=by simp only [denX,ha]
 rw [e,Int.zero_sub,wrap_i64 hw]
theorem z02j {p q:Point} {a1 a2 b1 b2:Atom} (h1:a1.val E=some (I p.tx)) (h2:b1.val E=some (I q.tx)) (h3:a2.val E=some (I p.at_)) (h4:b2.val E=some (I q.at_)):denX sp E (.eqs false [(a1,b1),(a2,b2)])=some (.b (decide (p=q))):=by
 obtain ⟨p1,p2⟩:=p;obtain ⟨q1,q2⟩:=q;simp only at h1 h2 h3 h4;simp only [denX,eqsD,h1,h2,h3,h4,eqD,zY0a,zY05,if_true,zY17,Point.mk.injEq]
 by_cases hx:p1=q1 <;> by_cases hy:p2=q2 <;> simp [hx,hy]
theorem z09l {p q:Point} {a1 a2 b1 b2:Atom} (h1:a1.val E=some (I p.tx)) (h2:b1.val E=some (I q.tx)) (h3:a2.val E=some (I p.at_)) (h4:b2.val E=some (I q.at_)):denX sp E (.eqs true [(a1,b1),(a2,b2)])=some (.b (decide (p≠q))):=by
 obtain ⟨p1,p2⟩:=p;obtain ⟨q1,q2⟩:=q;simp only at h1 h2 h3 h4;simp only [denX,eqsD,h1,h2,h3,h4,eqD,zY0a,zY05,if_true,zY17,ne_eq,Point.mk.injEq]
 by_cases hx:p1=q1 <;> by_cases hy:p2=q2 <;> simp [hx,hy]
theorem z9d {ci:Nat} {args:List Atom} {xs:List X} {ds rs:List Dt} (h:vals E args=some ds) (hs:sp ci ds=some rs) (hx:X.call ci args 0::xs=(List.range rs.length).map fun j=>.call ci args j):z1b sp E (.call ci args 0::xs)=some rs:=hx ▸ zim h hs
variable {α:Type} {f:α→List Dt} {l l':List α} {x:α} {sz:Nat}
theorem z09m (ha:a.val E=some (.l sz (l.map f))):denX sp E (.len a)=some (I l.length):=by simp only [denX,ha,zY10]
theorem z07d (ha:a.val E=some (.l sz [])):denX sp E (.len a)=some (I 0):=by simp only [denX,ha,zY04];rfl
theorem z02k (ha:a.val E=some (.l sz (l.map f))) (hb:b.val E=some (I m)) (h0:0≤m) (h1:m<l.length):z1q sp E [.inr sz a b]=true:=zm ha hb h0 (by rw [zY10];exact h1)
theorem zaj {j:Nat} {d:Dt} (ha:a.val E=some (.l sz (l.map f))) (hb:b.val E=some (I m)) (h0:0≤m) (hx:l[m.toNat]? = some x) (hj:(f x)[j]? = some d):denX sp E (.idx a b j)=some d:=zo ha hb h0 (by rw [zY0k,hx];rfl) hj
theorem z0ag {xs:List X} (ha:a.val E=some (.l sz (l.map f))) (hb:b.val E=some (I m)) (h0:0≤m) (hx:l[m.toNat]? = some x) (hxs:X.idx a b 0::xs=(List.range (f x).length).map fun j=>.idx a b j):z1b sp E (.idx a b 0::xs)=some (f x):=by
 rw [hxs];have key:∀ (n j:Nat),j+n=(f x).length→z1b sp E ((List.range' j n).map fun j=>.idx a b j)=some ((f x).drop j):=by
  intro n
  induction n with
  | zero=>intro j hj;simp [z1b,zY1y (show (f x).length≤j by omega)]
  | succ n ih =>
   intro j hj;rw [List.range'_succ,zY1t,zY1v (by omega:j<(f x).length)];exact z1x (zaj ha hb h0 hx (zY08 _)) (ih (j+1) (by omega))
 have:=key (f x).length 0 (by omega);rw [List.range_eq_range'];simpa using this
theorem zct (ha:a.val E=some (.l sz (l.map f))) (hb:b.val E=some (.l sz (l'.map f))) (h:l.length+l'.length≤1000000):denX sp E (.app sz a b)=some (.l sz ((l++l').map f)):=by
 rw [z06x ha hb (by simpa using h),zY27]
theorem z07e (hy:∀ x,(f x).length=sz) (ha:a.val E=some (.l sz (l.map f))) (hb:b.val E=some (.l sz [f x])) (h:l.length+1≤1000000):denX sp E (.app sz a b)=some (.l sz ((l++[x]).map f)):=zct (l':=[x]) ha hb h
theorem zov {lo hi:Option Atom} {m n:Int} (ha:a.val E=some (.l sz (l.map f))) (hl:bndI E 0 lo=some m) (hh:bndI E l.length hi=some n) (h0:0≤m) (h1:m≤n) (h2:n≤l.length):denX sp E (.sub sz a lo hi)=some (.l sz (((l.take n.toNat).drop m.toNat).map f)):=by
 simp only [denX,ha,hl,hh,zY10,zY0a,zY05];rw [if_pos ⟨trivial,h0,h1,h2⟩,List.map_drop,List.map_take]
theorem z07f {hi:Atom} {n:Int} {t:List α} (ha:a.val E=some (.l sz (l.map f))) (hh:hi.val E=some (I n)) (h1:0≤n) (h2:n≤l.length) (ht:l.take n.toNat=t):denX sp E (.sub sz a none (some hi))=some (.l sz (t.map f)):=by
 have hb:bndI E (l.length:Int) (some hi)=some n:=by show asI (hi.val E)=some n;rw [hh];rfl
 have:=zov (lo:=none) (hi:=some hi) (m:=0) (n:=n) (sp:=sp) ha rfl hb (by omega) h1 h2;rw [this,ht];rfl
theorem z09n {j:Nat} {vs:List Atom} {ds:List Dt} {y:α} (ha:a.val E=some (.l sz (l.map f))) (hb:b.val E=some (I m)) (hv:vals E vs=some ds) (h0:0≤m) (hs:j+ds.length≤sz) (hx:l[m.toNat]? = some x) (hy:z4t (f x) j ds=f y):denX sp E (.set a b j vs)=some (.l sz ((l.set m.toNat y).map f)):=by
 simp only [denX,ha,hb,hv,asI];rw [if_pos ⟨h0,hs⟩,zY0k,hx];simp only [zY19,hy,List.map_set]
theorem zzx {j:Nat} {vs:List Atom} {ds:List Dt} (ha:a.val E=some (.l sz (l.map f))) (hb:b.val E=some (I m)) (hv:vals E vs=some ds) (h0:0≤m) (hs:j+ds.length≤sz) (hx:l[m.toNat]? = some x) (hy:z4t (f x) j ds=f x):denX sp E (.set a b j vs)=some (.l sz (l.map f)):=by
 rw [z09n (y:=x) ha hb hv h0 hs hx hy];congr 3;obtain ⟨h1,h2⟩:=zY06.1 hx;rw [← h2,List.set_getElem_self]
theorem z0k {σ ρ:Type} [Enc ρ] {ats:List Atom} {body:T} (enc:σ→Int→List Dt) (go:σ→Nat→List α→ρ) (Inv:σ→Nat→Prop) (s0:σ) (l:List α) (h:vals E ats=some (enc s0 0)) (h0:Inv s0 0) (hN:l.length<N)
  (step:∀ (s:σ) (k:Nat) (x:α) (r:List α),l[k]? = some x→l.drop k=x::r→k<l.length→Inv s k→∀ again:List Dt→Option (List Dt),(∀ s',Inv s' (k+1)→again (enc s' ((k:Int)+1))=ret (go s' (k+1) r))→den sp N body (E++enc s k) (ks++[again])=ret (go s k (x::r)))
  (last:∀ (s:σ),Inv s l.length→∀ again:List Dt→Option (List Dt),den sp N body (E++enc s l.length) (ks++[again])=ret (go s l.length [])):den sp N (.loop ats body) E ks=ret (go s0 0 l):=by
 refine zn h ?_;have key:∀ (n k:Nat) (s:σ),k+n=l.length→Inv s k→∀ M,n<M→zf (fun again ds=>den sp N body (E++ds) (ks++[again])) M (enc s k)=ret (go s k (l.drop k)):=by
  intro n
  induction n with
  | zero =>
   intro k s hk hi M hM;obtain ⟨M,rfl⟩:∃ j,M=j+1:=⟨M - 1,by omega⟩
   obtain rfl:k=l.length:=by omega
   rw [zf,zY3d];exact last s hi _
  | succ n ih =>
   intro k s hk hi M hM;obtain ⟨M,rfl⟩:∃ j,M=j+1:=⟨M - 1,by omega⟩
   have hkl:k<l.length:=by omega
   have hd:l.drop k=l[k]::l.drop (k+1):=zY1v hkl;rw [zf,hd];refine step s k l[k] (l.drop (k+1)) (zY08 hkl) hd hkl hi _ fun s' hi'=>?_
   have:=ih (k+1) s' (by omega) hi' M (by omega)
   rwa [show ((k+1:Nat):Int)=(k:Int)+1 by omega] at this
 exact key l.length 0 s0 (by omega) h0 N hN
end
section
variable {sp:Nat→zh} {N:Nat} {E E':Env} {ks:List (List Dt→Option (List Dt))} {res:Option (List Dt)} {k t e:T} {d:Dt} {ds rs:List Dt} {a:Atom}
theorem dq1 {x:X} (hk:den sp N k E' ks=res) (h:denX sp E x=some d:=by first|exact z098 rfl rfl|exact z099 rfl rfl|exact z09a rfl rfl|exact z09c rfl rfl|exact z09d rfl rfl|exact z09b rfl rfl|exact z09m rfl|exact z47 rfl rfl (by omega)|exact z073 rfl rfl (by omega)|exact zaj rfl rfl (by omega) (by first|assumption|exact hx) rfl|exact z09i rfl|exact z07d rfl|exact z09e rfl rfl|exact z09f rfl rfl|exact z09g rfl rfl|exact z09h rfl rfl|exact z02j rfl rfl rfl rfl|exact z09l rfl rfl rfl rfl|exact z09k rfl (by omega)|exact z07f rfl rfl (by omega) (by omega) (by assumption)|exact zp (r:=[[I _]]) rfl rfl (by simp)|exact z09j rfl rfl (by omega) rfl|exact z0af rfl rfl|exact z07c rfl|exact z07e (fun _=>rfl) rfl rfl (by first|omega|(simp only [zY01,zY03,zY04];omega))) (hE:E++[d]=E':=by (simp only [zY18,zY0y];try exact rfl)):den sp N (.lets [x] [] k) E ks=res:=z4 h hk hE
theorem dqc {ck:List X} (hk:den sp N k E ks=res) (h:z1q sp E ck=true:=by exact z02k rfl rfl (by omega) (by omega)):den sp N (.lets [] ck k) E ks=res:=z07 h hk
theorem dqm {xs:List X} (hk:den sp N k E' ks=res) (h:z1b sp E xs=some ds:=by first|exact z0ag rfl rfl (by omega) (by first|assumption|exact hx) (by rfl)|exact z1x (zaj rfl rfl (by omega) (by first|assumption|exact hx) rfl) (z1x (zaj rfl rfl (by omega) (by first|assumption|exact hx) rfl) zcl)) (hE:E++ds=E':=by (simp only [zb,eTx,eIn,z1p,eOp,z2c,z13,z85,z41,z6e,z6d,z4x,z5n,zY18,zY0y];try exact rfl)):den sp N (.lets xs [] k) E ks=res:=z3j h hk hE
theorem dqk {ci j:Nat} {args:List Atom} (hv:vals E args=some ds) (hs:sp ci ds=some rs) (hk:den sp N k E' ks=res) (hj:rs[j]? = some d:=by exact rfl) (hE:E++[d]=E':=by (simp only [zY18,zY0y];try exact rfl)):den sp N (.lets [.call ci args j] [] k) E ks=res:=z4 (z1z hv hs hj) hk hE
theorem dqK {ci:Nat} {args:List Atom} {xs:List X} (hv:vals E args=some ds) (hs:sp ci ds=some rs) (hk:den sp N k E' ks=res) (hx:X.call ci args 0::xs=(List.range rs.length).map (fun j=>.call ci args j):=by rfl) (hE:E++rs=E':=by (simp only [zb,eTx,eIn,z1p,eOp,z2c,z13,z85,z41,z6e,z6d,z4x,z5n,zY18,zY0y];try exact rfl)):den sp N (.lets (.call ci args 0::xs) [] k) E ks=res:=z3j (z9d hv hs hx) hk hE
theorem dqT {c:Prop} {i:Decidable c} (ht:den sp N t E ks=res) (h:a.val E=some (.b (@decide c i)):=by exact rfl) (hc:c:=by first|assumption|omega):den sp N (.ite a t e) E ks=res:=z0ad h hc ht
theorem dqF {c:Prop} {i:Decidable c} (he:den sp N e E ks=res) (h:a.val E=some (.b (@decide c i)):=by exact rfl) (hc:¬ c:=by first|assumption|omega):den sp N (.ite a t e) E ks=res:=z0ae h hc he
theorem z0e {c:Prop} {i:Decidable c} (ht:den sp N t E ks=res) (h:a.val E=some (.b (!@decide c i)):=by exact rfl) (hc:¬ c:=by first|assumption|omega):den sp N (.ite a t e) E ks=res:=z0z h (fun _=>ht) (fun h=>by rw [decide_eq_false hc] at h;cases h)
theorem z0f {c:Prop} {i:Decidable c} (he:den sp N e E ks=res) (h:a.val E=some (.b (!@decide c i)):=by exact rfl) (hc:c:=by first|assumption|omega):den sp N (.ite a t e) E ks=res:=z0z h (fun h=>by rw [decide_eq_true hc] at h;cases h) (fun _=>he)
theorem tZn {c:Prop} {i:Decidable c} (ht:¬ c→den sp N t E ks=res) (he:c→den sp N e E ks=res) (h:a.val E=some (.b (!@decide c i)):=by exact rfl):den sp N (.ite a t e) E ks=res:=z0z h (fun h=>ht (by simpa using h)) (fun h=>he (by simpa using h))
section
variable {ρ:Type} [Enc ρ] {r1 r2:ρ}
theorem tR {c:Prop} [Decidable c] {d:Bool} (ht:c→den sp N t E ks=ret r1) (he:¬ c→den sp N e E ks=ret r2) (h:a.val E=some (.b d):=by exact rfl) (hd:d=decide c:=by with_reducible rfl):den sp N (.ite a t e) E ks=ret (if c then r1 else r2):=z077 h hd ht he
theorem tC {c:Prop} [Decidable c] {d:Bool} (ht:¬ c→den sp N t E ks=ret r2) (he:c→den sp N e E ks=ret r1) (h:a.val E=some (.b (!d)):=by exact rfl) (hd:d=decide c:=by with_reducible rfl):den sp N (.ite a t e) E ks=ret (if c then r1 else r2):=z078 h hd ht he
theorem tB {b d:Bool} (ht:b=true→den sp N t E ks=ret r1) (he:b=false→den sp N e E ks=ret r2) (h:a.val E=some (.b d):=by exact rfl) (hd:d=b:=by with_reducible rfl):den sp N (.ite a t e) E ks=ret (if b=true then r1 else r2):=z079 h hd ht he
theorem tN {b d:Bool} (ht:b=false→den sp N t E ks=ret r2) (he:b=true→den sp N e E ks=ret r1) (h:a.val E=some (.b (!d)):=by exact rfl) (hd:d=b:=by with_reducible rfl):den sp N (.ite a t e) E ks=ret (if b=true then r1 else r2):=z055 h hd ht he
theorem tF {b d:Bool} (ht:b=true→den sp N t E ks=ret r2) (he:b=false→den sp N e E ks=ret r1) (h:a.val E=some (.b d):=by exact rfl) (hd:d=b:=by with_reducible rfl):den sp N (.ite a t e) E ks=ret (if b=false then r1 else r2):=z07a h hd ht he
theorem tG {b d:Bool} (ht:b=false→den sp N t E ks=ret r1) (he:b=true→den sp N e E ks=ret r2) (h:a.val E=some (.b (!d)):=by exact rfl) (hd:d=b:=by with_reducible rfl):den sp N (.ite a t e) E ks=ret (if b=false then r1 else r2):=z056 h hd ht he
section
variable {p q r:Prop} [Decidable p] [Decidable r] {d:Bool}
theorem tA [Decidable q] [Decidable (p∧q)] (ht:p→den sp N t E ks=ret (if q then r1 else r2)) (he:¬ p→den sp N e E ks=ret r2) (h:a.val E=some (.b d):=by exact rfl) (hd:d=decide p:=by with_reducible rfl):den sp N (.ite a t e) E ks=ret (if p∧q then r1 else r2):=z02i h hd ht he
theorem tO [Decidable q] [Decidable (p∨q)] (ht:p→den sp N t E ks=ret r1) (he:¬ p→den sp N e E ks=ret (if q then r1 else r2)) (h:a.val E=some (.b d):=by exact rfl) (hd:d=decide p:=by with_reducible rfl):den sp N (.ite a t e) E ks=ret (if p∨q then r1 else r2):=z057 h hd ht he
theorem tP [Decidable ((p∧q)∨r)] [Decidable (q∨r)] (ht:p→den sp N t E ks=ret (if q∨r then r1 else r2)) (he:¬ p→den sp N e E ks=ret (if r then r1 else r2)) (h:a.val E=some (.b d):=by exact rfl) (hd:d=decide p:=by with_reducible rfl):den sp N (.ite a t e) E ks=ret (if (p∧q)∨r then r1 else r2):=zw2 h hd ht he
theorem tQ [Decidable ((p∨q)∧r)] [Decidable (q∧r)] (ht:p→den sp N t E ks=ret (if r then r1 else r2)) (he:¬ p→den sp N e E ks=ret (if q∧r then r1 else r2)) (h:a.val E=some (.b d):=by exact rfl) (hd:d=decide p:=by with_reducible rfl):den sp N (.ite a t e) E ks=ret (if (p∨q)∧r then r1 else r2):=zw3 h hd ht he
end
end
theorem tU {b q d:Bool} (ht:b=true→den sp N t E ks=ret q) (he:b=false→den sp N e E ks=ret false) (h:a.val E=some (.b d):=by exact rfl) (hd:d=b:=by with_reducible rfl):den sp N (.ite a t e) E ks=ret (b && q):=z058 h hd ht he
theorem tV {b q d:Bool} (ht:b=true→den sp N t E ks=ret true) (he:b=false→den sp N e E ks=ret q) (h:a.val E=some (.b d):=by exact rfl) (hd:d=b:=by with_reducible rfl):den sp N (.ite a t e) E ks=ret (b || q):=z07b h hd ht he
theorem tZ {c:Prop} {i:Decidable c} (ht:c→den sp N t E ks=res) (he:¬ c→den sp N e E ks=res) (h:a.val E=some (.b (@decide c i)):=by exact rfl):den sp N (.ite a t e) E ks=res:=z02 h ht he
end
end
section
open Go.RowKit
def Er (n:Int):Prop:=0≤n∧n≤12
theorem Er.i64 {n:Int} (h:Er n) : -9223372036854775808≤n∧n≤9223372036854775807:=⟨by have:=h.1;omega,by have:=h.2;omega⟩
theorem z32 {c:Prop} [Decidable c] {a b:Int} (ha:Er a) (hb:Er b):Er (if c then a else b):=by split <;> assumption
theorem z2n (n:Int) (h:decide (0≤n∧n≤12)=true):Er n:=by unfold Er;exact of_decide_eq_true h
theorem z0ah (o:Op):Er (z3v o):=z32 (z2n _ rfl) (z32 (z2n _ rfl) (z2n _ rfl))
theorem zow:∀ l:List Op,Er (z3w l)
 | []=>z2n _ rfl
 | o::l=>z32 (z0ah o) (zow l)
theorem zg4 (l:List Op):Er (zd l):=z32 (z2n _ rfl) (zow l)
theorem z059 (x:In):Er (z2r x):=by unfold z2r;exact z32 (z2n _ rfl) (zg4 _)
theorem zox:∀ l s:List In,Er (z0x l s)
 | [],_=>z2n _ rfl
 | x::l,s=>z32 (z059 x) (z32 (z2n _ rfl) (zox l _))
theorem zyp:∀ l:List Out,Er (z0u l)
 | []=>z2n _ rfl
 | x::l=>z32 (z32 (z2n _ rfl) (zg4 _)) (zyp l)
theorem zoy:∀ (l:List Int) (s:Int),Er (z7n l s).2
 | [],_=>z2n _ rfl
 | x::l,s=>by
  unfold z7n
  repeat' split
  all_goals first|exact z2n _ rfl|exact zoy _ _
theorem z06d (t:Tx):Er (zr t):=z32 (z32 (z2n _ rfl) (z32 (z2n _ rfl) (z32 (z2n _ rfl) (z2n _ rfl)))) (z32 (zox _ _) (z32 (zyp _) (zoy _ _)))
end
section
open Go.RowKit
set_option maxRecDepth 100000
set_option maxHeartbeats 4000000
def z17:List (Nat × Sig):=[(49,⟨[.one],[(false,[.scal])],true⟩),(50,⟨[.one,.one],[(false,[.scal])],true⟩),(64,⟨[.one],[(false,[.scal])],true⟩),(26,⟨[.agg 2,.agg 2],[(false,[.scal])],true⟩),(46,⟨[.agg 6,.agg 2],[(false,[.scal])],true⟩),(45,⟨[.one,.agg 2,.clos 46 []],[(false,[.scal]),(false,[.scal])],true⟩),(19,⟨[.one,.agg 2],[(false,[.scal]),(false,[.scal])],true⟩),(25,⟨[.one],[(false,[.scal])],true⟩),(8,⟨[.one],[(false,[.scal])],true⟩),(30,⟨[.one],[(false,[.fresh 57 6])],false⟩),(20,⟨[.one],[(false,[.fresh 54 2])],false⟩),(17,⟨[.one],[(false,[.fresh 57 6])],false⟩),(24,⟨[.one],[(false,[.scal]),(false,[.scal])],true⟩),(18,⟨[.agg 3,.one],[(false,[.scal])],true⟩),(40,⟨[.mine 57 6,.one,.one],[(false,[.fresh 57 6])],false⟩),(21,⟨[.mine 57 6,.one,.one],[(false,[.fresh 57 6])],false⟩),(44,⟨[.one,.one,.one],[(false,[.scal]),(false,[.scal])],true⟩),(15,⟨[.agg 3],[(false,[.scal])],true⟩),(5,⟨[.one,.agg 3,.one,.one],[(false,[.pure]),(true,[.pure]),(false,[.scal])],false⟩),(7,⟨[],[(false,[.scal])],true⟩),zZr,(59,⟨[.one,.one],[(false,[.scal])],true⟩),(39,⟨[.agg 2,.agg 2],[(false,[.scal])],true⟩),(36,⟨[.one,.one,.clos 37 []],[(false,[.scal])],true⟩),(38,⟨[.agg 2,.agg 2],[(false,[.scal])],true⟩),(22,⟨[.one],[(false,[.scal])],true⟩),(23,⟨[.agg 2,.agg 2],[(false,[.scal])],true⟩),(6,⟨[.one],[(false,[.scal])],true⟩),(11,⟨[.one,.one],[(false,[.scal])],true⟩),(37,⟨[.agg 6,.agg 6],[(false,[.scal])],true⟩),(12,⟨[.one,.agg 3,.one,.agg 1],[(false,[.pure]),(false,[.scal])],false⟩),(62,⟨[.one,.one,.one],[(false,[.fresh 3 1]),(false,[.scal])],false⟩),(97,⟨[.one,.one],[(false,[.scal])],true⟩),(98,⟨[.one,.one],[(false,[.scal])],true⟩),(99,⟨[.one,.one],[(false,[.scal])],true⟩),(101,⟨[.one,.one],[(false,[.scal])],true⟩),(102,⟨[.one,.one],[(false,[.scal])],true⟩),(103,⟨[.one],[(false,[.scal])],true⟩),(100,⟨[.one],[(false,[.scal])],true⟩),(104,⟨[.one],[(false,[.scal])],true⟩),(66,⟨[.one],[(false,[.scal])],true⟩),(55,⟨[.one,.one,.one],[(false,[.fresh 3 1]),(false,[.scal])],false⟩),(32,⟨[.one,.one,.one],[(false,[.scal])],true⟩),(31,⟨[.one,.agg 2],[(false,[.scal])],true⟩),(35,⟨[.one],[(false,[.fresh 57 6])],false⟩),(34,⟨[.agg 3,.one],[(false,[.scal])],true⟩),(33,⟨[.one],[(false,[.fresh 57 6])],false⟩),(9,⟨[.agg 3],[(false,[.scal])],true⟩),(10,⟨[.one,.agg 3,.one,.one],[(false,[.pure]),(true,[.pure]),(false,[.scal])],false⟩),(13,⟨[.one,.agg 3,.one,.agg 1],[(false,[.pure]),(false,[.scal])],false⟩),zZr,zZr,zZr]
def z0ai:List (Nat × Sig):=[(49,⟨[.one],[(false,[.scal])],true⟩),(50,⟨[.one,.one],[(false,[.scal])],true⟩),(64,⟨[.one],[(false,[.scal])],true⟩),(26,⟨[.agg 2,.agg 2],[(false,[.scal])],true⟩),(46,⟨[.agg 6,.agg 2],[(false,[.scal])],true⟩),(45,⟨[.one,.agg 2,.clos 46 []],[(false,[.scal]),(false,[.scal])],true⟩),(19,⟨[.one,.agg 2],[(false,[.scal]),(false,[.scal])],true⟩),(25,⟨[.one],[(false,[.scal])],true⟩),(8,⟨[.one],[(false,[.scal])],true⟩),(30,⟨[.one],[(false,[.fresh 57 6])],false⟩),(20,⟨[.one],[(false,[.fresh 54 2])],false⟩),(17,⟨[.one],[(false,[.fresh 57 6])],false⟩),(24,⟨[.one],[(false,[.scal]),(false,[.scal])],true⟩),(18,⟨[.agg 3,.one],[(false,[.scal])],true⟩),(40,⟨[.mine 57 6,.one,.one],[(false,[.fresh 57 6])],false⟩),(21,⟨[.mine 57 6,.one,.one],[(false,[.fresh 57 6])],false⟩),(44,⟨[.one,.one,.one],[(false,[.scal]),(false,[.scal])],true⟩),(15,⟨[.agg 3],[(false,[.scal])],true⟩),(5,⟨[.one,.agg 3,.one,.one],[(false,[.pure]),(true,[.pure]),(false,[.scal])],false⟩),(7,⟨[],[(false,[.scal])],true⟩),zZr,(59,⟨[.one,.one],[(false,[.scal])],true⟩),(39,⟨[.agg 2,.agg 2],[(false,[.scal])],true⟩),(36,⟨[.one,.one,.clos 37 []],[(false,[.scal])],true⟩),(38,⟨[.agg 2,.agg 2],[(false,[.scal])],true⟩),(22,⟨[.one],[(false,[.scal])],true⟩),(23,⟨[.agg 2,.agg 2],[(false,[.scal])],true⟩),(6,⟨[.one],[(false,[.scal])],true⟩),(11,⟨[.one,.one],[(false,[.scal])],true⟩),(37,⟨[.agg 6,.agg 6],[(false,[.scal])],true⟩),(12,⟨[.one,.agg 3,.one,.agg 1],[(false,[.pure]),(false,[.scal])],false⟩),(62,⟨[.one,.one,.one],[(false,[.fresh 3 1]),(false,[.scal])],false⟩),(97,⟨[.one,.one],[(false,[.scal])],true⟩),(98,⟨[.one,.one],[(false,[.scal])],true⟩),(99,⟨[.one,.one],[(false,[.scal])],true⟩),(101,⟨[.one,.one],[(false,[.scal])],true⟩),(102,⟨[.one,.one],[(false,[.scal])],true⟩),(103,⟨[.one],[(false,[.scal])],true⟩),(100,⟨[.one],[(false,[.scal])],true⟩),(104,⟨[.one],[(false,[.scal])],true⟩),(66,⟨[.one],[(false,[.scal])],true⟩),(55,⟨[.one,.one,.one],[(false,[.fresh 3 1]),(false,[.scal])],false⟩),(32,⟨[.one,.one,.one],[(false,[.scal])],true⟩),(31,⟨[.one,.agg 2],[(false,[.scal])],false⟩),(35,⟨[.one],[(false,[.fresh 57 6])],false⟩),(34,⟨[.agg 3,.one],[(false,[.scal])],true⟩),(33,⟨[.one],[(false,[.fresh 57 6])],false⟩),(9,⟨[.agg 3],[(false,[.scal])],true⟩),(10,⟨[.one,.agg 3,.one,.one],[(false,[.pure]),(true,[.pure]),(false,[.scal])],false⟩),(13,⟨[.one,.agg 3,.one,.agg 1],[(false,[.pure]),(false,[.scal])],false⟩),zZr,zZr,zZr]
noncomputable def z25:zh:=spD (fun _:List Op=>True) fun l=>zd l
noncomputable def z52:zh:=spD (fun _:Tx=>True) fun t=>zr t
noncomputable def z8w:zh:=spD (fun l:List Op=>l.length≤8796093022208) fun l=>l
noncomputable def z2v:zh:=spD (fun l:List Coin=>l.length≤1000000) fun l=>l
noncomputable def z7c:zh:=spD (fun _:List Op × List Op=>True) fun x=>decide (x.1=x.2)
theorem za4:Meets Tryz.prog z25 25 ⟨[.one],[(false,[.scal])],true⟩ :=
 z7k (e:=fun x:{ x:List Op // True }=>Enc.e x.1) (d:=fun x=>I (zd x.1)) rfl (z4c (fn:=Tryz.f25) (by kernel_rfl) (by kernel_rfl) (by kernel_rfl)) (fun _=>rfl) fun x W F us hF h=>by
  obtain ⟨v,us,rfl,h1,h⟩:=z3a h;obtain rfl:=z4z h;obtain ⟨A,n,c,rfl,k1⟩:=z4y z7v h1;exact (z87 x.1 A n c W F k1 hF).mono fun e w' h=>⟨_,h.1,h.2,.i _ _ (wrap_i64 (zg4 x.1).i64)⟩
theorem ziw:Meets Tryz.prog z52 15 ⟨[.agg 3],[(false,[.scal])],true⟩ :=
 z7k (e:=fun x:{ x:Tx // True }=>Enc.e x.1) (d:=fun x=>I (zr x.1)) rfl (z4c (fn:=Tryz.f15) (by kernel_rfl) (by kernel_rfl) (by kernel_rfl)) (fun _=>rfl) fun x W F us hF h=>by
  obtain ⟨cs,rfl,hr⟩:=zof h;exact (zw5 x.1 cs W F (she_tx.of hr) hF).mono fun e w' h=>⟨_,h.1,h.2,.i _ _ (wrap_i64 (z06d x.1).i64)⟩
theorem z02m:Meets Tryz.prog z8w 20 ⟨[.one],[(false,[.fresh 54 2])],false⟩ :=
 za2 (e:=fun x:{ l:List Op // l.length≤8796093022208 }=>Enc.e x.1) (xs:=fun x=>x.1) z7v rfl rfl (by decide) (z4c (fn:=Tryz.f20) (by kernel_rfl) (by kernel_rfl) (by kernel_rfl)) fun x W F us hF h=>by
  obtain ⟨v,us,rfl,h1,h⟩:=z3a h;obtain rfl:=z4z h;obtain ⟨A,n,c,rfl,k1⟩:=z4y z7v h1;have:=x.2;have:=k1.1;exact (z04x x.1 A n c W F k1 hF (by omega)).mono fun r W' h=>⟨n,h⟩
theorem zeu:Meets Tryz.prog z2v 30 ⟨[.one],[(false,[.fresh 57 6])],false⟩ :=
 za2 (e:=fun x:{ l:List Coin // l.length≤1000000 }=>Enc.e x.1) (xs:=fun x=>x.1) she_coin rfl rfl (by decide) (z4c (fn:=Tryz.f30) (by kernel_rfl) (by kernel_rfl) (by kernel_rfl)) fun x W F us hF h=>by
  obtain ⟨v,us,rfl,h1,h⟩:=z3a h;obtain rfl:=z4z h;obtain ⟨A,n,c,rfl,k1⟩:=z4y she_coin h1;have:=x.2;have:=k1.1;exact (zfu x.1 A n c W F k1 hF (by omega)).mono fun r W' h=>⟨n,h⟩
noncomputable def z8l:zh:=spD (fun _:Point × Point=>True) fun x=>z14 x.1 x.2
theorem zjd (p q:Point):z8l [I p.tx,I p.at_,I q.tx,I q.at_]=some [I (z14 p q)]:=z09 (f:=fun x:Point × Point=>z14 x.1 x.2) (p,q) trivial
theorem z6i (l:List Op):z25 [.l 2 (l.map eOp)]=some [I (zd l)]:=z09 (f:=fun l:List Op=>zd l) l trivial
theorem zbh (l:List Op) (h:l.length≤8796093022208):z8w [.l 2 (l.map eOp)]=some [.l 2 (l.map eOp)]:=z09 (f:=fun l:List Op=>l) l h
theorem z4n (l:List Coin) (h:l.length≤1000000):z2v [.l 6 (l.map zb)]=some [.l 6 (l.map zb)]:=z09 (f:=fun l:List Coin=>l) l h
theorem zg5 {P:Program} {s s':zh} {f:Nat} {g:Sig} (h:Meets P s f g) (he:∀ ds rs,s' ds=some rs→s ds=some rs):Meets P s' f g:=by
 refine ⟨fun hm W F ds args rs hF ha hs=>h.1 hm W F ds args rs hF ha (he _ _ hs),fun e sz ps hp W F base v xs vs ds args rs h1 h2 h3 h4 h5 h6 h7 hs=>h.2 e sz ps hp W F base v xs vs ds args rs h1 h2 h3 h4 h5 h6 h7 (he _ _ hs)⟩
theorem z02n:Meets Tryz.prog z8l 26 ⟨[.agg 2,.agg 2],[(false,[.scal])],true⟩:=zg5 z02b fun ds rs h=>by
 obtain ⟨⟨p,q⟩,-,rfl,rfl⟩:=z01 h;exact zfy p q
noncomputable def z53:zh:=spD (fun x:List Coin × Point=>z0a x.1∧x.1.length≤1000000) fun x=>((zi x.1 x.2:Int),z1g x.1 x.2)
theorem z42 (l:List Coin) (p:Point) (h:z0a l) (hl:l.length≤1000000):z53 [.l 6 (l.map zb),I p.tx,I p.at_]=some [I (zi l p),.b (z1g l p)]:=z09 (p:=fun x:List Coin × Point=>z0a x.1∧x.1.length≤1000000) (f:=fun x:List Coin × Point=>((zi x.1 x.2:Int),z1g x.1 x.2)) (l,p) ⟨h,hl⟩
theorem zix:Meets Tryz.prog z53 19 ⟨[.one,.agg 2],[(false,[.scal]),(false,[.scal])],true⟩:=zg5 z0a7 fun ds rs h=>by
 obtain ⟨⟨l,p⟩,⟨h1,h2⟩,rfl,rfl⟩:=z01 h;exact zis l p h1 h2
def z2z (c:Coin):Int:=if c.p.tx<1∨120<c.p.tx∨c.p.at_<0∨6≤c.p.at_∨c.o.coin<1∨1000000000<c.o.coin∨c.height<1∨1000<c.height then 3 else zd c.o.lock
def zu:List Coin→Int
 | []=>0
 | c::l=>c.o.coin+zu l
theorem z33 (l r:List Coin):zu (l++r)=zu l+zu r:=by
 induction l with
 | nil=>simp [zu]
 | cons c l ih=>simp only [zY18,zu,ih];omega
def z48:Point→Int→List Coin→Int
 | _,_,[]=>0
 | pv,s,c::r=>if c.p.tx<1∨120<c.p.tx∨c.p.at_<0∨6≤c.p.at_∨c.o.coin<1∨1000000000<c.o.coin∨c.height<1∨1000<c.height then 3
  else if zd c.o.lock≠0 then zd c.o.lock else if 0≤z14 pv c.p then 6 else if 1000000000<s+c.o.coin then 12 else z48 c.p (s+c.o.coin) r
def ze (l:List Coin):Int:=if 720<(l.length:Int) then 2 else z48 ⟨0,0⟩ 0 l
noncomputable def z26:zh:=spD (fun _:List Coin=>True) fun l=>ze l
theorem z29 (l:List Coin):z26 [.l 6 (l.map zb)]=some [I (ze l)]:=z09 (f:=fun l:List Coin=>ze l) l trivial
attribute [local irreducible] z0p spD z14
def zw6:T :=
 .lets [.bin .gtr 30 (zI 1000000000)] [] (.ite 31 (.ret [zI 12]) (.lets [.bin .add 6 (zI 1)] [] (.again 0 [30,5,32])))
def zw7:T :=
 .lets [.call 3 [26,27,8,9] 0] [] (.lets [.bin .geq 28 (zI 0)] [] (.ite 29 (.ret [zI 6]) (.lets [.bin .add 4 10] []
 zw6)))
def zw8:T :=
 .lets [.bin .gtr 25 (zI 1000000000)] [] (.ite 26 (.ret [zI 12]) (.lets [.bin .add 6 (zI 1)] [] (.again 0 [25,5,27])))
def zw9:T :=
 .ite 24 (.lets [.bin .sub 6 (zI 1)] [] (.lets [] [.inr 6 0 25] (.lets [.idx 0 25 0,.idx 0 25 1] [] zw7))) (.lets [.bin
 .add 4 10] [] zw8)
def zwa:T :=
 .lets [.call 7 [11] 0] [] (.lets [.bin .neq 22 (zI 0)] [] (.ite 23 (.ret [22]) (.lets [.bin .gtr 6 (zI 0)] [] zw9)))
def zwb:T :=
 .lets [.bin .lss 12 (zI 1)] [] (.ite 20 (.ret [zI 3]) (.lets [.bin .gtr 12 (zI 1000)] [] (.ite 21 (.ret [zI 3])
 zwa)))
def zwc:T :=
 .lets [.bin .lss 10 (zI 1)] [] (.ite 18 (.ret [zI 3]) (.lets [.bin .gtr 10 (zI 1000000000)] [] (.ite 19 (.ret [zI 3])
 zwb)))
def zwd:T :=
 .lets [.bin .lss 9 (zI 0)] [] (.ite 16 (.ret [zI 3]) (.lets [.bin .geq 9 (zI 6)] [] (.ite 17 (.ret [zI 3]) zwc)))
def zwe:T :=
 .lets [.bin .lss 8 (zI 1)] [] (.ite 14 (.ret [zI 3]) (.lets [.bin .gtr 8 (zI 120)] [] (.ite 15 (.ret [zI 3])
 zwd)))
def zwf:T :=
 .lets [] [.inr 6 0 6] (.lets [.idx 0 6 0,.idx 0 6 1,.idx 0 6 2,.idx 0 6 3,.idx 0 6 4,.idx 0 6 5] []
 zwe)
def zoz:T :=
 .lets [.len 0] [] (.loop [zI 0,zI 0,zI 0] (.lets [.bin .lss 6 3] [] (.ite 7 zwf (.ret [zI 0]))))
def zcu:T :=
 .lets [.len 0] [] (.lets [.bin .gtr 1 (zI 720)] [] (.ite 2 (.ret [zI 2]) zoz))
theorem z9r:Meets Tryz.prog z26 8 ⟨[.one],[(false,[.scal])],true⟩:=by
 refine z06 (sp:=(z0w [(3,z8l),(7,z25)])) (sigs:=z17) (cut:=[]) (hints:=[⟨5,[.t 3,.t 2,.t 12]⟩]) (fn:=Tryz.f8) (t:=zcu) (by kernel_rfl) (by kernel_rfl) (by kernel_rfl) ?_ ?_
 ·exact (z0q (L:=[(3,z8l),(7,z25)]) ⟨zj rfl z02n,zj rfl za4,trivial⟩)
 ·rintro ds rs - h
  obtain ⟨l,-,rfl,rfl⟩:=z01 h;clear h;refine ⟨⟨l.length+1,?_⟩,z0i rfl⟩
  show den _ _ zcu [.l 6 (l.map zb)] []=ret (ze l)
  unfold zcu ze
  repeat' (first|refine dq1 ?_|exact z5 rfl rfl|refine tR (fun h=>?_) fun h=>?_|fail)
  (refine z0k (fun (st:Point × Int) k=>[I st.2,I 0,I k]) (fun st k r=>z48 st.1 st.2 r) (fun st k=>((k=0∧st.1=⟨0,0⟩)∨(0<k∧∃ d,l[((k:Int) - 1).toNat]? = some d∧d.p=st.1))∧0≤st.2∧st.2≤1000000000) (⟨0,0⟩,0) l ?_ ?_ ?_ ?_ ?_;rfl;exact ⟨.inl ⟨rfl,rfl⟩,by decide,by decide⟩;exact zY23 _)
  ·rintro ⟨pv,s⟩ k c r hx hd hk ⟨hp,hs0,hs1⟩ again hag
   simp only at hp hs0 hs1 ⊢;rw [z48]
   repeat' (first|refine dq1 ?_|refine dqc ?_|refine dqm ?_|refine dqk rfl (z6i _) ?_|exact z5 rfl rfl|((first|refine tR ?_ ?_|refine tO ?_ ?_) <;> intro h)|refine dqT ?_|fail)
   refine z02 rfl (fun h=>?_) (fun h=>?_)
   ·obtain ⟨hk0,-⟩|⟨hk0,d,hd',rfl⟩:=hp
    ·omega
    repeat' (first|refine dq1 ?_|refine dqc ?_|refine dqm ?_|refine dqk rfl (zjd _ _) ?_|exact z5 rfl rfl|refine tR (fun h=>?_) fun h=>?_|fail)
    exact z6 rfl rfl (hag (c.p,s+c.o.coin) ⟨.inr ⟨by omega,c,by simpa using hx,rfl⟩,by simp only;omega,by simp only;omega⟩)
   ·obtain ⟨rfl,rfl⟩|⟨hk0,-⟩:=hp
    ·have ho:¬ 0≤z14 ⟨0,0⟩ c.p:=by
      have:=zdv ⟨0,0⟩ c.p;unfold ltP at this;simp only at this;omega
     rw [if_neg ho]
     repeat' (first|refine dq1 ?_|exact z5 rfl rfl|refine tR (fun h=>?_) fun h=>?_|fail)
     exact z6 rfl rfl (hag (c.p,s+c.o.coin) ⟨.inr ⟨by omega,c,by simpa using hx,rfl⟩,by simp only;omega,by simp only;omega⟩)
    ·omega
  ·intro st hI again
   simp only [z48]
   repeat' (first|refine dq1 ?_|exact z5 rfl rfl|refine dqF ?_|fail)
structure CoinsOK (l:List Coin):Prop where
 len:l.length≤720
 good:∀ c ∈ l,z2z c=0
 sorted:z0a l
 total:zu l≤1000000000
theorem z2g {c:Coin} (h:z2z c=0):1≤c.p.tx∧c.p.tx≤120∧0≤c.p.at_∧c.p.at_≤5∧1≤c.o.coin∧c.o.coin≤1000000000∧1≤c.height∧c.height≤1000∧zd c.o.lock=0:=by
 unfold z2z at h
 split at h
 ·cases h
 ·omega
theorem zg6:∀ (l:List Coin) (p:Point) (s:Int),0≤s→s≤1000000000→(z48 p s l=0↔(∀ c ∈ l,z2z c=0)∧z0a l∧(∀ c ∈ l,ltP p c.p)∧s+zu l≤1000000000)
 | [],p,s,h0,h1=>by simp [z48,z0a,zu];omega
 | c::l,p,s,h0,h1=>by
  have ho:=zdv p c.p;rw [z48]
  by_cases hb:z2z c=0
  ·have hb':=hb
   unfold z2z at hb'
   split at hb'
   ·cases hb'
   rename_i hr;rw [if_neg hr,if_neg (by simp [hb'])];obtain ⟨_,_,_,_,hc1,hc2,_,_,_⟩:=z2g hb
   by_cases hlt:ltP p c.p
   ·rw [if_neg (by have:=ho.2 hlt;omega)]
    by_cases hf:1000000000<s+c.o.coin
    ·rw [if_pos hf]
     constructor
     ·intro h;cases h
     ·rintro ⟨h2,h3,h4,h5⟩
      have:∀ l:List Coin,(∀ c ∈ l,z2z c=0)→0≤zu l:=by
       intro l
       induction l with
       | nil=>intro _;simp [zu]
       | cons d l ih =>
        intro h;have:=z2g (h d (zY0l ..));have:=ih fun x hx=>h x (zY0j _ hx)
        simp only [zu];omega
      have:=this l fun x hx=>h2 x (zY0j _ hx)
      simp only [zu] at h5;omega
    ·rw [if_neg hf,zg6 l c.p (s+c.o.coin) (by omega) (by omega)]
     simp only [z0a,zu,zY0m,forall_eq_or_imp,zY1p];constructor
     ·rintro ⟨h2,h3,h4,h5⟩
      exact ⟨⟨hb,h2⟩,⟨h4,h3⟩,⟨hlt,fun x hx=>z4l hlt (h4 x hx)⟩,by omega⟩
     ·rintro ⟨⟨_,h2⟩,⟨h4,h3⟩,_,h5⟩
      exact ⟨h2,h3,h4,by omega⟩
   ·rw [if_pos (by rcases Int.lt_or_le (z14 p c.p) 0 with h|h;exact absurd (ho.1 h) hlt;exact h)]
    constructor
    ·intro h;cases h
    ·rintro ⟨_,_,h4,_⟩
     exact absurd (h4 c (zY0l ..)) hlt
  ·constructor
   ·intro h
    exfalso
    apply hb;unfold z2z
    split
    ·rename_i hr
     rw [if_pos hr] at h;cases h
    ·rename_i hr
     rw [if_neg hr] at h
     by_cases hc:zd c.o.lock=0
     ·exact hc
     ·rw [if_pos hc] at h;exact absurd h hc
   ·rintro ⟨h2,_⟩
    exact absurd (h2 c (zY0l ..)) hb
theorem zp0 {l:List Coin} (h:∀ c ∈ l,z2z c=0):0≤zu l:=by
 induction l with
 | nil=>simp [zu]
 | cons d l ih =>
  have:=z2g (h d (zY0l ..));have:=ih fun x hx=>h x (zY0j _ hx)
  simp only [zu];omega
theorem z1l (l:List Coin):ze l=0↔CoinsOK l:=by
 unfold ze
 by_cases h:(720:Int)<l.length
 ·rw [if_pos h]
  constructor
  ·intro h;cases h
  ·intro ok;have:=ok.len;omega
 ·rw [if_neg h,zg6 l ⟨0,0⟩ 0 (by decide) (by decide)]
  constructor
  ·rintro ⟨h1,h2,_,h4⟩;exact ⟨by omega,h1,h2,by omega⟩
  ·intro ok
   refine ⟨ok.good,ok.sorted,fun c hc=>?_,by have:=ok.total;omega⟩;have:=z2g (ok.good c hc);unfold ltP;simp only;omega
theorem z6j {l:List Op} (h:zd l=0):l.length≤16:=by
 unfold zd at h
 split at h
 ·cases h
 ·omega
end
section
open Go.RowKit
set_option maxRecDepth 100000
set_option maxHeartbeats 4000000
attribute [local irreducible] z0p spD z14
def z001:T :=
 .lets [.call 10 [9] 0] [] (.lets [] [.inr 6 4 3] (.lets [.set 4 3 3 [12]] [] (.lets [.bin .add 3 (zI 1)] [] (.again 0 [14,13]))))
def z002:T :=
 .lets [] [.inr 6 4 3] (.lets [.idx 4 3 0,.idx 4 3 1,.idx 4 3 2,.idx 4 3 3,.idx 4 3 4,.idx 4 3 5] []
 z001)
def zev:T :=
 .lets [.call 9 [0] 0] [] (.lets [.len 1] [] (.loop [zI 0,1] (.lets [.bin .lss 3 2] [] (.ite 5 z002 (.ret [4])))))
def zwg:T :=
 .lets [.idx 0 5 0,.idx 0 5 1,.idx 0 5 2,.idx 0 5 3,.idx 0 5 4,.idx 0 5 5] [] (.lets [.bin .add 4 9] []
 (.lets [.bin .add 5 (zI 1)] [] (.again 0 [13,14])))
def zwh:T :=
 .loop [zI 0,zI 0] (.lets [.bin .lss 5 3] [] (.ite 6 (.lets [] [.inr 6 0 5] zwg) (.ret [4,zI 0])))
def zcv:T :=
 .lets [.call 8 [0] 0] [] (.lets [.bin .neq 1 (zI 0)] [] (.ite 2 (.ret [zI 0,1]) (.lets [.len 0] [] zwh)))
def z02o:T :=
 .lets [.idx 3 6 0,.idx 3 6 1,.idx 3 6 2,.idx 3 6 3,.idx 3 6 4,.idx 3 6 5] [] (.lets [.bin .add 5 10] []
 (.lets [.bin .add 6 (zI 1)] [] (.again 0 [14,15])))
def z02p:T :=
 .lets [.idx 2 10 0,.idx 2 10 1] [] (.lets [.bin .sub 9 12] [] (.lets [.bin .add 10 (zI 1)] [] (.again 1 [14,15])))
def z02q:T :=
 .lets [.len 2] [] (.loop [5,zI 0] (.lets [.bin .lss 10 8] [] (.ite 11 (.lets [] [.inr 2 2 10] z02p) (.ret [9]))))
def zhq:T :=
 .lets [.len 3] [] (.loop [zI 0,zI 0] (.lets [.bin .lss 6 4] [] (.ite 7 (.lets [] [.inr 6 3 6] z02o) z02q)))
def z6k (l:List Coin):Prop:=l.length≤1000000∧∀ c ∈ l,c.o.lock.length≤8796093022208
theorem CoinsOK.short {l:List Coin} (h:CoinsOK l):z6k l:=⟨by have:=h.len;omega,fun c hc=>by have:=z6j (z2g (h.good c hc)).2.2.2.2.2.2.2.2;omega⟩
noncomputable def z64:zh:=spD z6k fun l=>l
theorem z9f (l:List Coin) (h:z6k l):z64 [.l 6 (l.map zb)]=some [.l 6 (l.map zb)]:=z09 (p:=z6k) (f:=fun l:List Coin=>l) l h
theorem zp1:Meets Tryz.prog z64 17 ⟨[.one],[(false,[.fresh 57 6])],false⟩:=by
 refine z06 (sp:=(z0w [(9,z2v),(10,z8w)])) (sigs:=z17) (cut:=[]) (hints:=[⟨3,[.t 9,.o 6]⟩]) (fn:=Tryz.f17) (t:=zev) (by kernel_rfl) (by kernel_rfl) (by kernel_rfl) ?_ ?_
 ·exact (z0q (L:=[(9,z2v),(10,z8w)]) ⟨zj rfl zeu,zj rfl z02m,trivial⟩)
 ·rintro ds rs - h
  obtain ⟨l,⟨hl,hk⟩,rfl,rfl⟩:=z01 h;clear h;refine ⟨⟨l.length+1,?_⟩,zvz (by simp [zw,CF.isScal])⟩
  show den _ _ zev [.l 6 (l.map zb)] []=ret l
  unfold zev
  repeat' (first|refine dq1 ?_|refine dqk rfl (z4n _ hl) ?_|fail)
  (refine z0k (fun (_:Unit) k=>[I k,.l 6 (l.map zb)]) (fun _ _ _=>l) (fun _ _=>True) () l ?_ ?_ ?_ ?_ ?_;rfl;exact trivial;exact zY23 _)
  ·rintro _ k c r hx hd hkl - again hag
   repeat' (first|refine dq1 ?_|refine dqc ?_|refine dqm ?_|refine dqk rfl (zbh _ (hk c (zY0o hx))) ?_|refine dqT ?_|fail)
   refine z4 (zzx rfl rfl rfl (by omega) (by simp) (by exact hx) rfl) ?_
   repeat' (first|refine dq1 ?_|exact z6 rfl rfl (hag () trivial)|fail)
  ·intro _ _ again
   repeat' (first|refine dq1 ?_|exact z5 rfl rfl|refine dqF ?_|fail)
def z54 (l:List Coin):Int × Int:=if ze l≠0 then (0,ze l) else (l.foldl (fun s c=>s+c.o.coin) 0,0)
noncomputable def z8m:zh:=spD (fun _:List Coin=>True) z54
theorem zje (l:List Coin):z8m [.l 6 (l.map zb)]=some [I (z54 l).1,I (z54 l).2]:=z09 (f:=z54) l trivial
theorem z02r:Meets Tryz.prog z8m 24 ⟨[.one],[(false,[.scal]),(false,[.scal])],true⟩:=by
 refine z06 (sp:=(z0w [(8,z26)])) (sigs:=z17) (cut:=[]) (hints:=[⟨6,[.t 5,.t 15]⟩]) (fn:=Tryz.f24) (t:=zcv) (by kernel_rfl) (by kernel_rfl) (by kernel_rfl) ?_ ?_
 ·exact (z0q (L:=[(8,z26)]) ⟨zj rfl z9r,trivial⟩)
 ·rintro ds rs - h
  obtain ⟨l,-,rfl,rfl⟩:=z01 h;clear h;refine ⟨⟨l.length+1,?_⟩,zb7 rfl rfl⟩
  show den _ _ zcv [.l 6 (l.map zb)] []=ret (z54 l)
  unfold zcv z54
  repeat' (first|refine dq1 ?_|refine dqk rfl (z29 _) ?_|exact z5 rfl rfl|refine tR (fun h=>?_) fun h=>?_|fail)
  have ok:=(z1l l).1 (zY0w.1 h);have:=ok.len
  (refine z0k (fun (s:Int) k=>[I s,I k]) (fun (s:Int) _ (r:List Coin)=>(r.foldl (fun s c=>s+c.o.coin) s,(0:Int))) (fun s k=>0≤s∧s+zu (l.drop k)=zu l) (0:Int) l ?_ ?_ ?_ ?_ ?_;rfl;exact ⟨by omega,by simp⟩;exact zY23 _)
  ·rintro s k c r hx hd hkl ⟨h0,h1⟩ again hag
   have hb:=z2g (ok.good c (zY0o hx));have ht:=ok.total;have hr:=zp0 (l:=r) fun x hx=>ok.good x (zY1x (i:=k) (by rw [hd];exact zY0j _ hx))
   have hd1:l.drop (k+1)=r:=by rw [← zY3e,hd];rfl
   rw [hd,zu] at h1
   repeat' (first|refine dq1 ?_|refine dqc ?_|refine dqm ?_|refine dqT ?_|fail)
   exact z6 rfl rfl (hag (s+c.o.coin) ⟨by omega,by rw [hd1];omega⟩)
  ·rintro s - again
   repeat' (first|refine dq1 ?_|exact z5 rfl rfl|refine dqF ?_|fail)
def z2s (t:Tx) (l:List Coin):Int:=t.outs.foldl (fun s o=>s - o.coin) (l.foldl (fun s c=>s+c.o.coin) 0)
def z7z (x:Tx × List Coin):Prop:=x.2.length≤1000000∧(∀ c ∈ x.2,0≤c.o.coin∧c.o.coin≤1000000000)∧x.1.outs.length≤1000000∧∀ o ∈ x.1.outs,0≤o.coin∧o.coin≤1000000000
noncomputable def zbi:zh:=spD z7z fun x=>z2s x.1 x.2
theorem zwi (t:Tx) (l:List Coin) (h:z7z (t,l)):zbi [I t.height,.l 3 (t.ins.map eIn),.l 2 (t.outs.map z1p),.l 6 (l.map zb)]=some [I (z2s t l)]:=z09 (p:=z7z) (f:=fun x:Tx × List Coin=>z2s x.1 x.2) (t,l) h
theorem z07h:Meets Tryz.prog zbi 18 ⟨[.agg 3,.one],[(false,[.scal])],true⟩:=by
 refine z06 (sp:=(z0w [])) (sigs:=z17) (cut:=[]) (hints:=[⟨3,[.t 5,.t 12]⟩,⟨8,[.t 5,.t 25]⟩]) (fn:=Tryz.f18) (t:=zhq) (by kernel_rfl) (by kernel_rfl) (by kernel_rfl) ?_ ?_
 ·exact (z0q (L:=[]) trivial)
 ·rintro ds rs - h
  obtain ⟨⟨t,l⟩,⟨h1,h2,h3,h4⟩,rfl,rfl⟩:=z01 h;clear h;simp only at h1 h2 h3 h4;refine ⟨⟨l.length+t.outs.length+1,?_⟩,z0i rfl⟩
  show den _ _ zhq [I t.height,.l 3 (t.ins.map eIn),.l 2 (t.outs.map z1p),.l 6 (l.map zb)] []=ret (z2s t l)
  unfold zhq z2s
  repeat' (first|refine dq1 ?_|fail)
  (refine z0k (fun (s:Int) k=>[I s,I k]) (fun (s:Int) _ (r:List Coin)=>t.outs.foldl (fun s o=>s - o.coin) (r.foldl (fun s c=>s+c.o.coin) s)) (fun s k=>0≤s∧s≤k * 1000000000) (0:Int) l ?_ ?_ ?_ ?_ ?_;rfl;exact ⟨by omega,by omega⟩;omega)
  ·rintro s k c r hx hd hkl ⟨h0,h5⟩ again hag
   have hc:=h2 c (zY0o hx)
   repeat' (first|refine dq1 ?_|refine dqc ?_|refine dqm ?_|refine dqT ?_|fail)
   exact z6 rfl rfl (hag (s+c.o.coin) ⟨by omega,by omega⟩)
  ·rintro s ⟨h0,h5⟩ again
   repeat' (first|refine dq1 ?_|refine dqF ?_|fail)
   (refine z0k (fun (s:Int) k=>[I s,I k]) (fun (s:Int) _ (r:List Out)=>r.foldl (fun s o=>s - o.coin) s) (fun s k => - (k * 1000000000)≤s∧s≤l.length * 1000000000) s t.outs ?_ ?_ ?_ ?_ ?_;rfl;exact ⟨by omega,by omega⟩;omega)
   ·rintro s k c r hx hd hkl ⟨h0,h5⟩ again' hag
    have hc:=h4 c (zY0o hx)
    repeat' (first|refine dq1 ?_|refine dqc ?_|refine dqm ?_|refine dqT ?_|fail)
    exact z6 rfl rfl (hag (s - c.coin) ⟨by omega,by omega⟩)
   ·rintro s ⟨h0,h5⟩ again'
    repeat' (first|refine dq1 ?_|exact z5 rfl rfl|refine dqF ?_|fail)
def z55:Coin:=⟨⟨0,0⟩,⟨0,[]⟩,0,false⟩
def z02s (l:List Coin) (p:Point):Coin × Int:=if ze l≠0 then (z55,ze l) else if z1g l p=true then ((l[zi l p]?).getD z55,0) else (z55,7)
end
section
open Go.RowKit
set_option maxRecDepth 100000
set_option maxHeartbeats 4000000
theorem zeb (l m:List Op):z7c [.l 2 (l.map eOp),.l 2 (m.map eOp)]=some [.b (decide (l=m))]:=z09 (f:=fun x:List Op × List Op=>decide (x.1=x.2)) (l,m) trivial
theorem zyq:Meets Tryz.prog z7c 59 ⟨[.one,.one],[(false,[.scal])],true⟩ :=
 z7k (e:=fun x:{ x:List Op × List Op // True }=>Enc.e x.1) (d:=fun x=>.b (decide (x.1.1=x.1.2))) rfl (z4c (fn:=Tryz.f59) (by kernel_rfl) (by kernel_rfl) (by kernel_rfl)) (fun _=>rfl) fun x W F us hF h=>by
  obtain ⟨v,us,rfl,h1,h⟩:=z3a h;obtain ⟨v2,us,rfl,h2,h⟩:=z3a h;obtain rfl:=z4z h;obtain ⟨A,n,c,rfl,k1⟩:=z4y z7v h1;obtain ⟨A2,n2,c2,rfl,k2⟩:=z4y z7v h2;refine (z050 x.1.1 x.1.2 A A2 n c n2 c2 W F F k1 k2).mono ?_;rintro r W' ⟨rfl,m,rfl⟩;exact ⟨_,rfl,ze3 (Below.refl _ _) m,.b _⟩
attribute [local irreducible] z0p spD z14
theorem ok_l {α:Type} {sz:Nat} {l:List α} {f:α→List Dt} (h:Dt.ok (.l sz (l.map f))):l.length≤9223372036854775807:=by
 cases h with
 | l _ _ h1 _ _=>simpa using h1
theorem z02t (x y:Out):(decide (x.coin=y.coin) && decide (x.lock=y.lock))=decide (x=y):=by
 cases x;cases y
 simp only [Out.mk.injEq,Bool.decide_and]
noncomputable def z6l:zh:=spD (fun _:Out × Out=>True) fun x=>decide (x.1=x.2)
noncomputable def z3m:zh:=spD (fun _:Out × Out=>True) fun x=>decide (x.1=x.2)
theorem zg7 (x y:Out):z6l [I x.coin,.l 2 (x.lock.map eOp),I y.coin,.l 2 (y.lock.map eOp)]=some [.b (decide (x=y))]:=z09 (f:=fun x:Out × Out=>decide (x.1=x.2)) (x,y) trivial
theorem zak (x y:Out):z3m [I x.coin,.l 2 (x.lock.map eOp),I y.coin,.l 2 (y.lock.map eOp)]=some [.b (decide (x=y))]:=z09 (f:=fun x:Out × Out=>decide (x.1=x.2)) (x,y) trivial
def za5:T :=
 .lets [.bin .eql 0 2] [] (.ite 4 (.lets [.call 21 [1,3] 0] [] (.ret [5])) (.ret [.c (.b false)]))
def zbj:T :=
 .lets [.bin .eql 0 2] [] (.ite 4 (.lets [.call 21 [1,3] 0] [] (.ret [5])) (.ret [.c (.b false)]))
def zg8:T :=
 .ite 13 (.lets [.bin .eql 4 10] [] (.ite 14 (.lets [.beq false 5 11] [] (.ret [15])) (.ret [.c (.b false)]))) (.ret [.c (.b false)])
def z89:T :=
 .lets [.eqs false [(.v 0,.v 6),(.v 1,.v 7)]] [] (.ite 12 (.lets [.call 24 [2,3,8,9] 0] [] zg8) (.ret [.c (.b false)]))
def zwj:T :=
 .lets [.call 29 [9,10,11,12,13,14,15,16,17,18,19,20] 0] [] (.lets [.not 21] [] (.ite 22 (.ret [.c (.b false)]) (.lets [.bin
 .add 7 (zI 1)] [] (.again 0 [6,23]))))
def zwk:T :=
 .lets [] [.inr 6 1 7] (.lets [.idx 1 7 0,.idx 1 7 1,.idx 1 7 2,.idx 1 7 3,.idx 1 7 4,.idx 1 7 5] []
 zwj)
def zwl:T :=
 .lets [] [.inr 6 0 7] (.lets [.idx 0 7 0,.idx 0 7 1,.idx 0 7 2,.idx 0 7 3,.idx 0 7 4,.idx 0 7 5] []
 zwk)
def zwm:T :=
 .ite 4 (.ret [.c (.b false)]) (.lets [.len 0] [] (.loop [.c (.b false),zI 0] (.lets [.bin .lss 7 5] [] (.ite 8 zwl (.ret [.c (.b
 true)])))))
def zcw:T :=
 .lets [.len 0] [] (.lets [.len 1] [] (.lets [.bin .neq 2 3] [] zwm))
def z9g:T :=
 .lets [.call 23 [0,1] 0] [] (.ret [2])
def zcx:T :=
 .lets [.bin .lss 0 2] [] (.ite 4 (.ret [.c (.b true)]) (.lets [.bin .eql 0 2] [] (.ite 5 (.lets [.bin .lss 1 3] [] (.ret [6])) (.ret [.c
 (.b false)]))))
theorem zwn:Meets Tryz.prog z6l 39 ⟨[.agg 2,.agg 2],[(false,[.scal])],true⟩:=by
 refine z06 (sp:=(z0w [(21,z7c)])) (sigs:=z17) (cut:=[]) (hints:=[]) (fn:=Tryz.f39) (t:=za5) (by kernel_rfl) (by kernel_rfl) (by kernel_rfl) ?_ ?_
 ·exact (z0q (L:=[(21,z7c)]) ⟨zj rfl zyq,trivial⟩)
 ·rintro ds rs - h
  obtain ⟨⟨x,y⟩,-,rfl,rfl⟩:=z01 h;clear h;refine ⟨⟨1,?_⟩,z0i rfl⟩
  show den _ _ za5 [I x.coin,.l 2 (x.lock.map eOp),I y.coin,.l 2 (y.lock.map eOp)] []=ret (decide (x=y))
  rw [← z02t];unfold za5
  repeat' (first|refine dq1 ?_|refine dqk rfl (zeb _ _) ?_|exact z5 rfl rfl|refine tU (fun h=>?_) fun h=>?_|fail)
theorem zg9:Meets Tryz.prog z3m 38 ⟨[.agg 2,.agg 2],[(false,[.scal])],true⟩:=by
 refine z06 (sp:=(z0w [(21,z7c)])) (sigs:=z17) (cut:=[]) (hints:=[]) (fn:=Tryz.f38) (t:=zbj) (by kernel_rfl) (by kernel_rfl) (by kernel_rfl) ?_ ?_
 ·exact (z0q (L:=[(21,z7c)]) ⟨zj rfl zyq,trivial⟩)
 ·rintro ds rs - h
  obtain ⟨⟨x,y⟩,-,rfl,rfl⟩:=z01 h;clear h;refine ⟨⟨1,?_⟩,z0i rfl⟩
  show den _ _ zbj [I x.coin,.l 2 (x.lock.map eOp),I y.coin,.l 2 (y.lock.map eOp)] []=ret (decide (x=y))
  rw [← z02t];unfold zbj
  repeat' (first|refine dq1 ?_|refine dqk rfl (zeb _ _) ?_|exact z5 rfl rfl|refine tU (fun h=>?_) fun h=>?_|fail)
theorem z07i (x y:Coin):(decide (x.p=y.p) && (decide (x.o=y.o) && (decide (x.height=y.height) && decide (x.reward=y.reward))))=decide (x=y):=by
 cases x;cases y
 simp only [Coin.mk.injEq,Bool.decide_and]
noncomputable def z56:zh:=spD (fun _:Coin × Coin=>True) fun x=>decide (x.1=x.2)
theorem ze0 (x y:Coin):z56 (zb x++zb y)=some [.b (decide (x=y))]:=z09 (f:=fun x:Coin × Coin=>decide (x.1=x.2)) (x,y) trivial
theorem zjf:Meets Tryz.prog z56 37 ⟨[.agg 6,.agg 6],[(false,[.scal])],true⟩:=by
 refine z06 (sp:=(z0w [(24,z3m)])) (sigs:=z17) (cut:=[]) (hints:=[]) (fn:=Tryz.f37) (t:=z89) (by kernel_rfl) (by kernel_rfl) (by kernel_rfl) ?_ ?_
 ·exact (z0q (L:=[(24,z3m)]) ⟨zj rfl zg9,trivial⟩)
 ·rintro ds rs - h
  obtain ⟨⟨x,y⟩,-,rfl,rfl⟩:=z01 h;clear h;refine ⟨⟨1,?_⟩,z0i rfl⟩
  show den _ _ z89 [I x.p.tx,I x.p.at_,I x.o.coin,.l 2 (x.o.lock.map eOp),I x.height,.b x.reward,I y.p.tx,I y.p.at_,I y.o.coin,.l 2 (y.o.lock.map eOp),I y.height,.b y.reward] []=ret (decide (x=y))
  rw [← z07i];unfold z89
  repeat' (first|refine dq1 ?_|refine dqc ?_|refine dqm ?_|refine dqK rfl (zak x.o y.o) ?_|exact z5 rfl rfl|((first|refine tR ?_ ?_|refine tB ?_ ?_|refine tC ?_ ?_|refine tN ?_ ?_|refine tF ?_ ?_|refine tG ?_ ?_|refine tP ?_ ?_|refine tQ ?_ ?_|refine tA ?_ ?_|refine tO ?_ ?_|refine tU ?_ ?_|refine tV ?_ ?_) <;> intro h)|refine dqT ?_|refine dqF ?_|refine zt rfl ?_|refine zq rfl ?_|refine z0e ?_|refine z0f ?_)
noncomputable def z8n:zh:=spD (fun _:List Coin × List Coin=>True) fun x=>decide (x.1=x.2)
noncomputable def z2a:zh:=spD (fun _:List Coin × List Coin=>True) fun x=>decide (x.1=x.2)
theorem zjg (l m:List Coin):z8n [.l 6 (l.map zb),.l 6 (m.map zb)]=some [.b (decide (l=m))]:=z09 (f:=fun x:List Coin × List Coin=>decide (x.1=x.2)) (l,m) trivial
theorem z5u (l m:List Coin):z2a [.l 6 (l.map zb),.l 6 (m.map zb)]=some [.b (decide (l=m))]:=z09 (f:=fun x:List Coin × List Coin=>decide (x.1=x.2)) (l,m) trivial
theorem z02u {α:Type} [DecidableEq α] (l m:List α):decide (l=m)=if (l.length:Int)≠m.length then false else decide (l=m):=by
 by_cases h:(l.length:Int)≠m.length
 ·rw [if_pos h,decide_eq_false]
  rintro rfl;exact h rfl
 ·rw [if_neg h]
theorem z02v:Meets Tryz.prog z8n 36 ⟨[.one,.one,.clos 37 []],[(false,[.scal])],true⟩:=by
 refine z06 (sp:=(z0w [(29,z56)])) (sigs:=z17) (cut:=[]) (hints:=[⟨4,[.t 6,.t 17]⟩]) (fn:=Tryz.f36) (t:=zcw) (by kernel_rfl) (by kernel_rfl) (by kernel_rfl) ?_ ?_
 ·exact (z0q (L:=[(29,z56)]) ⟨zj rfl zjf,trivial⟩)
 ·rintro ds rs hok h
  obtain ⟨⟨l,m⟩,-,rfl,rfl⟩:=z01 h;clear h;have hll:=ok_l (hok (.l 6 (l.map zb)) (zY0l ..));refine ⟨⟨l.length+1,?_⟩,z0i rfl⟩
  show den _ _ zcw [.l 6 (l.map zb),.l 6 (m.map zb)] []=ret (decide (l=m))
  rw [z02u];unfold zcw
  repeat' (first|refine dq1 ?_|refine dqc ?_|refine dqm ?_|exact z5 rfl rfl|((first|refine tR ?_ ?_|refine tB ?_ ?_|refine tC ?_ ?_|refine tN ?_ ?_|refine tF ?_ ?_|refine tG ?_ ?_|refine tP ?_ ?_|refine tQ ?_ ?_|refine tA ?_ ?_|refine tO ?_ ?_|refine tU ?_ ?_|refine tV ?_ ?_) <;> intro h)|refine dqT ?_|refine dqF ?_|refine zt rfl ?_|refine zq rfl ?_|refine z0e ?_|refine z0f ?_)
  have hlm:l.length=m.length:=by omega
  (refine z0k (fun (_:Unit) k=>[.b false,I k]) (fun (_:Unit) k (r:List Coin)=>decide (r=m.drop k)) (fun _ _=>True) () l ?_ ?_ ?_ ?_ ?_;rfl;exact trivial;first|exact zY23 _|omega)
  ·rintro _ k x r hx hd hk - again hag
   have hy:m[k]? = some (m[k]'(by omega)):=zY08 (by omega);have hdy:m.drop k=m[k]'(by omega)::m.drop (k+1):=zY1v (by omega);rw [hdy];generalize m[k]'(by omega)=y at *;have e:decide (x::r=y::m.drop (k+1))=if decide (x=y)=true then decide (r=m.drop (k+1)) else false:=by
    by_cases h:x=y
    ·simp [h]
    ·simp [h]
   rw [e];have hkm:k<m.length:=by omega
   repeat' (first|refine dq1 ?_|refine dqc ?_|refine dqm ?_|refine dqK rfl (ze0 x y) ?_|exact z5 rfl rfl|exact z6 rfl rfl (hag () trivial)|exact z6 rfl rfl (hag _ trivial)|exact z6 rfl rfl (hag _ (by omega))|exact z6 rfl rfl (hag _ (by assumption))|((first|refine tR ?_ ?_|refine tB ?_ ?_|refine tC ?_ ?_|refine tN ?_ ?_|refine tF ?_ ?_|refine tG ?_ ?_|refine tP ?_ ?_|refine tQ ?_ ?_|refine tA ?_ ?_|refine tO ?_ ?_|refine tU ?_ ?_|refine tV ?_ ?_) <;> intro h)|refine dqT ?_|refine dqF ?_|refine zt rfl ?_|refine zq rfl ?_|refine z0e ?_|refine z0f ?_)
  ·rintro _ - again
   rw [hlm,zY3d]
   repeat' (first|refine dq1 ?_|refine dqc ?_|refine dqm ?_|exact z5 rfl rfl|((first|refine tR ?_ ?_|refine tB ?_ ?_|refine tC ?_ ?_|refine tN ?_ ?_|refine tF ?_ ?_|refine tG ?_ ?_|refine tP ?_ ?_|refine tQ ?_ ?_|refine tA ?_ ?_|refine tO ?_ ?_|refine tU ?_ ?_|refine tV ?_ ?_) <;> intro h)|refine dqT ?_|refine dqF ?_|refine zt rfl ?_|refine zq rfl ?_|refine z0e ?_|refine z0f ?_)
theorem zcy:Meets Tryz.prog z2a 11 ⟨[.one,.one],[(false,[.scal])],true⟩:=by
 refine z06 (sp:=(z0w [(23,z8n)])) (sigs:=z17) (cut:=[]) (hints:=[]) (fn:=Tryz.f11) (t:=z9g) (by kernel_rfl) (by kernel_rfl) (by kernel_rfl) ?_ ?_
 ·exact (z0q (L:=[(23,z8n)]) ⟨zj rfl z02v,trivial⟩)
 ·rintro ds rs - h
  obtain ⟨⟨l,m⟩,-,rfl,rfl⟩:=z01 h;clear h;refine ⟨⟨1,?_⟩,z0i rfl⟩
  show den _ _ z9g [.l 6 (l.map zb),.l 6 (m.map zb)] []=ret (decide (l=m))
  unfold z9g
  repeat' (first|refine dq1 ?_|refine dqc ?_|refine dqm ?_|refine dqK rfl (zjg l m) ?_|exact z5 rfl rfl|((first|refine tR ?_ ?_|refine tB ?_ ?_|refine tC ?_ ?_|refine tN ?_ ?_|refine tF ?_ ?_|refine tG ?_ ?_|refine tP ?_ ?_|refine tQ ?_ ?_|refine tA ?_ ?_|refine tO ?_ ?_|refine tU ?_ ?_|refine tV ?_ ?_) <;> intro h)|refine dqT ?_|refine dqF ?_|refine zt rfl ?_|refine zq rfl ?_|refine z0e ?_|refine z0f ?_)
end
section
open Go.RowKit
set_option maxRecDepth 100000
set_option maxHeartbeats 4000000
noncomputable def z6m:zh:=spD (fun _:List Op=>True) fun l=>zd l
theorem zga (l:List Op):z6m [.l 2 (l.map eOp)]=some [I (zd l)]:=z09 (f:=fun l:List Op=>zd l) l trivial
theorem zwo:Meets Tryz.prog z6m 22 ⟨[.one],[(false,[.scal])],true⟩ :=
 z7k (e:=fun x:{ x:List Op // True }=>Enc.e x.1) (d:=fun x=>I (zd x.1)) rfl (z4c (fn:=Tryz.f22) (by kernel_rfl) (by kernel_rfl) (by kernel_rfl)) (fun _=>rfl) fun x W F us hF h=>by
  obtain ⟨v,us,rfl,h1,h⟩:=z3a h;obtain rfl:=z4z h;obtain ⟨A,n,c,rfl,k1⟩:=z4y z7v h1;exact (zbk x.1 A n c W F k1 hF).mono fun e w' h=>⟨_,h.1,h.2,.i _ _ (wrap_i64 (zg4 x.1).i64)⟩
noncomputable def z57:zh:=spD (fun _:Point × Point=>True) fun x=>decide (ltP x.1 x.2)
theorem zc2 (p q:Point):z57 [I p.tx,I p.at_,I q.tx,I q.at_]=some [.b (decide (ltP p q))]:=z09 (f:=fun x:Point × Point=>decide (ltP x.1 x.2)) (p,q) trivial
attribute [local irreducible] z0p spD z14
def zgb:T :=
 .lets [.bin .gtr 30 (zI 1000000000)] [] (.ite 31 (.ret [zI 12]) (.lets [.bin .add 6 (zI 1)] [] (.again 0 [30,5,32])))
def zgc:T :=
 .lets [.call 26 [26,27,8,9] 0] [] (.lets [.not 28] [] (.ite 29 (.ret [zI 6]) (.lets [.bin .add 4 10] [] zgb)))
def zgd:T :=
 .lets [.bin .gtr 25 (zI 1000000000)] [] (.ite 26 (.ret [zI 12]) (.lets [.bin .add 6 (zI 1)] [] (.again 0 [25,5,27])))
def zge:T :=
 .ite 24 (.lets [.bin .sub 6 (zI 1)] [] (.lets [] [.inr 6 0 25] (.lets [.idx 0 25 0,.idx 0 25 1] [] zgc))) (.lets [.bin
 .add 4 10] [] zgd)
def zgf:T :=
 .lets [.call 25 [11] 0] [] (.lets [.bin .neq 22 (zI 0)] [] (.ite 23 (.ret [22]) (.lets [.bin .gtr 6 (zI 0)] [] zge)))
def zgg:T :=
 .lets [.bin .lss 12 (zI 1)] [] (.ite 20 (.ret [zI 3]) (.lets [.bin .gtr 12 (zI 1000)] [] (.ite 21 (.ret [zI 3])
 zgf)))
def zgh:T :=
 .lets [.bin .lss 10 (zI 1)] [] (.ite 18 (.ret [zI 3]) (.lets [.bin .gtr 10 (zI 1000000000)] [] (.ite 19 (.ret [zI 3])
 zgg)))
def zgi:T :=
 .lets [.bin .lss 9 (zI 0)] [] (.ite 16 (.ret [zI 3]) (.lets [.bin .gtr 9 (zI 5)] [] (.ite 17 (.ret [zI 3])
 zgh)))
def zgj:T :=
 .lets [.bin .lss 8 (zI 1)] [] (.ite 14 (.ret [zI 3]) (.lets [.bin .gtr 8 (zI 120)] [] (.ite 15 (.ret [zI 3])
 zgi)))
def zgk:T :=
 .lets [] [.inr 6 0 6] (.lets [.idx 0 6 0,.idx 0 6 1,.idx 0 6 2,.idx 0 6 3,.idx 0 6 4,.idx 0 6 5] []
 zgj)
def zew:T :=
 .lets [.len 0] [] (.loop [zI 0,zI 0,zI 0] (.lets [.bin .lss 6 3] [] (.ite 7 zgk (.ret [zI 0]))))
def z8a:T :=
 .lets [.len 0] [] (.lets [.bin .gtr 1 (zI 720)] [] (.ite 2 (.ret [zI 2]) zew))
theorem z07j (p q:Point):(decide (p.tx<q.tx) || (decide (p.tx=q.tx) && decide (p.at_<q.at_)))=decide (ltP p q):=by
 unfold ltP
 by_cases h1:p.tx<q.tx <;> by_cases h2:p.tx=q.tx <;> by_cases h3:p.at_<q.at_ <;> simp [h1,h2,h3]
theorem ziy:Meets Tryz.prog z57 23 ⟨[.agg 2,.agg 2],[(false,[.scal])],true⟩:=by
 refine z06 (sp:=(z0w [])) (sigs:=z17) (cut:=[]) (hints:=[]) (fn:=Tryz.f23) (t:=zcx) (by kernel_rfl) (by kernel_rfl) (by kernel_rfl) ?_ ?_
 ·exact (z0q (L:=[]) trivial)
 ·rintro ds rs - h
  obtain ⟨⟨p,q⟩,-,rfl,rfl⟩:=z01 h;clear h;refine ⟨⟨1,?_⟩,z0i rfl⟩
  show den _ _ zcx [I p.tx,I p.at_,I q.tx,I q.at_] []=ret (decide (ltP p q))
  rw [← z07j];unfold zcx
  repeat' (first|refine dq1 ?_|refine dqc ?_|refine dqm ?_|exact z5 rfl rfl|((first|refine tR ?_ ?_|refine tB ?_ ?_|refine tC ?_ ?_|refine tN ?_ ?_|refine tF ?_ ?_|refine tG ?_ ?_|refine tP ?_ ?_|refine tQ ?_ ?_|refine tA ?_ ?_|refine tO ?_ ?_|refine tU ?_ ?_|refine tV ?_ ?_) <;> intro h)|refine dqT ?_|refine dqF ?_|refine zt rfl ?_|refine zq rfl ?_|refine z0e ?_|refine z0f ?_)
def z7d:Point→Int→List Coin→Int
 | _,_,[]=>0
 | pv,s,c::r=>if c.p.tx<1∨120<c.p.tx∨c.p.at_<0∨5<c.p.at_∨c.o.coin<1∨1000000000<c.o.coin∨c.height<1∨1000<c.height then 3
  else if zd c.o.lock≠0 then zd c.o.lock else if decide (ltP pv c.p)=true then (if 1000000000<s+c.o.coin then 12 else z7d c.p (s+c.o.coin) r) else 6
theorem zec:∀ (l:List Coin) (p:Point) (s:Int),z7d p s l=z48 p s l
 | [],p,s=>rfl
 | c::l,p,s=>by
  rw [z7d,z48,zec l];have e:5<c.p.at_↔6≤c.p.at_:=by omega
  have ho:=zdv p c.p;simp only [e]
  by_cases h:ltP p c.p
  ·have:=ho.2 h
   rw [if_pos (c:=decide (ltP p c.p)=true) (by simpa using h),if_neg (c:=0≤z14 p c.p) (by omega)]
  ·have:¬ z14 p c.p<0:=fun hh=>h (ho.1 hh)
   rw [if_neg (c:=decide (ltP p c.p)=true) (by simpa using h),if_pos (c:=0≤z14 p c.p) (by omega)]
noncomputable def z0r:zh:=spD (fun _:List Coin=>True) fun l=>ze l
theorem z2o (l:List Coin):z0r [.l 6 (l.map zb)]=some [I (ze l)]:=z09 (f:=fun l:List Coin=>ze l) l trivial
theorem z5p:Meets Tryz.prog z0r 6 ⟨[.one],[(false,[.scal])],true⟩:=by
 refine z06 (sp:=(z0w [(25,z6m),(26,z57)])) (sigs:=z17) (cut:=[]) (hints:=[⟨5,[.t 3,.t 2,.t 12]⟩]) (fn:=Tryz.f6) (t:=z8a) (by kernel_rfl) (by kernel_rfl) (by kernel_rfl) ?_ ?_
 ·exact (z0q (L:=[(25,z6m),(26,z57)]) ⟨zj rfl zwo,zj rfl ziy,trivial⟩)
 ·rintro ds rs - h
  obtain ⟨l,-,rfl,rfl⟩:=z01 h;clear h;refine ⟨⟨l.length+1,?_⟩,z0i rfl⟩
  show den _ _ z8a [.l 6 (l.map zb)] []=ret (ze l)
  unfold z8a ze
  repeat' (first|refine dq1 ?_|refine dqc ?_|refine dqm ?_|exact z5 rfl rfl|((first|refine tR ?_ ?_|refine tB ?_ ?_|refine tC ?_ ?_|refine tN ?_ ?_|refine tF ?_ ?_|refine tG ?_ ?_|refine tP ?_ ?_|refine tQ ?_ ?_|refine tA ?_ ?_|refine tO ?_ ?_|refine tU ?_ ?_|refine tV ?_ ?_) <;> intro h)|refine dqT ?_|refine dqF ?_|refine zt rfl ?_|refine zq rfl ?_|refine z0e ?_|refine z0f ?_)
  rw [← zec]
  (refine z0k (fun (st:Point × Int) k=>[I st.2,I 0,I k]) (fun st k (r:List Coin)=>z7d st.1 st.2 r) (fun st k=>((k=0∧st.1=⟨0,0⟩)∨(0<k∧∃ d,l[((k:Int) - 1).toNat]? = some d∧d.p=st.1))∧0≤st.2∧st.2≤1000000000) (⟨0,0⟩,0) l ?_ ?_ ?_ ?_ ?_;rfl;exact ⟨.inl ⟨rfl,rfl⟩,by decide,by decide⟩;first|exact zY23 _|omega)
  ·rintro ⟨pv,s⟩ k c r hx hd hk ⟨hp,hs0,hs1⟩ again hag
   simp only at hp hs0 hs1 ⊢;rw [z7d]
   repeat' (first|refine dq1 ?_|refine dqc ?_|refine dqm ?_|refine dqK rfl (zga _) ?_|exact z5 rfl rfl|((first|refine tR ?_ ?_|refine tB ?_ ?_|refine tC ?_ ?_|refine tN ?_ ?_|refine tF ?_ ?_|refine tG ?_ ?_|refine tP ?_ ?_|refine tQ ?_ ?_|refine tA ?_ ?_|refine tO ?_ ?_|refine tU ?_ ?_|refine tV ?_ ?_) <;> intro h)|refine dqT ?_|refine dqF ?_|refine zt rfl ?_|refine zq rfl ?_|refine z0e ?_|refine z0f ?_)
   refine z02 rfl (fun h=>?_) (fun h=>?_)
   ·obtain ⟨hk0,-⟩|⟨hk0,d,hd',rfl⟩:=hp
    ·omega
    repeat' (first|refine dq1 ?_|refine dqc ?_|refine dqm ?_|refine dqK rfl (zc2 _ _) ?_|exact z5 rfl rfl|((first|refine tR ?_ ?_|refine tB ?_ ?_|refine tC ?_ ?_|refine tN ?_ ?_|refine tF ?_ ?_|refine tG ?_ ?_|refine tP ?_ ?_|refine tQ ?_ ?_|refine tA ?_ ?_|refine tO ?_ ?_|refine tU ?_ ?_|refine tV ?_ ?_) <;> intro h)|refine dqT ?_|refine dqF ?_|refine zt rfl ?_|refine zq rfl ?_|refine z0e ?_|refine z0f ?_)
    exact z6 rfl rfl (hag (c.p,s+c.o.coin) ⟨.inr ⟨by omega,c,by simpa using hx,rfl⟩,by simp only;omega,by simp only;omega⟩)
   ·obtain ⟨rfl,rfl⟩|⟨hk0,-⟩:=hp
    ·have ho:ltP ⟨0,0⟩ c.p:=by
      unfold ltP;simp only;omega
     rw [if_pos (by simpa using ho)]
     repeat' (first|refine dq1 ?_|refine dqc ?_|refine dqm ?_|exact z5 rfl rfl|((first|refine tR ?_ ?_|refine tB ?_ ?_|refine tC ?_ ?_|refine tN ?_ ?_|refine tF ?_ ?_|refine tG ?_ ?_|refine tP ?_ ?_|refine tQ ?_ ?_|refine tA ?_ ?_|refine tO ?_ ?_|refine tU ?_ ?_|refine tV ?_ ?_) <;> intro h)|refine dqT ?_|refine dqF ?_|refine zt rfl ?_|refine zq rfl ?_|refine z0e ?_|refine z0f ?_)
     exact z6 rfl rfl (hag (c.p,s+c.o.coin) ⟨.inr ⟨by omega,c,by simpa using hx,rfl⟩,by simp only;omega,by simp only;omega⟩)
    ·omega
  ·intro st hI again
   simp only [z7d]
   repeat' (first|refine dq1 ?_|refine dqc ?_|refine dqm ?_|exact z5 rfl rfl|((first|refine tR ?_ ?_|refine tB ?_ ?_|refine tC ?_ ?_|refine tN ?_ ?_|refine tF ?_ ?_|refine tG ?_ ?_|refine tP ?_ ?_|refine tQ ?_ ?_|refine tA ?_ ?_|refine tO ?_ ?_|refine tU ?_ ?_|refine tV ?_ ?_) <;> intro h)|refine dqT ?_|refine dqF ?_|refine zt rfl ?_|refine zq rfl ?_|refine z0e ?_|refine z0f ?_)
end
section
open Go.RowKit
theorem ziz:∀ {l:List Out},z0u l=0→∀ o ∈ l,z31 o=0
 | [],_,o,ho=>by cases ho
 | x::l,h,o,ho=>by
  rw [z0u] at h
  split at h
  ·rename_i hb;exact absurd h hb
  ·rename_i hb
   rcases zY0m.1 ho with rfl|ho
   ·exact zY0w.1 hb
   ·exact ziz h o ho
theorem z02w {o:Out} (h:z31 o=0):1≤o.coin∧zd o.lock=0:=by
 unfold z31 at h
 split at h
 ·cases h
 ·exact ⟨by omega,h⟩
theorem zp2:∀ (l:List Int) (s:Int),(z7n l s).2=0→∀ x ∈ l,0≤x∧x≤1000000000
 | [],_,_,x,hx=>by cases hx
 | y::l,s,h,x,hx=>by
  unfold z7n at h
  by_cases hb:0≤y∧y≤1000000000
  ·rw [if_pos hb] at h
   by_cases hf:1000000000<s+y
   ·rw [if_pos hf] at h;cases h
   ·rw [if_neg hf] at h
    rcases zY0m.1 hx with rfl|hx
    ·exact hb
    ·exact zp2 l _ h x hx
  ·rw [if_neg hb] at h;cases h
structure TxOK (t:Tx):Prop where
 ins:t.ins.length≤6
 outs:t.outs.length≤6
 some:0<t.outs.length
 head:z1v t=0
 insOk:z0x t.ins []=0
 good:∀ o ∈ t.outs,1≤o.coin∧o.coin≤1000000000∧zd o.lock=0
theorem z8o {t:Tx} (h:zr t=0):TxOK t:=by
 unfold zr at h
 split at h
 ·rename_i hb;exact absurd h hb
 rename_i h1
 split at h
 ·rename_i hb;exact absurd h hb
 rename_i h2
 split at h
 ·rename_i hb;exact absurd h hb
 rename_i h3;have h1:z1v t=0:=zY0w.1 h1;have h3:z0u t.outs=0:=zY0w.1 h3;have h1':=h1;unfold z1v at h1'
 split at h1'
 ·cases h1'
 split at h1'
 ·cases h1'
 refine ⟨by omega,by omega,by omega,h1,zY0w.1 h2,fun o ho=>?_⟩;have a:=z02w (ziz h3 o ho);have b:=zp2 _ _ h o.coin (zY2h.2 ⟨o,ho,rfl⟩);exact ⟨a.1,b.2,a.2⟩
structure BlkOK (b:Block):Prop where
 range:¬ zbf b
 len:b.txs.length≤4
 some:0<b.txs.length
 go:z000 b.height b.txs 0=0
 each:∀ t ∈ b.txs,zr t=0
end
section
open Go.RowKit
def z2e (n:Int):Prop:=-1000000≤n∧n≤1000000
def z0v (b:Bool):Int:=if b=true then 1 else 0
def z0s (x:Int):Int:=(x * 7919+104729).tmod 1000003
def z6n (n:Int):Int:=(z0s (z0s (z0s (n+1000000)))).tmod 1000001
def z5q (s:List Int) (n:Int):Option (List Int):=if (s.length:Int)=16∨n < -1000000∨1000000<n then none else some (s++[n])
def z39 (s:List Int):Option (Int × List Int):=match s.getLast? with
 | none=>none
 | some a=>some (a,s.dropLast)
def z15 (s:List Int) (f:Int→Int):Option (List Int):=(z39 s).bind fun p=>z5q p.2 (f p.1)
def z10 (s:List Int) (f:Int→Int→Int):Option (List Int):=(z39 s).bind fun p=>(z39 p.2).bind fun q=>z5q q.2 (f q.1 p.1)
def z1y (h:Int) (s:List Int) (o:Op):Option (List Int) :=
 if o.kind=1 then z5q s o.n
 else if o.kind=2 then (z39 s).bind fun p=>(z5q p.2 p.1).bind fun s=>z5q s p.1
 else if o.kind=3 then (z39 s).bind fun p=>(z39 p.2).bind fun q=>(z5q q.2 p.1).bind fun s=>z5q s q.1
 else if o.kind=4 then (z39 s).bind fun p=>some p.2
 else if o.kind=5 then z10 s fun a b=>a+b
 else if o.kind=6 then z10 s fun a b=>a - b
 else if o.kind=7 then z10 s fun a b=>z0v (decide (a=b))
 else if o.kind=8 then z10 s fun a b=>z0v (decide (a<b))
 else if o.kind=10 then z10 s fun a b=>z0v (decide (a≠0) && decide (b≠0))
 else if o.kind=9 then z15 s fun a=>z0v (decide (a=0))
 else if o.kind=13 then z15 s z6n
 else if o.kind=11 then (z39 s).bind fun p=>if p.1=0 then none else some p.2
 else if o.kind=12 then z5q s h
 else some s
def z1w (h:Int):List Int→List Op→Option (List Int)
 | s,[]=>some s
 | s,o::r=>match z1y h s o with
  | none=>none
  | some s'=>z1w h s' r
def z11 (s:List Int):Prop:=s.length≤16∧∀ x ∈ s,z2e x
instance (n:Int):Decidable (z2e n):=by unfold z2e;infer_instance
def z2m (l:List Op) (s:List Int) (h:Int):List Int × Int :=
 if zd l≠0 then ([],zd l)
 else if h<0∨1000<h∨16<(s.length:Int) then ([],3)
 else if ∀ x ∈ s,z2e x then (match z1w h s l with|none=>([],8)|some s'=>(s',0)) else ([],3)
theorem z9s {s:List Int} (h:s.length=0):z39 s=none:=by
 rw [zY0b h];rfl
theorem z9t {s:List Int} (h:s.length≠0):∃ a t,z39 s=some (a,t)∧s=t++[a]∧(s.length:Int)=t.length+1∧s[((s.length:Int) - 1).toNat]? = some a∧s.take ((s.length:Int) - 1).toNat=t:=by
 rcases List.eq_nil_or_concat s with rfl|⟨t,a,rfl⟩
 ·exact absurd rfl h
 ·refine ⟨a,t,by simp [z39],by simp,by simp,?_,?_⟩
  ·rw [show (((t.concat a).length:Int) - 1).toNat=t.length by simp];simp
  ·rw [show (((t.concat a).length:Int) - 1).toNat=t.length by simp];simp
theorem za {s:List Int} {n:Int} (h:(s.length:Int)=16∨n < -1000000∨1000000<n):z5q s n=none:=if_pos h
theorem z9 {s:List Int} {n:Int} (h1:¬ (s.length:Int)=16) (h2:¬ n < -1000000) (h3:¬ 1000000<n):z5q s n=some (s++[n]):=if_neg (by omega)
theorem z4o {s s':List Int} {n:Int} (hs:z11 s) (h:z5q s n=some s'):z11 s':=by
 unfold z5q at h
 split at h
 ·cases h
 ·rename_i hc
  cases h
  obtain ⟨h1,h2⟩:=hs;refine ⟨by simp;omega,fun x hx=>?_⟩;rcases zY0z.1 hx with hx|hx
  ·exact h2 x hx
  ·simp only [zY13] at hx;subst hx;exact ⟨by omega,by omega⟩
theorem z3b {s t:List Int} {a:Int} (hs:z11 s) (h:z39 s=some (a,t)):z2e a∧z11 t:=by
 rcases List.eq_nil_or_concat s with rfl|⟨u,b,rfl⟩
 ·cases h
 ·have:z39 (u.concat b)=some (b,u):=by simp [z39]
  rw [this] at h
  cases h
  obtain ⟨h1,h2⟩:=hs;exact ⟨h2 _ (by simp),by simp at h1;omega,fun x hx=>h2 x (by simp [hx])⟩
theorem z49 {α:Type} {x:Option α} {f:α→Option (List Int)} {s':List Int} (h:x.bind f=some s'):∃ y,x=some y∧f y=some s':=zY02.1 h
theorem zal {s s':List Int} {f:Int→Int→Int} (hs:z11 s) (h:z10 s f=some s'):z11 s':=by
 obtain ⟨⟨a,t⟩,h1,h⟩:=z49 h;obtain ⟨⟨b,u⟩,h2,h⟩:=z49 h;exact z4o (z3b (z3b hs h1).2 h2).2 h
theorem zyr {s s':List Int} {f:Int→Int} (hs:z11 s) (h:z15 s f=some s'):z11 s':=by
 obtain ⟨⟨a,t⟩,h1,h⟩:=z49 h;exact z4o (z3b hs h1).2 h
theorem zbl {h:Int} {s s':List Int} {o:Op} (hs:z11 s) (he:z1y h s o=some s'):z11 s':=by
 unfold z1y at he
 by_cases k1:o.kind=1
 ·rw [if_pos k1] at he
  exact z4o hs he
 rw [if_neg k1] at he
 by_cases k2:o.kind=2
 ·rw [if_pos k2] at he
  obtain ⟨⟨a,t⟩,h1,he⟩:=z49 he;obtain ⟨u,h2,he⟩:=z49 he;exact z4o (z4o (z3b hs h1).2 h2) he
 rw [if_neg k2] at he
 by_cases k3:o.kind=3
 ·rw [if_pos k3] at he
  obtain ⟨⟨a,t⟩,h1,he⟩:=z49 he;obtain ⟨⟨b,u⟩,h2,he⟩:=z49 he;obtain ⟨v,h3,he⟩:=z49 he;exact z4o (z4o (z3b (z3b hs h1).2 h2).2 h3) he
 rw [if_neg k3] at he
 by_cases k4:o.kind=4
 ·rw [if_pos k4] at he
  obtain ⟨⟨a,t⟩,h1,he⟩:=z49 he
  cases he
  exact (z3b hs h1).2
 rw [if_neg k4] at he
 by_cases k5:o.kind=5
 ·rw [if_pos k5] at he
  exact zal hs he
 rw [if_neg k5] at he
 by_cases k6:o.kind=6
 ·rw [if_pos k6] at he
  exact zal hs he
 rw [if_neg k6] at he
 by_cases k7:o.kind=7
 ·rw [if_pos k7] at he
  exact zal hs he
 rw [if_neg k7] at he
 by_cases k8:o.kind=8
 ·rw [if_pos k8] at he
  exact zal hs he
 rw [if_neg k8] at he
 by_cases k10:o.kind=10
 ·rw [if_pos k10] at he
  exact zal hs he
 rw [if_neg k10] at he
 by_cases k9:o.kind=9
 ·rw [if_pos k9] at he
  exact zyr hs he
 rw [if_neg k9] at he
 by_cases k13:o.kind=13
 ·rw [if_pos k13] at he
  exact zyr hs he
 rw [if_neg k13] at he
 by_cases k11:o.kind=11
 ·rw [if_pos k11] at he
  obtain ⟨⟨a,t⟩,h1,he⟩:=z49 he
  by_cases ha:a=0
  ·have he:(if a=0 then none else some t)=some s':=he
   rw [if_pos ha] at he;cases he
  ·have he:(if a=0 then none else some t)=some s':=he
   rw [if_neg ha] at he;cases he;exact (z3b hs h1).2
 rw [if_neg k11] at he
 by_cases k12:o.kind=12
 ·rw [if_pos k12] at he
  exact z4o hs he
 rw [if_neg k12] at he
 cases he;exact hs
def zam (r:List Int × Int):Bool × Int:=if r.2=3 then (false,r.2) else if r.2=0 then (if (r.1.length:Int)=1 then (decide (r.1.headD 0≠0),0) else (false,0)) else (false,0)
def z21 (l k:List Op) (h:Int):Bool × Int :=
 if zd l≠0 then (false,zd l) else if zd k≠0 then (false,zd k) else
  if (z2m k [] h).2=0 then zam (z2m l (z2m k [] h).1 h) else zam (z2m k [] h)
end
section
open Go.RowKit
set_option maxRecDepth 100000
set_option maxHeartbeats 4000000
section
variable {ρ:Type}
def z2p (h:Int) (bad:Int→ρ) (K:List Coin→List Coin→ρ):List Coin→List Coin→List In→ρ
 | r,s,[]=>K r s
 | r,s,x::xs=>if z1g r x.p=true then
   if ((r[zi r x.p]?).getD z55).reward=true then
    if h<((r[zi r x.p]?).getD z55).height+2 then bad 10
    else if (z21 ((r[zi r x.p]?).getD z55).o.lock x.key h).1=true then z2p h bad K (r.take (zi r x.p)++r.drop (zi r x.p+1)) (s++[(r[zi r x.p]?).getD z55]) xs else bad 8
   else if (z21 ((r[zi r x.p]?).getD z55).o.lock x.key h).1=true then z2p h bad K (r.take (zi r x.p)++r.drop (zi r x.p+1)) (s++[(r[zi r x.p]?).getD z55]) xs else bad 8
  else bad 7
def z2d (nm h:Int) (rw:Bool) (bad:Int→ρ) (K:List Coin→ρ):List Coin→Nat→List Out→ρ
 | r,_,[]=>K r
 | r,i,o::os=>if z1g r ⟨nm,i⟩=true then bad 6 else z2d nm h rw bad K (r.take (zi r ⟨nm,i⟩)++[⟨⟨nm,i⟩,o,h,rw⟩]++r.drop (zi r ⟨nm,i⟩)) (i+1) os
end
def z19 (e:Int):List Coin × List Coin × Int:=([],[],e)
def z3p (s r:List Coin):List Coin × List Coin × Int:=if ze r≠0 then z19 (ze r) else (r,s,0)
def z1i (l:List Coin) (t:Tx) (nm h:Int):List Coin × List Coin × Int :=
 if ze l≠0 then z19 (ze l) else if zr t≠0 then z19 (zr t) else
 if nm<1∨120<nm∨h<1∨1000<h then z19 3 else
 if (t.ins.length:Int)=0 then
  if t.height≠h then z19 4 else z2p h z19 (fun r s=>z2d nm h (decide ((t.ins.length:Int)=0)) z19 (z3p s) r 0 t.outs) l [] t.ins
 else z2p h z19 (fun r s=>if z2s t s<0 then z19 9 else z2d nm h (decide ((t.ins.length:Int)=0)) z19 (z3p s) r 0 t.outs) l [] t.ins
section
variable {ρ:Type}
def z9u (nm:Int) (bad:Int→ρ) (K:List Coin→ρ):List Coin→Nat→List Out→ρ
 | r,_,[]=>K r
 | r,i,o::os=>if z1g r ⟨nm,i⟩=true then (if decide (((r[zi r ⟨nm,i⟩]?).getD z55).o=o)=true then z9u nm bad K (r.take (zi r ⟨nm,i⟩)++r.drop (zi r ⟨nm,i⟩+1)) (i+1) os else bad 7) else bad 7
def z7o (ins:List In) (bad:Int→ρ) (K:List Coin→ρ):List Coin→Nat→List Coin→ρ
 | r,_,[]=>K r
 | r,i,c::cs=>if z1g r c.p=true then bad 6 else if ((ins[i]?).getD ⟨⟨0,0⟩,[]⟩).p≠c.p then bad 6 else z7o ins bad K (r.take (zi r c.p)++[c]++r.drop (zi r c.p)) (i+1) cs
end
def z4p (e:Int):List Coin × Int:=([],e)
def zcz (r:List Coin):List Coin × Int:=if ze r≠0 then z4p (ze r) else (r,0)
def z27 (l:List Coin) (t:Tx) (nm:Int) (u:List Coin):List Coin × Int :=
 if ze l≠0 then z4p (ze l) else if zr t≠0 then z4p (zr t) else if (u.length:Int)≠t.ins.length then z4p 4 else
  z9u nm z4p (fun r=>z7o t.ins z4p zcz r 0 u) l 0 t.outs
theorem z6o {r:List Coin} (h:z0a r) (k:Nat):z0a (r.take k++r.drop (k+1)):=by
 have:(r.take k++r.drop (k+1))=r.eraseIdx k:=(List.eraseIdx_eq_take_drop_succ r k).symm;rw [this];exact h.sublist (List.eraseIdx_sublist r k)
theorem z3y {r:List Coin} (h:z0a r) {c:Coin} (hc:z1g r c.p=false):z0a (r.take (zi r c.p)++[c]++r.drop (zi r c.p)):=by
 obtain ⟨i1,i2⟩:=zea h c.p;have hle:=zb9 r c.p;have hne:∀ t (ht:t<r.length),r[t].p≠c.p:=fun t ht he=>by
  have:z1g r c.p=true:=zY2t.2 ⟨_,zY1r ht,by simpa using he⟩;rw [this] at hc;cases hc
 unfold z0a;rw [zY15,zY2c];refine ⟨List.Pairwise.sublist (List.take_sublist _ _) h,?_,?_⟩
 ·rw [zY2s,zY1p]
  refine ⟨fun d hd=>?_,List.Pairwise.sublist (List.drop_sublist _ _) h⟩;obtain ⟨t,ht,rfl⟩:=zY2f hd;rw [zY0r] at ht;rw [List.getElem_drop];have:=i2 (zi r c.p+t) (by omega) (by omega);rcases zhh c.p r[zi r c.p+t].p with h|h|h
  ·exact h
  ·exact absurd h.symm (hne _ (by omega))
  ·exact absurd h this
 ·intro a ha b hb
  obtain ⟨t,ht,rfl⟩:=zY2f ha;rw [zY0d] at ht;rw [List.getElem_take];have hat:=i1 t (by omega) (by omega);rw [zY2s,zY0m] at hb;rcases hb with rfl|hb
  ·exact hat
  ·obtain ⟨u,hu,rfl⟩:=zY2f hb
   rw [zY0r] at hu;rw [List.getElem_drop];have:=i2 (zi r c.p+u) (by omega) (by omega);rcases zhh r[t].p r[zi r c.p+u].p with h|h|h
   ·exact h
   ·exact absurd (h ▸ hat) this
   ·exact absurd (z4l h hat) this
structure SpI (l:List Coin) (st:List Coin × List Coin) (k:Nat):Prop where
 sorted:z0a st.1
 len:st.1.length≤l.length
 good:∀ c ∈ st.1,z2z c=0
 cnt:st.2.length=k
 spent:∀ c ∈ st.2,z2z c=0
theorem SpI.cut {l:List Coin} {r s:List Coin} {k:Nat} {c:Coin} {j:Nat} (h:SpI l (r,s) k) (hc:r[j]? = some c):SpI l (r.take j++r.drop (j+1),s++[c]) (k+1):=by
 refine ⟨z6o h.sorted j,?_,fun d hd=>?_,?_,fun d hd=>?_⟩
 ·have:=h.len
  simp only [zY01,zY0d,zY0r] at this ⊢;omega
 ·rcases zY0z.1 hd with hd|hd
  ·exact h.good d (zY2b hd)
  ·exact h.good d (zY1x hd)
 ·have:=h.cnt
  simp only [zY01,zY1b] at this ⊢;omega
 ·rcases zY0z.1 hd with hd|hd
  ·exact h.spent d hd
  ·simp only [zY13] at hd
   subst hd;exact h.good d (zY0o hc)
theorem SpI.fee {l:List Coin} {r s:List Coin} {t:Tx} (h:SpI l (r,s) t.ins.length) (ht:TxOK t):z7z (t,s) :=
 ⟨by have:=h.cnt;have:=ht.ins;simp only at *;omega,fun c hc=>by have:=z2g (h.spent c hc);omega,by have:=ht.outs;simp only;omega,fun o ho=>by have:=ht.good o ho;omega⟩
end
section
open Go.RowKit
set_option maxRecDepth 100000
set_option maxHeartbeats 4000000
noncomputable def z43:zh:=spD (fun l:List (List Coin)=>total l≤1000000) fun l=>l.flatten
theorem zex (a b:List Coin) (h:a.length+b.length≤1000000):z43 [.l 1 [[.l 6 (a.map zb)],[.l 6 (b.map zb)]]]=some [.l 6 ((a++b).map zb)]:=by
 have h1:=z09 (p:=fun l:List (List Coin)=>total l≤1000000) (f:=fun l:List (List Coin)=>l.flatten) [a,b] (by simpa [total] using h);have h2:[a,b].flatten=a++b:=by simp
 simp only [h2] at h1;exact h1
theorem zp3:Meets Tryz.prog z43 33 ⟨[.one],[(false,[.fresh 57 6])],false⟩ :=
 za2 (e:=fun x:{ l:List (List Coin) // total l≤1000000 }=>Enc.e x.1) (xs:=fun x=>x.1.flatten) she_coin rfl rfl (by decide) (z4c (fn:=Tryz.f33) (by kernel_rfl) (by kernel_rfl) (by kernel_rfl)) fun x W F us hF h=>by
  obtain ⟨v,us,rfl,h1,h⟩:=z3a h;obtain rfl:=z4z h;obtain ⟨A,n,c,rfl,k1⟩:=z4y (z5z she_coin rfl) h1;exact (zwp x.1 A n c W F k1 hF x.2).mono fun r W' h=>⟨_,h⟩
attribute [local irreducible] z0p spD
attribute [local irreducible] den denX z1b z1q
theorem z003 {P:Program} {spec:zh} {f:Nat} {a:List PK} {r:List (Bool × List CF)} {b b':Bool} (h:Meets P spec f ⟨a,r,b⟩):Meets P spec f ⟨a,r,b'⟩:=by
 refine ⟨fun hm W F ds args rs hF ha hs=>?_,fun e sz ps he=>h.2 e sz ps he⟩;rcases h.1 hm W F ds args rs hF ha hs with ⟨h1,h2⟩|⟨v,W',h1,hb,us,F',hR⟩
 ·exact .inl ⟨h1,h2.mono fun e w' ⟨v,hv,hb,us,F',hR⟩=>⟨v,hv,hb,us,F',⟨hR.val,hR.lrs,hR.lus,hR.cells,hR.own,hR.apart,hR.dj⟩⟩⟩
 ·exact .inr ⟨v,W',h1,hb,us,F',⟨hR.val,hR.lrs,hR.lus,hR.cells,hR.own,hR.apart,hR.dj⟩⟩
def zd0 (p:Point):List Coin→Nat→Int
 | [],_ => -1
 | c::r,k=>if c.p=p then k else zd0 p r (k+1)
def z0d (l:List Coin) (p:Point):Int:=zd0 p l 0
noncomputable def z3t:zh:=spD (fun _:List Coin × Point=>True) fun x=>z0d x.1 x.2
theorem z4q (l:List Coin) (p:Point):z3t [.l 6 (l.map zb),I p.tx,I p.at_]=some [I (z0d l p)]:=z09 (f:=fun x:List Coin × Point=>z0d x.1 x.2) (l,p) trivial
def z004:T :=
 .lets [.idx 0 5 0,.idx 0 5 1,.idx 0 5 2,.idx 0 5 3,.idx 0 5 4,.idx 0 5 5] [] (.lets [.eqs false [(.v 7,.v 1),(.v
 8,.v 2)]] [] (.ite 13 (.ret [5]) (.lets [.bin .add 5 (zI 1)] [] (.again 0 [4,14]))))
def z005:T :=
 .loop [zI 0,zI 0] (.lets [.bin .lss 5 3] [] (.ite 6 (.lets [] [.inr 6 0 5] z004) (.ret [.c (.i .i64 (-1))])))
def zey:T :=
 .lets [.len 0] [] z005
theorem zp4:Meets Tryz.prog z3t 31 ⟨[.one,.agg 2],[(false,[.scal])],true⟩:=by
 refine z7y (sp:=(z0w [])) (sigs:=z17) (cut:=[]) (hints:=[]) (fns:=[z86 53 Tryz.f53 [⟨2,[.t 4,.t 8]⟩] [],z86 54 Tryz.f54 [] []]) (dep:=2) (pool:=200) (fn:=Tryz.f31) (t:=zey) (by kernel_rfl) (by kernel_rfl) (by kernel_rfl) ?_ ?_ ?_
 ·exact (z28 (fn:=Tryz.f53) (by kernel_rfl) (by kernel_rfl) (by kernel_rfl) (by kernel_rfl) (by kernel_rfl) (z28 (fn:=Tryz.f54) (by kernel_rfl) (by kernel_rfl) (by kernel_rfl) (by kernel_rfl) (by kernel_rfl) z9b))
 ·exact (z0q (L:=[]) trivial)
 ·rintro ds rs hok h
  obtain ⟨⟨l,p⟩,-,rfl,rfl⟩:=z01 h;clear h;have hl:=ok_l (hok (.l 6 (l.map zb)) (zY0l ..));clear hok;refine ⟨⟨l.length+1,?_⟩,z0i rfl⟩
  show den _ _ zey [.l 6 (l.map zb),I p.tx,I p.at_] []=ret (z0d l p)
  unfold zey z0d
  repeat' (first|refine dq1 ?_|fail)
  (refine z0k (fun (_:Unit) k=>[I 0,I k]) (fun (_:Unit) k (r:List Coin)=>zd0 p r k) (fun _ _=>True) () l ?_ ?_ ?_ ?_ ?_;rfl;exact trivial;omega)
  ·rintro _ k c r hx hd hk - again hag
   rw [zd0];have hag:=hag () trivial
   repeat' (first|refine dq1 ?_|refine dqc ?_|refine dqm ?_|exact z6 rfl rfl hag|exact z5 rfl rfl|refine tR (fun h=>?_) fun h=>?_|refine dqT ?_|fail)
  ·rintro _ - again
   rw [zd0]
   repeat' (first|refine dq1 ?_|exact z5 rfl rfl|refine dqF ?_|fail)
end
section
open Go.RowKit Go.Sort
set_option maxRecDepth 100000
set_option maxHeartbeats 4000000
structure Fwd (B:Nat) (W W':World):Prop where
 os:W'.os=W.os
 tape:W'.tape=W.tape
 output:W'.output=W.output
 size:W.heap.size≤W'.heap.size
 same:∀ b,B≤b→b<W.heap.size→W'.heap[b]? = W.heap[b]?
theorem Fwd.refl (B:Nat) (W:World):Fwd B W W:=⟨rfl,rfl,rfl,zY0t _,fun _ _ _=>rfl⟩
theorem Fwd.trans {B:Nat} {W W' W'':World} (h:Fwd B W W') (k:Fwd B W' W''):Fwd B W W'' :=
 ⟨k.os.trans h.os,k.tape.trans h.tape,k.output.trans h.output,zY39 h.size k.size,fun b h1 h2=>(k.same b h1 (zY1h h2 h.size)).trans (h.same b h1 h2)⟩
theorem Fwd.below {B:Nat} {W W':World} (h:Below W.heap.size W W'):Fwd B W W':=⟨h.os,h.tape,h.output,h.size,fun b _ h2=>h.block b h2⟩
structure Srt {α:Type} [Inhabited α] (lt:α→α→Bool) (n B lf:Nat) (lb:Array Value) (sf:Nat) (sb:Array Value) (St:Array α→World→Prop):Prop where
 big:n<4611686018427387904
 enters:∀ args w,(callFunc lf args).run Tryz.prog w = .ok (.enter lf args) w
 size:∀ {d W},St d W→d.size=n
 base:∀ {d W},St d W→B≤W.heap.size
 keep:∀ {d W W'},St d W→Below B W W'→St d W'
 less:∀ {d W} (i j:Nat),St d W→i<n→j<n→Calls Tryz.prog lf (#[.int .i64 i,.int .i64 j]++lb) W fun e W'=>e = .returned (.bool (lt d[i]! d[j]!))∧St d W'∧Fwd B W W'
 swap:∀ {d W} (i j:Nat),St d W→i<n→j<n→∃ W',(callFunc sf (#[.int .i64 i,.int .i64 j]++sb)).run Tryz.prog W = .ok (.value (.tuple #[])) W'∧St (swp d i j) W'∧Fwd B W W'
theorem z07k {α:Type} [Inhabited α] (d:Array α) (i j:Nat):(swp d i j).size=d.size:=by simp [swp]
section
variable {α:Type} [Inhabited α] {lt:α→α→Bool} {n B lf sf:Nat} {lb sb:Array Value} {St:Array α→World→Prop}
structure On (B lf:Nat) (lb:Array Value) (sf:Nat) (sb:Array Value) (St:Array α→World→Prop) (w:World) (d:Array α) (W:World):Prop where
 st:St d W
 fwd:Fwd B w W
 bx:W.heap[w.heap.size]? = some (.cells #[.func (.func lf) #[] lb,.func (.func sf) #[] sb] 116 (0,0))
theorem z7e (w:World) (o:Obj):(w.alloc o).heap[w.heap.size]? = some o:=Array.getElem?_push_size
theorem z7f (w:World) (o:Obj) {b:Nat} (h:b<w.heap.size):(w.alloc o).heap[b]? = w.heap[b]?:=by
 show (w.heap.push o)[b]? = w.heap[b]?
 rw [zY3f,if_neg (by omega)]
theorem z34 (w:World) (o:Obj):(w.alloc o).heap.size=w.heap.size+1:=Array.size_push ..
omit [Inhabited α] in
theorem On.start [Inhabited α] {lt:α→α→Bool} (S:Srt lt n B lf lb sf sb St) {w:World} {d:Array α} (h:St d w):On B lf lb sf sb St w d (w.alloc (.cells #[.func (.func lf) #[] lb,.func (.func sf) #[] sb] 116)):=by
 have hb:=S.base h;refine ⟨S.keep h ((Below.refl _ _).alloc hb _),⟨rfl,rfl,rfl,by rw [z34];omega,fun b _ hb'=>z7f _ _ hb'⟩,z7e _ _⟩
omit [Inhabited α] in
theorem On.is_lt {w W:World} {d:Array α} (h:On B lf lb sf sb St w d W):w.heap.size<W.heap.size:=by
 have:=h.bx;rw [zY1a] at this;exact this.1
omit [Inhabited α] in
theorem On.call {w W W':World} {d d':Array α} (hw:B≤w.heap.size) (h:On B lf lb sf sb St w d W) (hs:St d' W'∧Fwd B W W'):On B lf lb sf sb St w d' W' :=
 ⟨hs.1,h.fwd.trans hs.2,(hs.2.same _ hw h.is_lt).trans h.bx⟩
omit [Inhabited α] in
theorem On.c0 {w W:World} {d:Array α} (h:On B lf lb sf sb St w d W):W.cell? ⟨w.heap.size,0,none⟩=some (.func (.func lf) #[] lb):=by
 unfold World.cell?;rw [h.bx];rfl
omit [Inhabited α] in
theorem On.c1 {w W:World} {d:Array α} (h:On B lf lb sf sb St w d W):W.cell? ⟨w.heap.size,1,none⟩=some (.func (.func sf) #[] sb):=by
 unfold World.cell?;rw [h.bx];rfl
theorem On.less {lt:α→α→Bool} (S:Srt lt n B lf lb sf sb St) {w W:World} {d:Array α} (h:On B lf lb sf sb St w d W) (hw:B≤w.heap.size) {i j:Nat} {x y:Int} {r:Bool} (hi:i<n) (hj:j<n) (hx:(i:Int)=x) (hy:(j:Int)=y) (hr:lt d[i]! d[j]! = r) :
  Calls Tryz.prog lf (#[.int .i64 x,.int .i64 y]++lb) W fun e W'=>e = .returned (.bool r)∧On B lf lb sf sb St w d W':=by
 subst hx;subst hy;subst hr;exact (S.less i j h.st hi hj).mono fun e W' ⟨he,hs⟩=>⟨he,h.call hw hs⟩
theorem On.swap {lt:α→α→Bool} (S:Srt lt n B lf lb sf sb St) {w W:World} {d:Array α} (h:On B lf lb sf sb St w d W) (hw:B≤w.heap.size) {i j:Nat} {x y:Int} (hi:i<n) (hj:j<n) (hx:(i:Int)=x) (hy:(j:Int)=y) :
  ∃ W',(callFunc sf (#[.int .i64 x,.int .i64 y]++sb)).run Tryz.prog W = .ok (.value (.tuple #[])) W'∧On B lf lb sf sb St w (swp d i j) W':=by
 subst hx;subst hy;obtain ⟨W',h1,h2⟩:=S.swap i j h.st hi hj;exact ⟨W',h1,h.call hw h2⟩
theorem zwq (lt:α→α→Bool) (a j:Nat) (d:Array α) (h:a<j) (hl:lt d[j]! d[j - 1]! = true):insInner lt a j d=insInner lt a (j - 1) (swp d j (j - 1)):=by
 obtain ⟨k,rfl⟩:∃ k,j=k+1:=⟨j - 1,by omega⟩
 simp only [zY2i] at hl;rw [insInner,hl,if_pos (by simp;omega)];rfl
theorem zd1 (lt:α→α→Bool) (a j:Nat) (d:Array α) (h:j≤a∨lt d[j]! d[j - 1]! = false):insInner lt a j d=d:=by
 cases j with
 | zero=>rfl
 | succ k =>
  rw [insInner];rcases h with h|h
  ·rw [if_neg (by simp;omega)]
  ·simp only [zY2i] at h
   rw [h,if_neg (by simp)]
theorem zed (lt:α→α→Bool) (a b i:Nat) (d:Array α) (h:i<b):insOuter lt a b i d=insOuter lt a b (i+1) (insInner lt a i d):=by rw [insOuter,if_pos h]
theorem zp5 (lt:α→α→Bool) (a b i:Nat) (d:Array α) (h:¬ i<b):insOuter lt a b i d=d:=by rw [insOuter,if_neg h]
theorem z02z {lt:α→α→Bool} (S:Srt lt n B lf lb sf sb St) {w:World} {d:Array α} (h:St d w) {a b:Nat} (hab:a≤b) (hb:b≤n) :
  Calls Tryz.prog 85 #[.agg #[.func (.func lf) #[] lb,.func (.func sf) #[] sb],.int .i64 a,.int .i64 b] w fun e w'=>e = .returned (.tuple #[])∧St (insertionSort lt d a b) w'∧Fwd B w w':=by
 have hw:=S.base h;have hO:=On.start S h;have hbig:=S.big;have eg:=S.enters;go_enter Tryz.func85,Tryz.ntmps85;go_wp2;go_loopg [6] (b+1 - a) (fun kx vi wr=>∃ (i:Nat) (dk:Array α),vi = .int .i64 i∧a<i∧i≤b+1∧b+1 - i<kx∧On B lf lb sf sb St w dk wr∧Hid (insOuter lt a b i dk=insOuter lt a b (a+1) d))
 case atStart=>exact ⟨a+1,d,by go_num,by omega,by omega,by omega,hO,rfl⟩
 case round =>
  obtain ⟨i,dk,rfl,hai,hib,hkx,hW,HO⟩:=hrel;clear hO
  by_cases hlt:i<b
  ·have hltz:(i:Int)<(b:Int):=by omega
   repeat' (first|go_values|go_skip|go_guarded|go_step|go_upon)
   go_loopg [7] (i+1) (fun ky vj wr2=>∃ (j:Nat) (dj:Array α),vj = .int .i64 j∧a≤j∧j≤i∧j<ky∧On B lf lb sf sb St w dj wr2∧Hid (insInner lt a j dj=insInner lt a i dk))
   case atStart=>exact ⟨i,dk,rfl,by omega,zY0t _,by omega,hW,rfl⟩
   case round =>
    obtain ⟨j,dj,rfl,haj,hji,hky,hW2,HI⟩:=hrel;clear hW;have c0:=hW2.c0
    by_cases hja:a<j
    ·have hjz:(a:Int)<(j:Int):=by omega
     cases hl:lt dj[j]! dj[j - 1]! with
     | true =>
      have hc:=hW2.less S hw (i:=j) (j:=j - 1) (x:=j) (y:=(j:Int) - 1) (by omega) (by omega) rfl (by omega) hl;have HL:=Lib.hid hl;clear hl
      repeat' (first|(refine hc.mono ?_;rintro e w1 ⟨rfl,hW3⟩;simp only [];have c1:=hW3.c1;obtain ⟨w2,hs,hW4⟩:=hW3.swap S hw (i:=j) (j:=j - 1) (x:=j) (y:=(j:Int) - 1) (by omega) (by omega) rfl (by omega);have HS:=Lib.hid hs;clear hs)|(rw [HS.out,Oper.upon_value])|go_values|go_skip|go_guarded|go_step|go_upon)
      go_roundg j
      case measure=>omega
      case rel=>exact ⟨j - 1,_,by go_num,by omega,by omega,by omega,hW4,by show Hid _;rw [← HI.out,zwq lt a j dj hja HL.out];exact rfl⟩
     | false =>
      have hc:=hW2.less S hw (i:=j) (j:=j - 1) (x:=j) (y:=(j:Int) - 1) (by omega) (by omega) rfl (by omega) hl;have HL:=Lib.hid hl;clear hl
      repeat' (first|(refine hc.mono ?_;rintro e w1 ⟨rfl,hW3⟩;simp only [])|go_values|go_skip|go_guarded|go_step|go_upon)
      go_roundg (b+1 - i)
      case measure=>omega
      case rel=>exact ⟨i+1,dj,by go_num,by omega,by omega,by omega,hW3,by show Hid _;rw [← HO.out,zed lt a b i dk hlt,← HI.out,zd1 lt a j dj (Or.inr HL.out)];exact rfl⟩
    ·have hjz:¬ (a:Int)<(j:Int):=by omega
     repeat' (first|go_values|go_skip|go_guarded|go_step|go_upon)
     go_roundg (b+1 - i)
     case measure=>omega
     case rel=>exact ⟨i+1,dj,by go_num,by omega,by omega,by omega,hW2,by show Hid _;rw [← HO.out,zed lt a b i dk hlt,← HI.out,zd1 lt a j dj (Or.inl (by omega))];exact rfl⟩
  ·have hltz:¬ (i:Int)<(b:Int):=by omega
   repeat' (first|go_values|go_skip|go_guarded|go_step|go_upon)
   go_end0;exact ⟨rfl,by unfold insertionSort;rw [← HO.out,zp5 lt a b i dk hlt];exact hW.st,hW.fwd⟩
end
end
section
open Go.RowKit Go.Sort
set_option maxRecDepth 100000
set_option maxHeartbeats 4000000
section
variable {α:Type} [Inhabited α] {lt:α→α→Bool} {n B lf sf:Nat} {lb sb:Array Value} {St:Array α→World→Prop}
theorem z006 (i j:Nat) (d:Array α) (h:i<j):reverseLoop i j d=reverseLoop (i+1) (j - 1) (swp d i j):=by rw [reverseLoop,if_pos h]
theorem zwr (i j:Nat) (d:Array α) (h:¬ i<j):reverseLoop i j d=d:=by rw [reverseLoop,if_neg h]
def kid (lt:α→α→Bool) (hi F r:Nat) (d:Array α):Nat:=if (decide (2 * r+2<hi) && lt d[F+(2 * r+1)]! d[F+(2 * r+2)]!)=true then 2 * r+2 else 2 * r+1
theorem z05a {hi F r:Nat} (d:Array α) (h:hi≤2 * r+1):siftDown lt hi F r d=d:=by rw [siftDown,dif_pos h]
theorem zp6 {hi F r c:Nat} (d:Array α) (h:¬ hi≤2 * r+1) (hc:kid lt hi F r d=c):siftDown lt hi F r d=if lt d[F+r]! d[F+c]! then siftDown lt hi F c (swp d (F+r) (F+c)) else d:=by
 subst hc;unfold kid;rw [siftDown,dif_neg h,show F+(2 * r+1)+1=F+(2 * r+2) by omega]
 by_cases hb:(decide (2 * r+2<hi) && lt d[F+(2 * r+1)]! d[F+(2 * r+2)]!)=true
 ·have hb':(decide (2 * r+1+1<hi) && lt d[F+(2 * r+1)]! d[F+(2 * r+2)]!)=true:=hb
  rw [if_pos hb',if_pos hb];have:2 * r+2<hi:=by (rw [zY0c] at hb;exact of_decide_eq_true hb.1)
  cases hl:lt d[F+r]! d[F+(2 * r+2)]! with
  | true=>simp only [zY3a,zY0n,if_false,if_true];rw [dif_pos this]
  | false=>simp only [Bool.not_false,zY0n,if_false,if_true]
 ·have hb':¬ (decide (2 * r+1+1<hi) && lt d[F+(2 * r+1)]! d[F+(2 * r+2)]!)=true:=hb
  rw [if_neg hb',if_neg hb]
  cases hl:lt d[F+r]! d[F+(2 * r+1)]! with
  | true=>simp only [zY3a,zY0n,if_false,if_true]
  | false=>simp only [Bool.not_false,zY0n,if_false,if_true]
theorem z030 {hi F r c:Nat} (d:Array α) (h:¬ hi≤2 * r+1) (hc:kid lt hi F r d=c):c<hi∧r<c:=by
 subst hc;unfold kid
 split
 ·rename_i hb
  have:2 * r+2<hi:=by (rw [zY0c] at hb;exact of_decide_eq_true hb.1)
  omega
 ·omega
theorem z007 (S:Srt lt n B lf lb sf sb St) {w:World} {d:Array α} (h:St d w) {a b:Nat} (hab:a<b) (hb:b≤n) :
  Calls Tryz.prog 89 #[.agg #[.func (.func lf) #[] lb,.func (.func sf) #[] sb],.int .i64 a,.int .i64 b] w fun e w'=>e = .returned (.tuple #[])∧St (reverseRange d a b) w'∧Fwd B w w':=by
 have hw:=S.base h;have hO:=On.start S h;have hbig:=S.big;go_enter Tryz.func89,Tryz.ntmps89;go_wp2;go_loopg [6,7] b (fun kx vi vj wr=>∃ (i j:Nat) (dk:Array α),vi = .int .i64 i∧vj = .int .i64 j∧a≤i∧j<b∧j<kx∧On B lf lb sf sb St w dk wr∧Hid (reverseLoop i j dk=reverseLoop a (b - 1) d))
 case atStart=>exact ⟨a,b - 1,d,rfl,by go_num,by omega,by omega,by omega,hO,rfl⟩
 case round =>
  obtain ⟨i,j,dk,rfl,rfl,hai,hjb,hkx,hW,HO⟩:=hrel;clear hO
  by_cases hij:i<j
  ·have hz:(i:Int)<(j:Int):=by omega
   have c1:=hW.c1;obtain ⟨w2,hs,hW4⟩:=hW.swap S hw (i:=i) (j:=j) (by omega) (by omega) rfl rfl;have HS:=Lib.hid hs;clear hs
   repeat' (first|(rw [HS.out,Oper.upon_value])|go_values|go_skip|go_guarded|go_step|go_upon)
   go_roundg j
   case measure=>omega
   case rel=>exact ⟨i+1,j - 1,_,by go_num,by go_num,by omega,by omega,by omega,hW4,by show Hid _;rw [← HO.out,z006 i j dk hij];exact rfl⟩
  ·have hz:¬ (i:Int)<(j:Int):=by omega
   repeat' (first|go_values|go_skip|go_guarded|go_step|go_upon)
   go_end0;exact ⟨rfl,by unfold reverseRange;rw [← HO.out,zwr i j dk hij];exact hW.st,hW.fwd⟩
theorem z031 (S:Srt lt n B lf lb sf sb St) {w:World} {d:Array α} (h:St d w) {lo hi first:Nat} (hlo:lo≤hi) (hb:first+hi≤n) :
  Calls Tryz.prog 106 #[.agg #[.func (.func lf) #[] lb,.func (.func sf) #[] sb],.int .i64 lo,.int .i64 hi,.int .i64 first] w fun e w'=>e = .returned (.tuple #[])∧St (siftDown lt hi first lo d) w'∧Fwd B w w':=by
 have hw:=S.base h;have hO:=On.start S h;have hbig:=S.big;have eg:=S.enters;go_enter Tryz.func106,Tryz.ntmps106;go_wp2;go_loopg [8] (hi - lo+1) (fun kx s8 wr=>∃ (root:Nat) (dk:Array α),s8 = .int .i64 root∧root≤hi∧hi - root<kx∧On B lf lb sf sb St w dk wr∧Hid (siftDown lt hi first root dk=siftDown lt hi first lo d))
 case atStart=>exact ⟨lo,d,rfl,hlo,by omega,hO,rfl⟩
 case round =>
  obtain ⟨root,dk,rfl,hr,hkx,hW,HO⟩:=hrel;clear hO;have c0:=hW.c0;have c1:=hW.c1
  by_cases h0:hi≤2 * root+1
  ·have h0z:(hi:Int)≤2 * (root:Int)+1:=by omega
   repeat' (first|go_values|go_skip|go_guarded|go_step|go_upon)
   go_end0;exact ⟨rfl,by rw [← HO.out,z05a dk h0];exact hW.st,hW.fwd⟩
  have h0z:¬ ((hi:Int)≤2 * (root:Int)+1):=by omega
  go_upto_region 4 with fail
  go_cut [32] (fun c wx=>c = .bool (decide (2 * root+2<hi) && lt dk[first+(2 * root+1)]! dk[first+(2 * root+2)]!)∧On B lf lb sf sb St w dk wx)
  case first =>
   by_cases h1:2 * root+2<hi
   ·have h1z:2 * (root:Int)+1+1<(hi:Int):=by omega
    cases hL:lt dk[first+(2 * root+1)]! dk[first+(2 * root+2)]! with
    | true =>
     have hc:=hW.less S hw (i:=first+(2 * root+1)) (j:=first+(2 * root+2)) (x:=(first:Int)+(2 * (root:Int)+1)) (y:=(first:Int)+(2 * (root:Int)+1)+1) (by omega) (by omega) (by omega) (by omega) hL;have HL:=Lib.hid hL;clear hL;go_wp2_with (refine hc.mono ?_;rintro e w1 ⟨rfl,hU⟩;simp only [];clear hc);go_meet;exact ⟨by rw [decide_eq_true h1,HL.out];rfl,hU⟩
    | false =>
     have hc:=hW.less S hw (i:=first+(2 * root+1)) (j:=first+(2 * root+2)) (x:=(first:Int)+(2 * (root:Int)+1)) (y:=(first:Int)+(2 * (root:Int)+1)+1) (by omega) (by omega) (by omega) (by omega) hL;have HL:=Lib.hid hL;clear hL;go_wp2_with (refine hc.mono ?_;rintro e w1 ⟨rfl,hU⟩;simp only [];clear hc);go_meet;exact ⟨by rw [decide_eq_true h1,HL.out];rfl,hU⟩
   ·have h1z:¬ (2 * (root:Int)+1+1<(hi:Int)):=by omega
    go_wp2_with fail;go_meet;exact ⟨by rw [decide_eq_false h1];rfl,hW⟩
  case rest =>
   obtain ⟨rfl,hX⟩:=hcut;clear hW c0 c1;have c0:=hX.c0;have HK:∀ b,(decide (2 * root+2<hi) && lt dk[first+(2 * root+1)]! dk[first+(2 * root+2)]!)=b→kid lt hi first root dk=if b=true then 2 * root+2 else 2 * root+1:=fun b hb=>by unfold kid;rw [hb]
   cases hb:(decide (2 * root+2<hi) && lt dk[first+(2 * root+1)]! dk[first+(2 * root+2)]!) with
   | true =>
    have hk:kid lt hi first root dk=2 * root+2:=HK _ hb
    have hk1:=z030 dk h0 hk;have hk2:=Lib.hid (zp6 dk h0 hk);clear hb HK hk
    cases hG:lt dk[first+root]! dk[first+(2 * root+2)]! with
    | true =>
     have hd:=hX.less S hw (i:=first+root) (j:=first+(2 * root+2)) (x:=(first:Int)+(root:Int)) (y:=(first:Int)+(2 * (root:Int)+1+1)) (by omega) (by omega) (by omega) (by omega) hG;have HG:=Lib.hid hG;clear hG;go_wp2_with (first|(refine hd.mono ?_;rintro e w2 ⟨rfl,hW2⟩;simp only [];clear hd;have c1:=hW2.c1;obtain ⟨w3,hs,hW3⟩:=hW2.swap S hw (i:=first+root) (j:=first+(2 * root+2)) (x:=(first:Int)+(root:Int)) (y:=(first:Int)+(2 * (root:Int)+1+1)) (by omega) (by omega) (by omega) (by omega);have HS:=Lib.hid hs;clear hs)|(rw [HS.out,Oper.upon_value]));go_roundg (hi - root)
     case measure=>omega
     case rel=>exact ⟨2 * root+2,_,by go_num,by omega,by omega,hW3,by show Hid _;rw [← HO.out,hk2.out,HG.out,if_pos rfl];exact rfl⟩
    | false =>
     have hd:=hX.less S hw (i:=first+root) (j:=first+(2 * root+2)) (x:=(first:Int)+(root:Int)) (y:=(first:Int)+(2 * (root:Int)+1+1)) (by omega) (by omega) (by omega) (by omega) hG;have HG:=Lib.hid hG;clear hG;go_wp2_with (refine hd.mono ?_;rintro e w2 ⟨rfl,hW2⟩;simp only [];clear hd)
     ((try simp only [Exit.inBlock,Exit.then]);refine bodyPost_ret (results_none rfl _ _ _) rfl ?_)
     exact ⟨rfl,by rw [← HO.out,hk2.out,HG.out,if_neg zY33];exact hW2.st,hW2.fwd⟩
   | false =>
    have hk:kid lt hi first root dk=2 * root+1:=HK _ hb
    have hk1:=z030 dk h0 hk;have hk2:=Lib.hid (zp6 dk h0 hk);clear hb HK hk
    cases hG:lt dk[first+root]! dk[first+(2 * root+1)]! with
    | true =>
     have hd:=hX.less S hw (i:=first+root) (j:=first+(2 * root+1)) (x:=(first:Int)+(root:Int)) (y:=(first:Int)+(2 * (root:Int)+1)) (by omega) (by omega) (by omega) (by omega) hG;have HG:=Lib.hid hG;clear hG;go_wp2_with (first|(refine hd.mono ?_;rintro e w2 ⟨rfl,hW2⟩;simp only [];clear hd;have c1:=hW2.c1;obtain ⟨w3,hs,hW3⟩:=hW2.swap S hw (i:=first+root) (j:=first+(2 * root+1)) (x:=(first:Int)+(root:Int)) (y:=(first:Int)+(2 * (root:Int)+1)) (by omega) (by omega) (by omega) (by omega);have HS:=Lib.hid hs;clear hs)|(rw [HS.out,Oper.upon_value]));go_roundg (hi - root)
     case measure=>omega
     case rel=>exact ⟨2 * root+1,_,by go_num,by omega,by omega,hW3,by show Hid _;rw [← HO.out,hk2.out,HG.out,if_pos rfl];exact rfl⟩
    | false =>
     have hd:=hX.less S hw (i:=first+root) (j:=first+(2 * root+1)) (x:=(first:Int)+(root:Int)) (y:=(first:Int)+(2 * (root:Int)+1)) (by omega) (by omega) (by omega) (by omega) hG;have HG:=Lib.hid hG;clear hG;go_wp2_with (refine hd.mono ?_;rintro e w2 ⟨rfl,hW2⟩;simp only [];clear hd)
     ((try simp only [Exit.inBlock,Exit.then]);refine bodyPost_ret (results_none rfl _ _ _) rfl ?_)
     exact ⟨rfl,by rw [← HO.out,hk2.out,HG.out,if_neg zY33];exact hW2.st,hW2.fwd⟩
theorem z05b (lt:α→α→Bool) (hi F k:Nat) (d:Array α) (h:k≠0):heapBuild lt hi F k d=heapBuild lt hi F (k - 1) (siftDown lt hi F (k - 1) d):=by
 obtain ⟨j,rfl⟩:∃ j,k=j+1:=⟨k - 1,by omega⟩
 rfl
theorem z09p (lt:α→α→Bool) (F k:Nat) (d:Array α) (h:k≠0):heapPop lt F k d=heapPop lt F (k - 1) (siftDown lt (k - 1) F 0 (swp d F (F+(k - 1)))):=by
 obtain ⟨j,rfl⟩:∃ j,k=j+1:=⟨k - 1,by omega⟩
 rfl
theorem z09q (S:Srt lt n B lf lb sf sb St) {w:World} {d:Array α} (h:St d w) {a b:Nat} (hab:a<b) (hb:b≤n) :
  Calls Tryz.prog 86 #[.agg #[.func (.func lf) #[] lb,.func (.func sf) #[] sb],.int .i64 a,.int .i64 b] w fun e w'=>e = .returned (.tuple #[])∧St (heapSort lt d a b) w'∧Fwd B w w':=by
 have hw:=S.base h;have hO:=On.start S h;have hbig:=S.big;obtain ⟨m,hm⟩:∃ m,m=(b - a - 1) / 2+1:=⟨_,rfl⟩
 have hmz:((b:Int) - (a:Int) - 1) / 2=(m:Int) - 1:=by omega
 have hsz:((b - a:Nat):Int)=(b:Int) - (a:Int):=by omega
 have H0:heapSort lt d a b=heapPop lt a (b - a) (heapBuild lt (b - a) a m d):=by rw [hm];rfl
 rw [H0];clear H0;have hml:m≤b - a:=by omega
 clear hm;go_enter Tryz.func86,Tryz.ntmps86;go_wp2;go_loopg [9] (m+1) (fun kx v wr=>∃ (k:Nat) (dk:Array α),v = .int .i64 ((k:Int) - 1)∧k≤m∧k<kx∧On B lf lb sf sb St w dk wr∧Hid (heapBuild lt (b - a) a k dk=heapBuild lt (b - a) a m d))
 case atStart=>exact ⟨m,d,by go_num,zY0t _,zY23 _,hO,rfl⟩
 case round =>
  obtain ⟨k,dk,rfl,hkm,hkx,hW,HO⟩:=hrel;clear hO;have c0:=hW.c0;have c1:=hW.c1
  by_cases h0:k=0
  ·have hz:¬ (0:Int)≤(k:Int) - 1:=by omega
   have hD:Hid (heapBuild lt (b - a) a m d=dk):=by (show _=_;rw [← HO.out,h0];rfl)
   clear HO c0 c1;go_wp2;go_loopg [10] (b - a+1) (fun kx v wr=>∃ (k:Nat) (dj:Array α),v = .int .i64 ((k:Int) - 1)∧k≤b - a∧k<kx∧On B lf lb sf sb St w dj wr∧Hid (heapPop lt a k dj=heapPop lt a (b - a) dk))
   case atStart=>exact ⟨b - a,dk,by go_num,zY0t _,zY23 _,hW,rfl⟩
   case round =>
    obtain ⟨j,dj,rfl,hjm,hjx,hW2,HP⟩:=hrel;clear hW;have c1:=hW2.c1
    by_cases h1:j=0
    ·have hz1:¬ (0:Int)≤(j:Int) - 1:=by omega
     go_wp2;go_end0;exact ⟨rfl,by rw [hD.out,← HP.out,h1];exact hW2.st,hW2.fwd⟩
    ·have hz1:(0:Int)≤(j:Int) - 1:=by omega
     obtain ⟨w2,hs,hV⟩:=hW2.swap S hw (i:=a) (j:=a+(j - 1)) (x:=a) (y:=(a:Int)+((j:Int) - 1)) (by omega) (by omega) rfl (by omega);have HS:=Lib.hid hs;clear hs;have hc:=z031 S hV.st (lo:=0) (hi:=j - 1) (first:=a) (by omega) (by omega);rw [show ((j - 1:Nat):Int)=(j:Int) - 1 by omega,show ((0:Nat):Int)=0 from rfl] at hc;have d0:=hV.c0;have d1:=hV.c1;go_wp2_with (first|(rw [HS.out,Oper.upon_value])|(refine hc.mono ?_;rintro e w3 ⟨rfl,hU⟩;simp only [];have hU:=hV.call hw hU;clear hc d0 d1));go_roundg j
     case measure=>omega
     case rel=>exact ⟨j - 1,_,by go_num,by omega,by omega,hU,by show Hid _;rw [← HP.out,z09p lt a j dj h1];exact rfl⟩
  ·have hz:(0:Int)≤(k:Int) - 1:=by omega
   have hc:=z031 S hW.st (lo:=k - 1) (hi:=b - a) (first:=a) (by omega) (by omega);rw [show ((k - 1:Nat):Int)=(k:Int) - 1 by omega,hsz] at hc;go_wp2_with (refine hc.mono ?_;rintro e w3 ⟨rfl,hU⟩;simp only [];have hU:=hW.call hw hU;clear hc);go_roundg k
   case measure=>omega
   case rel=>exact ⟨k - 1,_,by go_num,by omega,by omega,hU,by show Hid _;rw [← HO.out,z05b lt (b - a) a k dk h0];exact rfl⟩
end
end
section
open Go.RowKit Go.Sort
set_option maxRecDepth 100000
set_option maxHeartbeats 4000000
section
variable {α:Type} {n B lf sf:Nat} {lb sb:Array Value} {St:Array α→World→Prop}
structure Cnt (B cb:Nat) (St:Array α→World→Prop) (d:Array α) (s:Nat) (w W:World):Prop where
 st:St d W
 os:W.os=w.os
 tape:W.tape=w.tape
 output:W.output=w.output
 size:w.heap.size≤W.heap.size
 same:∀ b,B≤b→b<w.heap.size→b≠cb→W.heap[b]? = w.heap[b]?
 cn:W.heap[cb]? = some (.cells #[.int .i64 s] 3 (0,0))
theorem Cnt.cc {cb s:Nat} {d:Array α} {w W:World} (h:Cnt B cb St d s w W):W.cell? ⟨cb,0,none⟩=some (.int .i64 s):=by
 unfold World.cell?;rw [h.cn];rfl
theorem Cnt.cf {cb s:Nat} {d:Array α} {w W:World} (h:Cnt B cb St d s w W):W.frozen? ⟨cb,0,none⟩=false:=by
 unfold World.frozen?;rw [h.cn];rfl
theorem Cnt.trans {cb s s':Nat} {d d':Array α} {w W W':World} (h:Cnt B cb St d s w W) (k:Cnt B cb St d' s' W W'):Cnt B cb St d' s' w W' :=
 ⟨k.st,k.os.trans h.os,k.tape.trans h.tape,k.output.trans h.output,zY39 h.size k.size,fun b h1 h2 h3=>(k.same b h1 (zY1h h2 h.size) h3).trans (h.same b h1 h2 h3),k.cn⟩
theorem Cnt.is_lt {cb s:Nat} {d:Array α} {w W:World} (h:Cnt B cb St d s w W):cb<W.heap.size:=by
 have:=h.cn;rw [zY1a] at this;exact this.1
def Bxx (lf:Nat) (lb:Array Value) (sf:Nat) (sb:Array Value) (g:Nat) (W:World):Prop:=W.heap[g]? = some (.cells #[.func (.func lf) #[] lb,.func (.func sf) #[] sb] 116 (0,0))
theorem Bxx.c0 {g:Nat} {W:World} (h:Bxx lf lb sf sb g W):W.cell? ⟨g,0,none⟩=some (.func (.func lf) #[] lb):=by
 unfold World.cell?;rw [show W.heap[g]? = _ from h];rfl
theorem Bxx.c1 {g:Nat} {W:World} (h:Bxx lf lb sf sb g W):W.cell? ⟨g,1,none⟩=some (.func (.func sf) #[] sb):=by
 unfold World.cell?;rw [show W.heap[g]? = _ from h];rfl
theorem Bxx.is_lt {g:Nat} {W:World} (h:Bxx lf lb sf sb g W):g<W.heap.size:=by
 have:W.heap[g]? = _:=h;rw [zY1a] at this;exact this.1
theorem Bxx.to {g cb s:Nat} {d:Array α} {W W':World} (h:Bxx lf lb sf sb g W) (k:Cnt B cb St d s W W') (hg:B≤g) (hne:g≠cb):Bxx lf lb sf sb g W':=(k.same g hg h.is_lt hne).trans h
theorem Cnt.fwd {cb s:Nat} {d:Array α} {w W W':World} (h:Cnt B cb St d s w W) (hcB:B≤cb) (hs:St d W'∧Fwd B W W'):Cnt B cb St d s w W' :=
 ⟨hs.1,hs.2.os.trans h.os,hs.2.tape.trans h.tape,hs.2.output.trans h.output,zY39 h.size hs.2.size,fun b h1 h2 h3=>(hs.2.same b h1 (zY1h h2 h.size)).trans (h.same b h1 h2 h3),(hs.2.same _ hcB h.is_lt).trans h.cn⟩
end
section
variable {α:Type} [Inhabited α] {lt:α→α→Bool} {n B lf sf:Nat} {lb sb:Array Value} {St:Array α→World→Prop}
theorem Cnt.add (S:Srt lt n B lf lb sf sb St) {cb s:Nat} {d:Array α} {w W:World} (h:Cnt B cb St d s w W) (hcB:B≤cb) {s':Nat} {z:Int} (hz:z=(s':Int)):Cnt B cb St d s' w (W.setCell ⟨cb,0,none⟩ (.int .i64 z)):=by
 subst hz;have hl:=h.is_lt;have hsz:(W.setCell ⟨cb,0,none⟩ (.int .i64 (s':Int))).heap.size=W.heap.size:=by simp [World.setCell]
 refine ⟨S.keep h.st ((Below.refl _ _).setCell hcB _),h.os,h.tape,h.output,by rw [hsz];exact h.size,fun b h1 h2 h3=>(heap_setCell_other W _ b _ h3).trans (h.same b h1 h2 h3),?_⟩;have:=heap_setCell_same W cb 0 _ _ (.int .i64 (s':Int)) h.cn;simpa using this
theorem Cnt.start (S:Srt lt n B lf lb sf sb St) {cb s:Nat} {d:Array α} {w:World} (h:St d w) (hc:w.heap[cb]? = some (.cells #[.int .i64 s] 3 (0,0))) (o:Obj):Cnt B cb St d s w (w.alloc o):=by
 have hb:=S.base h;have hl:cb<w.heap.size:=by rw [zY1a] at hc;exact hc.1
 exact ⟨S.keep h ((Below.refl _ _).alloc hb _),rfl,rfl,rfl,by rw [z34];omega,fun b _ h2 _=>z7f _ _ h2,(z7f _ _ hl).trans hc⟩
theorem zez (S:Srt lt n B lf lb sf sb St) {w:World} {d:Array α} (h:St d w) {cb s:Nat} (hcB:B≤cb) (hc:w.heap[cb]? = some (.cells #[.int .i64 s] 3 (0,0))) (hs:s+1<4611686018427387904) {a b:Nat} (ha:a<n) (hb:b<n) :
  Calls Tryz.prog 111 #[.agg #[.func (.func lf) #[] lb,.func (.func sf) #[] sb],.int .i64 a,.int .i64 b,.pointer (some ⟨cb,0,none⟩)] w fun e w'=>e = .returned (.tuple #[.int .i64 ((order2 lt d a b s).1:Nat),.int .i64 ((order2 lt d a b s).2.1:Nat)])∧Cnt B cb St d (order2 lt d a b s).2.2 w w':=by
 have hw:=S.base h;have hl:cb<w.heap.size:=by rw [zY1a] at hc;exact hc.1
 have hC:=Cnt.start S h hc (.cells #[.func (.func lf) #[] lb,.func (.func sf) #[] sb] 116);have hO:=On.start S h;have hbig:=S.big;have eg:=S.enters;have c0:=hO.c0
 cases hl:lt d[b]! d[a]! with
 | true =>
  have hd:=S.less b a hO.st hb ha;rw [hl] at hd;have hv:order2 lt d a b s=(b,a,s+1):=by unfold order2;rw [hl];rfl
  rw [hv];clear hc hv hl hO;go_enter Tryz.func111,Tryz.ntmps111;go_wp2_with (refine hd.mono ?_;rintro e w1 ⟨rfl,hW1⟩;have hC1:=hC.fwd hcB hW1;have cc:=hC1.cc;have cf:=hC1.cf;simp only []);go_ret2;exact ⟨rfl,hC1.add S hcB (by omega)⟩
 | false =>
  have hd:=S.less b a hO.st hb ha;rw [hl] at hd;have hv:order2 lt d a b s=(a,b,s):=by unfold order2;rw [hl];rfl
  rw [hv];clear hc hv hl hO;go_enter Tryz.func111,Tryz.ntmps111;go_wp2_with (refine hd.mono ?_;rintro e w1 ⟨rfl,hW1⟩;have hC1:=hC.fwd hcB hW1;have cc:=hC1.cc;have cf:=hC1.cf;simp only []);go_ret2;exact ⟨rfl,hC1⟩
theorem z6p (lt:α→α→Bool) (d:Array α) {a b s n:Nat} (ha:a<n) (hb:b<n):(order2 lt d a b s).1<n∧(order2 lt d a b s).2.1<n∧(order2 lt d a b s).2.2≤s+1:=by
 unfold order2
 split
 ·exact ⟨hb,ha,zY0t _⟩
 ·exact ⟨ha,hb,by show s≤s+1;omega⟩
theorem zbm (lt:α→α→Bool) (d:Array α) {a b c s n:Nat} (ha:a<n) (hb:b<n) (hc:c<n):(median lt d a b c s).1<n∧(median lt d a b c s).2≤s+3:=by
 unfold median;have h1:=z6p lt d (s:=s) ha hb;have h2:=z6p lt d (s:=(order2 lt d a b s).2.2) h1.2.1 hc;have h3:=z6p lt d (s:=(order2 lt d (order2 lt d a b s).2.1 c (order2 lt d a b s).2.2).2.2) h1.1 h2.1;exact ⟨h3.2.1,by dsimp only;omega⟩
theorem zf0 (S:Srt lt n B lf lb sf sb St) {w:World} {d:Array α} (h:St d w) {cb s:Nat} (hcB:B≤cb) (hc:w.heap[cb]? = some (.cells #[.int .i64 s] 3 (0,0))) (hs:s+3<4611686018427387904) {a b c:Nat} (ha:a<n) (hb:b<n) (hcn:c<n) :
  Calls Tryz.prog 110 #[.agg #[.func (.func lf) #[] lb,.func (.func sf) #[] sb],.int .i64 a,.int .i64 b,.int .i64 c,.pointer (some ⟨cb,0,none⟩)] w fun e w'=>e = .returned (.int .i64 ((median lt d a b c s).1:Nat))∧Cnt B cb St d (median lt d a b c s).2 w w':=by
 have hw:=S.base h;have hl:cb<w.heap.size:=by rw [zY1a] at hc;exact hc.1
 have hC:=Cnt.start S h hc (.cells #[.func (.func lf) #[] lb,.func (.func sf) #[] sb] 116);have hX:Bxx lf lb sf sb w.heap.size (w.alloc (.cells #[.func (.func lf) #[] lb,.func (.func sf) #[] sb] 116)):=z7e _ _;have m1:=z6p lt d (s:=s) ha hb;obtain ⟨a1,b1,s1,e1⟩:∃ a1 b1 s1,order2 lt d a b s=(a1,b1,s1):=⟨_,_,_,rfl⟩
 rw [e1] at m1;obtain ⟨ha1,hb1,hs1⟩:=m1;simp only at ha1 hb1 hs1;have m2:=z6p lt d (s:=s1) hb1 hcn;obtain ⟨b2,c2,s2,e2⟩:∃ a1 c1 s1',order2 lt d b1 c s1=(a1,c1,s1'):=⟨_,_,_,rfl⟩
 rw [e2] at m2;obtain ⟨hb2,hc2,hs2⟩:=m2;simp only at hb2 hc2 hs2;obtain ⟨a3,b3,s3,e3⟩:∃ a3 b3 s3,order2 lt d a1 b2 s2=(a3,b3,s3):=⟨_,_,_,rfl⟩
 have hv:median lt d a b c s=(b3,s3):=by unfold median;simp only [e1,e2,e3]
 rw [hv];have hd1:=zez S hC.st hcB hC.cn (s:=s) (by omega) ha hb;have hd2:=fun W (hC:Cnt B cb St d s1 w W)=>zez S hC.st hcB hC.cn (s:=s1) (by omega) hb1 hcn
 have hd3:=fun W (hC:Cnt B cb St d s2 w W)=>zez S hC.st hcB hC.cn (s:=s2) (by omega) ha1 hb2
 rw [e1] at hd1;simp only [e2,e3] at hd1 hd2 hd3;have H2:=Lib.hid hd2;have H3:=Lib.hid hd3;have c0:=hX.c0;have c1:=hX.c1;clear hd2 hd3 e1 e2 e3 hv hc;go_enter Tryz.func110,Tryz.ntmps110;go_wp2_with (first
  | (refine hd1.mono ?_;rintro e w1 ⟨rfl,hK⟩;clear hd1;have hX1:=hX.to hK hw (by omega);have hC1:=hC.trans hK;have c0:=hX1.c0;have c1:=hX1.c1;have hd2:=H2.out _ hC1;simp only [])
  | (refine hd2.mono ?_;rintro e w2 ⟨rfl,hK2⟩;clear hd2;have hX2:=hX1.to hK2 hw (by omega);have hC2:=hC1.trans hK2;have c0:=hX2.c0;have c1:=hX2.c1;have hd3:=H3.out _ hC2;simp only [])
  | (refine hd3.mono ?_;rintro e w3 ⟨rfl,hK3⟩;have hC3:=hC2.trans hK3;simp only []))
 go_ret;exact ⟨rfl,hC3⟩
theorem zf1 (S:Srt lt n B lf lb sf sb St) {w:World} {d:Array α} (h:St d w) {cb s:Nat} (hcB:B≤cb) (hc:w.heap[cb]? = some (.cells #[.int .i64 s] 3 (0,0))) (hs:s+3<4611686018427387904) {a:Nat} (ha:1≤a) (ha1:a+1<n) :
  Calls Tryz.prog 109 #[.agg #[.func (.func lf) #[] lb,.func (.func sf) #[] sb],.int .i64 a,.pointer (some ⟨cb,0,none⟩)] w fun e w'=>e = .returned (.int .i64 ((medianAdjacent lt d a s).1:Nat))∧Cnt B cb St d (medianAdjacent lt d a s).2 w w':=by
 have hw:=S.base h;have hl:cb<w.heap.size:=by rw [zY1a] at hc;exact hc.1
 have hC:=Cnt.start S h hc (.cells #[.func (.func lf) #[] lb,.func (.func sf) #[] sb] 116);have hX:Bxx lf lb sf sb w.heap.size (w.alloc (.cells #[.func (.func lf) #[] lb,.func (.func sf) #[] sb] 116)):=z7e _ _;have hd1:=zf0 S hC.st hcB hC.cn (s:=s) (a:=a - 1) (b:=a) (c:=a+1) (by omega) (by omega) (by omega) (by omega);rw [show ((a - 1:Nat):Int)=(a:Int) - 1 by omega,show ((a+1:Nat):Int)=(a:Int)+1 by omega] at hd1;have hbig:=S.big;unfold medianAdjacent;generalize median lt d (a - 1) a (a+1) s=r at *;have c0:=hX.c0;have c1:=hX.c1;clear hc;go_enter Tryz.func109,Tryz.ntmps109;go_wp2_with (refine hd1.mono ?_;rintro e w1 ⟨rfl,hK⟩;clear hd1;have hC1:=hC.trans hK;simp only []);go_ret;exact ⟨rfl,hC1⟩
def z58:Go.Sort.Hint→Int
 | .unknown=>0
 | .increasing=>1
 | .decreasing=>2
theorem z032 (lt:α→α→Bool) (d:Array α) (a b:Nat) {p s:Nat} (h:(if b - a ≥ 8 then (if b - a ≥ 50 then
  median lt d (medianAdjacent lt d (a+(b - a) / 4 * 1) 0).1 (medianAdjacent lt d (a+(b - a) / 4 * 2) (medianAdjacent lt d (a+(b - a) / 4 * 1) 0).2).1 (medianAdjacent lt d (a+(b - a) / 4 * 3) (medianAdjacent lt d (a+(b - a) / 4 * 2) (medianAdjacent lt d (a+(b - a) / 4 * 1) 0).2).2).1 (medianAdjacent lt d (a+(b - a) / 4 * 3) (medianAdjacent lt d (a+(b - a) / 4 * 2) (medianAdjacent lt d (a+(b - a) / 4 * 1) 0).2).2).2
  else median lt d (a+(b - a) / 4 * 1) (a+(b - a) / 4 * 2) (a+(b - a) / 4 * 3) 0) else (a+(b - a) / 4 * 2,0))=(p,s)) :
  choosePivot lt d a b=(p,if s=0 then .increasing else if s=12 then .decreasing else .unknown):=by
 unfold choosePivot;simp only [h]
theorem z033 {s:Nat} (h:s=0):z58 (if s=0 then Go.Sort.Hint.increasing else if s=12 then .decreasing else .unknown)=1:=by rw [if_pos h];rfl
theorem zys {s:Nat} (h:s≠0) (h':s=12):z58 (if s=0 then Go.Sort.Hint.increasing else if s=12 then .decreasing else .unknown)=2:=by rw [if_neg h,if_pos h'];rfl
theorem z034 {s:Nat} (h:s≠0) (h':s≠12):z58 (if s=0 then Go.Sort.Hint.increasing else if s=12 then .decreasing else .unknown)=0:=by rw [if_neg h,if_neg h'];rfl
theorem Cnt.new (S:Srt lt n B lf lb sf sb St) {w:World} {d:Array α} (h:St d w) (o:Obj):Cnt B (w.heap.size+1) St d 0 ((w.alloc o).alloc (.cells #[.int .i64 0] 3)) ((w.alloc o).alloc (.cells #[.int .i64 0] 3)):=by
 have hb:=S.base h;refine ⟨S.keep h (((Below.refl _ _).alloc hb _).alloc (by rw [z34];omega) _),rfl,rfl,rfl,zY0t _,fun _ _ _ _=>rfl,?_⟩;have:=z7e (w.alloc o) (.cells #[.int .i64 0] 3);rw [z34] at this;exact this
theorem Cnt.done (S:Srt lt n B lf lb sf sb St) {w:World} {s:Nat} {d:Array α} {W:World} {o o':Obj} (hw:B≤w.heap.size) (h:Cnt B (w.heap.size+1) St d s ((w.alloc o).alloc o') W):St d W∧Fwd B w W:=by
 have h1:=h.size;rw [z34,z34] at h1;refine ⟨h.st,h.os,h.tape,h.output,by omega,fun b h2 h3=>(h.same b h2 (by rw [z34,z34];omega) (by omega)).trans ?_⟩;rw [z7f _ _ (by rw [z34];omega),z7f _ _ h3]
theorem z05c (S:Srt lt n B lf lb sf sb St) {w:World} {d:Array α} (h:St d w) {a b:Nat} (hab:a<b) (hb:b≤n) :
  Calls Tryz.prog 88 #[.agg #[.func (.func lf) #[] lb,.func (.func sf) #[] sb],.int .i64 a,.int .i64 b] w fun e w'=>e = .returned (.tuple #[.int .i64 ((choosePivot lt d a b).1:Nat),.int .i64 (z58 (choosePivot lt d a b).2)])∧St d w'∧Fwd B w w':=by
 have hw:=S.base h;have hC0:=Cnt.new S h (.cells #[.func (.func lf) #[] lb,.func (.func sf) #[] sb] 116);have hX0:Bxx lf lb sf sb w.heap.size ((w.alloc (.cells #[.func (.func lf) #[] lb,.func (.func sf) #[] sb] 116)).alloc (.cells #[.int .i64 0] 3)):=(z7f _ _ (by rw [z34];omega)).trans (z7e _ _);have hbig:=S.big;have hcB:B≤w.heap.size+1:=by omega
 have hg:w.heap.size≠w.heap.size+1:=by omega
 have he:=fun p s=>@z032 α _ lt d a b p s
 obtain ⟨I,hI⟩:∃ I:Nat,I=a+(b - a) / 4 * 1:=⟨_,rfl⟩
 obtain ⟨J,hJ⟩:∃ J:Nat,J=a+(b - a) / 4 * 2:=⟨_,rfl⟩
 obtain ⟨K,hK⟩:∃ K:Nat,K=a+(b - a) / 4 * 3:=⟨_,rfl⟩
 rw [← hI,← hJ,← hK] at he;have eI:((a:Int)+((b:Int) - (a:Int)) / 4)=(I:Int):=by omega
 have eJ:((a:Int)+((b:Int) - (a:Int)) / 4 * 2)=(J:Int):=by omega
 have eK:((a:Int)+((b:Int) - (a:Int)) / 4 * 3)=(K:Int):=by omega
 by_cases h8:b - a ≥ 8
 rotate_left
 ·have hr:=he J 0 (by rw [if_neg h8])
  rw [hr,show z58 (if 0=0 then Go.Sort.Hint.increasing else if 0=12 then .decreasing else .unknown)=1 from rfl];have z8:¬ (8:Int)≤(b:Int) - (a:Int):=by omega
  clear he hr hI hJ hK;go_enter Tryz.func88,Tryz.ntmps88;go_wp2;go_ret2;exact ⟨rfl,hC0.done S hw⟩
 have z8:(8:Int)≤(b:Int) - (a:Int):=by omega
 have hIn:I+1<n:=by omega
 have hJn:J+1<n:=by omega
 have hKn:K+1<n:=by omega
 have hI1:1≤I:=by omega
 have hJ1:1≤J:=by omega
 have hK1:1≤K:=by omega
 by_cases h50:b - a ≥ 50
 ·have z50:(50:Int)≤(b:Int) - (a:Int):=by omega
  obtain ⟨i1,s1,e1⟩:∃ i1 s1,medianAdjacent lt d I 0=(i1,s1):=⟨_,_,rfl⟩
  obtain ⟨j1,s2,e2⟩:∃ j1 s2,medianAdjacent lt d J s1=(j1,s2):=⟨_,_,rfl⟩
  obtain ⟨k1,s3,e3⟩:∃ k1 s3,medianAdjacent lt d K s2=(k1,s3):=⟨_,_,rfl⟩
  obtain ⟨p,s,e4⟩:∃ p s,median lt d i1 j1 k1 s3=(p,s):=⟨_,_,rfl⟩
  have m1:=zbm lt d (a:=I - 1) (b:=I) (c:=I+1) (s:=0) (n:=n) (by omega) (by omega) (by omega);rw [show median lt d (I - 1) I (I+1) 0=(i1,s1) from e1] at m1;have m2:=zbm lt d (a:=J - 1) (b:=J) (c:=J+1) (s:=s1) (n:=n) (by omega) (by omega) (by omega);rw [show median lt d (J - 1) J (J+1) s1=(j1,s2) from e2] at m2;have m3:=zbm lt d (a:=K - 1) (b:=K) (c:=K+1) (s:=s2) (n:=n) (by omega) (by omega) (by omega);rw [show median lt d (K - 1) K (K+1) s2=(k1,s3) from e3] at m3;simp only at m1 m2 m3;have hr:=he p s (by rw [if_pos h8,if_pos h50,e1,e2,e3];exact e4);rw [hr];clear he hr;obtain ⟨Hc,hHc⟩:∃ Hc:Int,Hc=z58 (if s=0 then Go.Sort.Hint.increasing else if s=12 then .decreasing else .unknown):=⟨_,rfl⟩
  have hh0:s=0→Hc=1:=fun h=>by rw [hHc,z033 h]
  have hh12:s=12→Hc=2:=fun h=>by rw [hHc,zys (by omega) h]
  have hhx:s≠0→s≠12→Hc=0:=fun h1 h2=>by rw [hHc,z034 h1 h2]
  show Calls _ _ _ _ fun e w'=>e = .returned (.tuple #[.int .i64 (p:Nat),.int .i64 (z58 (if s=0 then Go.Sort.Hint.increasing else if s=12 then .decreasing else .unknown))])∧_
  rw [← hHc];clear hHc;have hd1:=zf1 S hC0.st hcB hC0.cn (s:=0) (a:=I) (by omega) hI1 hIn;have hd2:=fun W (hC:Cnt B (w.heap.size+1) St d s1 _ W)=>zf1 S (Cnt.st (w:=(w.alloc (.cells #[.func (.func lf) #[] lb,.func (.func sf) #[] sb] 116)).alloc (.cells #[.int .i64 0] 3)) hC) hcB hC.cn (s:=s1) (a:=J) (by omega) hJ1 hJn
  have hd3:=fun W (hC:Cnt B (w.heap.size+1) St d s2 _ W)=>zf1 S (Cnt.st (w:=(w.alloc (.cells #[.func (.func lf) #[] lb,.func (.func sf) #[] sb] 116)).alloc (.cells #[.int .i64 0] 3)) hC) hcB hC.cn (s:=s2) (a:=K) (by omega) hK1 hKn
  have hd4:=fun W (hC:Cnt B (w.heap.size+1) St d s3 _ W)=>zf0 S (Cnt.st (w:=(w.alloc (.cells #[.func (.func lf) #[] lb,.func (.func sf) #[] sb] 116)).alloc (.cells #[.int .i64 0] 3)) hC) hcB hC.cn (s:=s3) (a:=i1) (b:=j1) (c:=k1) (by omega) m1.1 m2.1 m3.1
  simp only [e1,e2,e3,e4] at hd1 hd2 hd3 hd4;have H2:=Lib.hid hd2;have H3:=Lib.hid hd3;have H4:=Lib.hid hd4;clear hd2 hd3 hd4 e1 e2 e3 e4 hI hJ hK m1 m2 m3;have c0:=hX0.c0;have c1:=hX0.c1;go_enter Tryz.func88,Tryz.ntmps88;go_wp2_with (first
   | (refine hd1.mono ?_;rintro e w1 ⟨rfl,hQ1⟩;clear hd1 c0 c1;have hX1:=hX0.to hQ1 hw hg;have hC1:=hC0.trans hQ1;have c0:=hX1.c0;have c1:=hX1.c1;have hd2:=H2.out _ hC1;simp only [])
   | (refine hd2.mono ?_;rintro e w2 ⟨rfl,hQ2⟩;clear hd2 c0 c1;have hX2:=hX1.to hQ2 hw hg;have hC2:=hC1.trans hQ2;have c0:=hX2.c0;have c1:=hX2.c1;have hd3:=H3.out _ hC2;simp only [])
   | (refine hd3.mono ?_;rintro e w3 ⟨rfl,hQ3⟩;clear hd3 c0 c1;have hX3:=hX2.to hQ3 hw hg;have hC3:=hC2.trans hQ3;have c0:=hX3.c0;have c1:=hX3.c1;have hd4:=H4.out _ hC3;simp only [])
   | (refine hd4.mono ?_;rintro e w4 ⟨rfl,hQ4⟩;clear hd4 c0 c1;have hC4:=hC3.trans hQ4;have cc:=hC4.cc;simp only []))
  all_goals
   go_ret2;refine ⟨?_,hC4.done S hw⟩
   first
    | (rw [hh0 (by first|assumption|(have y:=‹((s:Int) == 0)=true›;simp at y;omega))];rfl)
    | (rw [hh12 (by first|assumption|(have y:=‹((s:Int) == 12)=true›;simp at y;omega))];rfl)
    | (rw [hhx (by first|assumption|(have y:=‹((s:Int) == 0)=false›;simp at y;omega)) (by first|assumption|(have y:=‹((s:Int) == 12)=false›;simp at y;omega))];rfl)
 ·have z50:¬ (50:Int)≤(b:Int) - (a:Int):=by omega
  obtain ⟨p,s,e4⟩:∃ p s,median lt d I J K 0=(p,s):=⟨_,_,rfl⟩
  have hr:=he p s (by rw [if_pos h8,if_neg h50];exact e4);rw [hr];clear he hr;obtain ⟨Hc,hHc⟩:∃ Hc:Int,Hc=z58 (if s=0 then Go.Sort.Hint.increasing else if s=12 then .decreasing else .unknown):=⟨_,rfl⟩
  have hh0:s=0→Hc=1:=fun h=>by rw [hHc,z033 h]
  have hh12:s=12→Hc=2:=fun h=>by rw [hHc,zys (by omega) h]
  have hhx:s≠0→s≠12→Hc=0:=fun h1 h2=>by rw [hHc,z034 h1 h2]
  show Calls _ _ _ _ fun e w'=>e = .returned (.tuple #[.int .i64 (p:Nat),.int .i64 (z58 (if s=0 then Go.Sort.Hint.increasing else if s=12 then .decreasing else .unknown))])∧_
  rw [← hHc];clear hHc;have hd4:=zf0 S hC0.st hcB hC0.cn (s:=0) (a:=I) (b:=J) (c:=K) (by omega) (by omega) (by omega) (by omega);rw [e4] at hd4;clear e4 hI hJ hK;have c0:=hX0.c0;have c1:=hX0.c1;go_enter Tryz.func88,Tryz.ntmps88;go_wp2_with (refine hd4.mono ?_;rintro e w4 ⟨rfl,hQ4⟩;clear hd4 c0 c1;have hC4:=hC0.trans hQ4;have cc:=hC4.cc;simp only [])
  all_goals
   go_ret2;refine ⟨?_,hC4.done S hw⟩
   first
    | (rw [hh0 (by first|assumption|(have y:=‹((s:Int) == 0)=true›;simp at y;omega))];rfl)
    | (rw [hh12 (by first|assumption|(have y:=‹((s:Int) == 12)=true›;simp at y;omega))];rfl)
    | (rw [hhx (by first|assumption|(have y:=‹((s:Int) == 0)=false›;simp at y;omega)) (by first|assumption|(have y:=‹((s:Int) == 12)=false›;simp at y;omega))];rfl)
end
end
section
open Go.RowKit Go.Sort
set_option maxRecDepth 100000
set_option maxHeartbeats 4000000
section
variable {α:Type} [Inhabited α] {lt:α→α→Bool} {n B lf sf:Nat} {lb sb:Array Value} {St:Array α→World→Prop}
theorem z008 (p:α→Bool) (d:Array α) (j i:Nat) (h:(decide (i≤j) && p d[i]!)=true):scanUp p d j i=scanUp p d j (i+1):=by rw [scanUp,if_pos h]
theorem zp7 (p:α→Bool) (d:Array α) (j i:Nat) (h:(decide (i≤j) && p d[i]!)=false):scanUp p d j i=i:=by rw [scanUp,if_neg (by rw [h];exact zY33)]
theorem zhs (p:α→Bool) (d:Array α) (i j:Nat) (h0:1≤j) (h:(decide (i≤j) && p d[j]!)=true):scanDown p d i j=scanDown p d i (j - 1):=by
 obtain ⟨k,rfl⟩:∃ k,j=k+1:=⟨j - 1,by omega⟩
 rw [scanDown,if_pos h];rfl
theorem zf2 (p:α→Bool) (d:Array α) (i j:Nat) (h:(decide (i≤j) && p d[j]!)=false):scanDown p d i j=j:=by
 cases j with
 | zero=>rfl
 | succ k=>rw [scanDown,if_neg (by rw [h];exact zY33)]
theorem zws {a i j i2 j2:Nat} {d:Array α} (h1:scanUp (fun x=>lt x d[a]!) d j i=i2) (h2:scanDown (fun x => !lt x d[a]!) d i2 j=j2) (h:i2≤j2) (hi:i≤i2) (hj:j2≤j) (h0:1≤i2):partLoop lt a i j d=partLoop lt a (i2+1) (j2 - 1) (swp d i2 j2):=by
 rw [partLoop,h1];simp only [h2];rw [if_neg (by omega),dif_pos (by omega)]
theorem zp8 {a i j i2 j2:Nat} {d:Array α} (h1:scanUp (fun x=>lt x d[a]!) d j i=i2) (h2:scanDown (fun x => !lt x d[a]!) d i2 j=j2) (h:¬ i2≤j2):partLoop lt a i j d=(j2,d):=by
 rw [partLoop,h1];simp only [h2];rw [if_pos (by omega)]
theorem z035 {a i j i2 j2:Nat} {d:Array α} (h1:scanUp (fun x => !lt d[a]! x) d j i=i2) (h2:scanDown (fun x=>lt d[a]! x) d i2 j=j2) (h:i2≤j2) (hi:i≤i2) (hj:j2≤j) (h0:1≤i2):partEqLoop lt a i j d=partEqLoop lt a (i2+1) (j2 - 1) (swp d i2 j2):=by
 rw [partEqLoop,h1];simp only [h2];rw [if_neg (by omega),dif_pos (by omega)]
theorem z009 {a i j i2 j2:Nat} {d:Array α} (h1:scanUp (fun x => !lt d[a]! x) d j i=i2) (h2:scanDown (fun x=>lt d[a]! x) d i2 j=j2) (h:¬ i2≤j2):partEqLoop lt a i j d=(i2,d):=by
 rw [partEqLoop,h1];simp only [h2];rw [if_pos (by omega)]
theorem z05d (S:Srt lt n B lf lb sf sb St) {w:World} {d:Array α} (h:St d w) {a b pivot:Nat} (hab:a<b) (hb:b≤n) (hp:pivot<n) :
  Calls Tryz.prog 91 #[.agg #[.func (.func lf) #[] lb,.func (.func sf) #[] sb],.int .i64 a,.int .i64 b,.int .i64 pivot] w fun e w'=>e = .returned (.int .i64 ((partitionEqual lt d a b pivot).1:Nat))∧St (partitionEqual lt d a b pivot).2 w'∧Fwd B w w':=by
 have hw:=S.base h;have hO:=On.start S h;have hbig:=S.big;have eg:=S.enters;have c1:=hO.c1;obtain ⟨w2,hs,hV⟩:=hO.swap S hw (i:=a) (j:=pivot) (x:=a) (y:=pivot) (by omega) (by omega) rfl rfl;have HS:=Lib.hid hs;clear hs;go_enter Tryz.func91,Tryz.ntmps91;go_wp2_with (rw [HS.out,Oper.upon_value]);clear hO c1 HS;go_loopg [9,10] b (fun kx vi vj wr=>∃ (i j:Nat) (dk:Array α),vi = .int .i64 i∧vj = .int .i64 j∧a+1≤i∧i≤n∧j<b∧j<kx∧On B lf lb sf sb St w dk wr∧Hid (partEqLoop lt a i j dk=partEqLoop lt a (a+1) (b - 1) (swp d a pivot)))
 case atStart=>exact ⟨a+1,b - 1,_,by go_num,by go_num,by omega,by omega,by omega,by omega,hV,rfl⟩
 case round =>
  obtain ⟨i,j,dk,rfl,rfl,hai,hin,hjb,hkx,hW,HO⟩:=hrel;clear hV;go_wp2;go_loopg [9] (n+1) (fun kx v wr=>∃ i2:Nat,v = .int .i64 i2∧i≤i2∧i2≤n∧n - i2<kx∧On B lf lb sf sb St w dk wr∧Hid (scanUp (fun x => !lt dk[a]! x) dk j i2=scanUp (fun x => !lt dk[a]! x) dk j (i)))
  case atStart=>exact ⟨i,rfl,by omega,by omega,by omega,hW,rfl⟩
  case round =>
   obtain ⟨i2,rfl,hi20,hi21,hki2,hi2W,Hi2⟩:=hrel;clear hW;have c0:=hi2W.c0;go_upto_region 3 with fail
   go_cut [30] (fun c wx=>c = .bool (decide (i2≤j) && (fun x => !lt dk[a]! x) dk[i2]!)∧On B lf lb sf sb St w dk wx)
   case first =>
    by_cases hz:i2≤j
    ·have hzz:(i2:Int)≤((j:Nat):Int):=by omega
     cases hl:lt dk[a]! dk[i2]! with
     | true =>
      have hc:=hi2W.less S hw (i:=a) (j:=i2) (x:=a) (y:=i2) (by omega) (by omega) rfl rfl hl;have HL:=Lib.hid hl;clear hl;go_wp2_with (refine hc.mono ?_;rintro e w1 ⟨rfl,hU⟩;simp only [];clear hc);go_meet;exact ⟨by rw [decide_eq_true hz];show _=Value.bool (true && !lt dk[a]! dk[i2]!);rw [HL.out];rfl,hU⟩
     | false =>
      have hc:=hi2W.less S hw (i:=a) (j:=i2) (x:=a) (y:=i2) (by omega) (by omega) rfl rfl hl;have HL:=Lib.hid hl;clear hl;go_wp2_with (refine hc.mono ?_;rintro e w1 ⟨rfl,hU⟩;simp only [];clear hc);go_meet;exact ⟨by rw [decide_eq_true hz];show _=Value.bool (true && !lt dk[a]! dk[i2]!);rw [HL.out];rfl,hU⟩
    ·have hzz:¬ (i2:Int)≤((j:Nat):Int):=by omega
     go_wp2_with fail;go_meet;exact ⟨by rw [decide_eq_false hz];rfl,hi2W⟩
   case rest =>
    obtain ⟨rfl,hi2X⟩:=hcut;clear hi2W c0
    cases hb:(decide (i2≤j) && (fun x => !lt dk[a]! x) dk[i2]!) with
    | true =>
     have HB:=Lib.hid hb;have hi2J:i2≤j:=by (rw [zY0c] at hb;exact of_decide_eq_true hb.1)
     clear hb;go_wp2;go_roundg (n - i2)
     case measure=>omega
     case rel=>exact ⟨i2+1,by go_num,by omega,by omega,by omega,hi2X,by show Hid _;rw [← Hi2.out,z008 (fun x => !lt dk[a]! x) dk (j) i2 HB.out];exact rfl⟩
    | false =>
     have Ei2:Hid (scanUp (fun x => !lt dk[a]! x) dk j (i)=i2):=by (show _=_;rw [← Hi2.out,zp7 (fun x => !lt dk[a]! x) dk (j) i2 hb])
     clear hb Hi2;go_wp2;go_loopg [10] (j+1) (fun ky v wr=>∃ j2:Nat,v = .int .i64 j2∧j2≤j∧j2<ky∧On B lf lb sf sb St w dk wr∧Hid (scanDown (fun x=>lt dk[a]! x) dk i2 j2=scanDown (fun x=>lt dk[a]! x) dk i2 (j)))
     case atStart=>exact ⟨j,rfl,zY0t _,zY23 _,hi2X,rfl⟩
     case round =>
      obtain ⟨j2,rfl,hj20,hkj2,hj2W,Hj2⟩:=hrel;clear hi2X;have c0:=hj2W.c0;go_upto_region 5 with fail
      go_cut [42] (fun c wx=>c = .bool (decide (i2≤j2) && (fun x=>lt dk[a]! x) dk[j2]!)∧On B lf lb sf sb St w dk wx)
      case first =>
       by_cases hz:i2≤j2
       ·have hzz:(i2:Int)≤(j2:Int):=by omega
        cases hl:lt dk[a]! dk[j2]! with
        | true =>
         have hc:=hj2W.less S hw (i:=a) (j:=j2) (x:=a) (y:=j2) (by omega) (by omega) rfl rfl hl;have HL:=Lib.hid hl;clear hl;go_wp2_with (refine hc.mono ?_;rintro e w1 ⟨rfl,hU⟩;simp only [];clear hc);go_meet;exact ⟨by rw [decide_eq_true hz];show _=Value.bool (true && lt dk[a]! dk[j2]!);rw [HL.out];rfl,hU⟩
        | false =>
         have hc:=hj2W.less S hw (i:=a) (j:=j2) (x:=a) (y:=j2) (by omega) (by omega) rfl rfl hl;have HL:=Lib.hid hl;clear hl;go_wp2_with (refine hc.mono ?_;rintro e w1 ⟨rfl,hU⟩;simp only [];clear hc);go_meet;exact ⟨by rw [decide_eq_true hz];show _=Value.bool (true && lt dk[a]! dk[j2]!);rw [HL.out];rfl,hU⟩
       ·have hzz:¬ (i2:Int)≤(j2:Int):=by omega
        go_wp2_with fail;go_meet;exact ⟨by rw [decide_eq_false hz];rfl,hj2W⟩
      case rest =>
       obtain ⟨rfl,hj2X⟩:=hcut;clear hj2W c0
       cases hb:(decide (i2≤j2) && (fun x=>lt dk[a]! x) dk[j2]!) with
       | true =>
        have HB:=Lib.hid hb;have hj2J:i2≤j2:=by (rw [zY0c] at hb;exact of_decide_eq_true hb.1)
        clear hb;go_wp2;go_roundg j2
        case measure=>omega
        case rel=>exact ⟨j2 - 1,by go_num,by omega,by omega,hj2X,by show Hid _;rw [← Hj2.out,zhs (fun x=>lt dk[a]! x) dk i2 j2 (by omega) HB.out];exact rfl⟩
       | false =>
        have Ej2:Hid (scanDown (fun x=>lt dk[a]! x) dk i2 (j)=j2):=by (show _=_;rw [← Hj2.out,zf2 (fun x=>lt dk[a]! x) dk i2 j2 hb])
        clear hb Hj2
        by_cases hz:i2≤j2
        ·have hzz:¬ ((j2:Nat):Int)<(i2:Int):=by omega
         have c1:=hj2X.c1;obtain ⟨w2,hs,hV⟩:=hj2X.swap S hw (i:=i2) (j:=j2) (x:=i2) (y:=j2) (by omega) (by omega) rfl rfl;have HS:=Lib.hid hs;clear hs;go_wp2_with (rw [HS.out,Oper.upon_value]);go_roundg j
         case measure=>omega
         case rel=>exact ⟨i2+1,j2 - 1,_,by go_num,by go_num,by omega,by omega,by omega,by omega,hV,by show Hid _;rw [← HO.out,z035 Ei2.out Ej2.out hz (by omega) (by omega) (by omega)];exact rfl⟩
        ·have hzz:((j2:Nat):Int)<(i2:Int):=by omega
         go_wp2;go_ret;have hv:partEqLoop lt a (a+1) (b - 1) (swp d a pivot)=(i2,dk):=by rw [← HO.out];exact z009 Ei2.out Ej2.out hz
         refine ⟨?_,?_,hj2X.fwd⟩
         ·unfold partitionEqual;rw [hv];rfl
         ·unfold partitionEqual;rw [hv];exact hj2X.st
theorem z05e (lt:α→α→Bool) (d:Array α) (a b p:Nat) {i j:Nat} (h1:scanUp (fun x=>lt x (swp d a p)[a]!) (swp d a p) (b - 1) (a+1)=i) (h2:scanDown (fun x => !lt x (swp d a p)[a]!) (swp d a p) i (b - 1)=j) (h:¬ i≤j):partition lt d a b p=(j,true,swp (swp d a p) j a):=by
 unfold partition;simp only [h1,h2];rw [if_pos (by omega)]
theorem z07l (lt:α→α→Bool) (d:Array α) (a b p:Nat) {i j:Nat} (h1:scanUp (fun x=>lt x (swp d a p)[a]!) (swp d a p) (b - 1) (a+1)=i) (h2:scanDown (fun x => !lt x (swp d a p)[a]!) (swp d a p) i (b - 1)=j) (h:i≤j):partition lt d a b p=((partLoop lt a (i+1) (j - 1) (swp (swp d a p) i j)).1,false,swp (partLoop lt a (i+1) (j - 1) (swp (swp d a p) i j)).2 (partLoop lt a (i+1) (j - 1) (swp (swp d a p) i j)).1 a):=by
 unfold partition;simp only [h1,h2];rw [if_neg (by omega)]
theorem z09r (S:Srt lt n B lf lb sf sb St) {w:World} {d:Array α} (h:St d w) {a b pivot:Nat} (hab:a<b) (hb:b≤n) (hp:pivot<n) :
  Calls Tryz.prog 92 #[.agg #[.func (.func lf) #[] lb,.func (.func sf) #[] sb],.int .i64 a,.int .i64 b,.int .i64 pivot] w fun e w'=>e = .returned (.tuple #[.int .i64 ((partition lt d a b pivot).1:Nat),.bool (partition lt d a b pivot).2.1])∧St (partition lt d a b pivot).2.2 w'∧Fwd B w w':=by
 have hw:=S.base h;have hO:=On.start S h;have hbig:=S.big;have eg:=S.enters;have c1:=hO.c1;obtain ⟨w2,hs,hV⟩:=hO.swap S hw (i:=a) (j:=pivot) (x:=a) (y:=pivot) (by omega) (by omega) rfl rfl;have HS:=Lib.hid hs;clear hs;go_enter Tryz.func92,Tryz.ntmps92;go_wp2_with (rw [HS.out,Oper.upon_value]);clear hO c1 HS;go_loopg [10] (n+1) (fun kx v wr=>∃ i0:Nat,v = .int .i64 i0∧(a+1)≤i0∧i0≤n∧n - i0<kx∧On B lf lb sf sb St w (swp d a pivot) wr∧Hid (scanUp (fun x=>lt x (swp d a pivot)[a]!) (swp d a pivot) (b - 1) i0=scanUp (fun x=>lt x (swp d a pivot)[a]!) (swp d a pivot) (b - 1) ((a+1))))
 case atStart=>exact ⟨(a+1),by go_num,by omega,by omega,by omega,hV,rfl⟩
 case round =>
  obtain ⟨i0,rfl,hi00,hi01,hki0,hi0W,Hi0⟩:=hrel;clear hV;have c0:=hi0W.c0;go_upto_region 3 with fail
  go_cut [30] (fun c wx=>c = .bool (decide (i0≤(b - 1)) && (fun x=>lt x (swp d a pivot)[a]!) (swp d a pivot)[i0]!)∧On B lf lb sf sb St w (swp d a pivot) wx)
  case first =>
   by_cases hz:i0≤(b - 1)
   ·have hzz:(i0:Int)≤(((b - 1):Nat):Int):=by omega
    cases hl:lt (swp d a pivot)[i0]! (swp d a pivot)[a]! with
    | true =>
     have hc:=hi0W.less S hw (i:=i0) (j:=a) (x:=i0) (y:=a) (by omega) (by omega) rfl rfl hl;have HL:=Lib.hid hl;clear hl;go_wp2_with (refine hc.mono ?_;rintro e w1 ⟨rfl,hU⟩;simp only [];clear hc);go_meet;exact ⟨by rw [decide_eq_true hz];show _=Value.bool (true && lt (swp d a pivot)[i0]! (swp d a pivot)[a]!);rw [HL.out];rfl,hU⟩
    | false =>
     have hc:=hi0W.less S hw (i:=i0) (j:=a) (x:=i0) (y:=a) (by omega) (by omega) rfl rfl hl;have HL:=Lib.hid hl;clear hl;go_wp2_with (refine hc.mono ?_;rintro e w1 ⟨rfl,hU⟩;simp only [];clear hc);go_meet;exact ⟨by rw [decide_eq_true hz];show _=Value.bool (true && lt (swp d a pivot)[i0]! (swp d a pivot)[a]!);rw [HL.out];rfl,hU⟩
   ·have hzz:¬ (i0:Int)≤(((b - 1):Nat):Int):=by omega
    go_wp2_with fail;go_meet;exact ⟨by rw [decide_eq_false hz];rfl,hi0W⟩
  case rest =>
   obtain ⟨rfl,hi0X⟩:=hcut;clear hi0W c0
   cases hb:(decide (i0≤(b - 1)) && (fun x=>lt x (swp d a pivot)[a]!) (swp d a pivot)[i0]!) with
   | true =>
    have HB:=Lib.hid hb;have hi0J:i0≤(b - 1):=by (rw [zY0c] at hb;exact of_decide_eq_true hb.1)
    clear hb;go_wp2;go_roundg (n - i0)
    case measure=>omega
    case rel=>exact ⟨i0+1,by go_num,by omega,by omega,by omega,hi0X,by show Hid _;rw [← Hi0.out,z008 (fun x=>lt x (swp d a pivot)[a]!) (swp d a pivot) ((b - 1)) i0 HB.out];exact rfl⟩
   | false =>
    have Ei0:Hid (scanUp (fun x=>lt x (swp d a pivot)[a]!) (swp d a pivot) (b - 1) ((a+1))=i0):=by (show _=_;rw [← Hi0.out,zp7 (fun x=>lt x (swp d a pivot)[a]!) (swp d a pivot) ((b - 1)) i0 hb])
    clear hb Hi0;go_wp2;go_loopg [11] ((b - 1)+1) (fun ky v wr=>∃ j0:Nat,v = .int .i64 j0∧j0≤(b - 1)∧j0<ky∧On B lf lb sf sb St w (swp d a pivot) wr∧Hid (scanDown (fun x => !lt x (swp d a pivot)[a]!) (swp d a pivot) i0 j0=scanDown (fun x => !lt x (swp d a pivot)[a]!) (swp d a pivot) i0 ((b - 1))))
    case atStart=>exact ⟨(b - 1),by go_num,zY0t _,zY23 _,hi0X,rfl⟩
    case round =>
     obtain ⟨j0,rfl,hj00,hkj0,hj0W,Hj0⟩:=hrel;clear hi0X;have c0:=hj0W.c0;go_upto_region 5 with fail
     go_cut [43] (fun c wx=>c = .bool (decide (i0≤j0) && (fun x => !lt x (swp d a pivot)[a]!) (swp d a pivot)[j0]!)∧On B lf lb sf sb St w (swp d a pivot) wx)
     case first =>
      by_cases hz:i0≤j0
      ·have hzz:(i0:Int)≤(j0:Int):=by omega
       cases hl:lt (swp d a pivot)[j0]! (swp d a pivot)[a]! with
       | true =>
        have hc:=hj0W.less S hw (i:=j0) (j:=a) (x:=j0) (y:=a) (by omega) (by omega) rfl rfl hl;have HL:=Lib.hid hl;clear hl;go_wp2_with (refine hc.mono ?_;rintro e w1 ⟨rfl,hU⟩;simp only [];clear hc);go_meet;exact ⟨by rw [decide_eq_true hz];show _=Value.bool (true && !lt (swp d a pivot)[j0]! (swp d a pivot)[a]!);rw [HL.out];rfl,hU⟩
       | false =>
        have hc:=hj0W.less S hw (i:=j0) (j:=a) (x:=j0) (y:=a) (by omega) (by omega) rfl rfl hl;have HL:=Lib.hid hl;clear hl;go_wp2_with (refine hc.mono ?_;rintro e w1 ⟨rfl,hU⟩;simp only [];clear hc);go_meet;exact ⟨by rw [decide_eq_true hz];show _=Value.bool (true && !lt (swp d a pivot)[j0]! (swp d a pivot)[a]!);rw [HL.out];rfl,hU⟩
      ·have hzz:¬ (i0:Int)≤(j0:Int):=by omega
       go_wp2_with fail;go_meet;exact ⟨by rw [decide_eq_false hz];rfl,hj0W⟩
     case rest =>
      obtain ⟨rfl,hj0X⟩:=hcut;clear hj0W c0
      cases hb:(decide (i0≤j0) && (fun x => !lt x (swp d a pivot)[a]!) (swp d a pivot)[j0]!) with
      | true =>
       have HB:=Lib.hid hb;have hj0J:i0≤j0:=by (rw [zY0c] at hb;exact of_decide_eq_true hb.1)
       clear hb;go_wp2;go_roundg j0
       case measure=>omega
       case rel=>exact ⟨j0 - 1,by go_num,by omega,by omega,hj0X,by show Hid _;rw [← Hj0.out,zhs (fun x => !lt x (swp d a pivot)[a]!) (swp d a pivot) i0 j0 (by omega) HB.out];exact rfl⟩
      | false =>
       have Ej0:Hid (scanDown (fun x => !lt x (swp d a pivot)[a]!) (swp d a pivot) i0 ((b - 1))=j0):=by (show _=_;rw [← Hj0.out,zf2 (fun x => !lt x (swp d a pivot)[a]!) (swp d a pivot) i0 j0 hb])
       clear hb Hj0;have HV:Hid _:=z07l lt d a b pivot Ei0.out Ej0.out
       by_cases hz:i0≤j0
       ·have hzz:¬ ((j0:Nat):Int)<(i0:Int):=by omega
        have hz0:Hid (i0≤j0):=hz;have c1:=hj0X.c1;obtain ⟨w2,hs,hV⟩:=hj0X.swap S hw (i:=i0) (j:=j0) (x:=i0) (y:=j0) (by omega) (by omega) rfl rfl;have HS:=Lib.hid hs;clear hs;go_wp2_with (rw [HS.out,Oper.upon_value]);clear hj0X c1 HS Ei0 Ej0;go_loopg [10,11] b (fun kx vi vj wr=>∃ (i j:Nat) (dk:Array α),vi = .int .i64 i∧vj = .int .i64 j∧a+1≤i∧i≤n∧j<b∧j<kx∧On B lf lb sf sb St w dk wr∧Hid (partLoop lt a i j dk=partLoop lt a (i0+1) (j0 - 1) (swp (swp d a pivot) i0 j0)))
        case atStart=>exact ⟨i0+1,j0 - 1,_,by go_num,by go_num,by omega,by omega,by omega,by omega,hV,rfl⟩
        case round =>
         obtain ⟨i,j,dk,rfl,rfl,hai,hin,hjb,hkx,hW,HO⟩:=hrel;clear hV;go_wp2;go_loopg [10] (n+1) (fun kx v wr=>∃ i2:Nat,v = .int .i64 i2∧i≤i2∧i2≤n∧n - i2<kx∧On B lf lb sf sb St w dk wr∧Hid (scanUp (fun x=>lt x dk[a]!) dk j i2=scanUp (fun x=>lt x dk[a]!) dk j (i)))
         case atStart=>exact ⟨i,rfl,by omega,by omega,by omega,hW,rfl⟩
         case round =>
          obtain ⟨i2,rfl,hi20,hi21,hki2,hi2W,Hi2⟩:=hrel;clear hW;have c0:=hi2W.c0;go_upto_region 13 with fail
          go_cut [73] (fun c wx=>c = .bool (decide (i2≤j) && (fun x=>lt x dk[a]!) dk[i2]!)∧On B lf lb sf sb St w dk wx)
          case first =>
           by_cases hz:i2≤j
           ·have hzz:(i2:Int)≤((j:Nat):Int):=by omega
            cases hl:lt dk[i2]! dk[a]! with
            | true =>
             have hc:=hi2W.less S hw (i:=i2) (j:=a) (x:=i2) (y:=a) (by omega) (by omega) rfl rfl hl;have HL:=Lib.hid hl;clear hl;go_wp2_with (refine hc.mono ?_;rintro e w1 ⟨rfl,hU⟩;simp only [];clear hc);go_meet;exact ⟨by rw [decide_eq_true hz];show _=Value.bool (true && lt dk[i2]! dk[a]!);rw [HL.out];rfl,hU⟩
            | false =>
             have hc:=hi2W.less S hw (i:=i2) (j:=a) (x:=i2) (y:=a) (by omega) (by omega) rfl rfl hl;have HL:=Lib.hid hl;clear hl;go_wp2_with (refine hc.mono ?_;rintro e w1 ⟨rfl,hU⟩;simp only [];clear hc);go_meet;exact ⟨by rw [decide_eq_true hz];show _=Value.bool (true && lt dk[i2]! dk[a]!);rw [HL.out];rfl,hU⟩
           ·have hzz:¬ (i2:Int)≤((j:Nat):Int):=by omega
            go_wp2_with fail;go_meet;exact ⟨by rw [decide_eq_false hz];rfl,hi2W⟩
          case rest =>
           obtain ⟨rfl,hi2X⟩:=hcut;clear hi2W c0
           cases hb:(decide (i2≤j) && (fun x=>lt x dk[a]!) dk[i2]!) with
           | true =>
            have HB:=Lib.hid hb;have hi2J:i2≤j:=by (rw [zY0c] at hb;exact of_decide_eq_true hb.1)
            clear hb;go_wp2;go_roundg (n - i2)
            case measure=>omega
            case rel=>exact ⟨i2+1,by go_num,by omega,by omega,by omega,hi2X,by show Hid _;rw [← Hi2.out,z008 (fun x=>lt x dk[a]!) dk (j) i2 HB.out];exact rfl⟩
           | false =>
            have Ei2:Hid (scanUp (fun x=>lt x dk[a]!) dk j (i)=i2):=by (show _=_;rw [← Hi2.out,zp7 (fun x=>lt x dk[a]!) dk (j) i2 hb])
            clear hb Hi2;go_wp2;go_loopg [11] (j+1) (fun ky v wr=>∃ j2:Nat,v = .int .i64 j2∧j2≤j∧j2<ky∧On B lf lb sf sb St w dk wr∧Hid (scanDown (fun x => !lt x dk[a]!) dk i2 j2=scanDown (fun x => !lt x dk[a]!) dk i2 (j)))
            case atStart=>exact ⟨j,rfl,zY0t _,zY23 _,hi2X,rfl⟩
            case round =>
             obtain ⟨j2,rfl,hj20,hkj2,hj2W,Hj2⟩:=hrel;clear hi2X;have c0:=hj2W.c0;go_upto_region 15 with fail
             go_cut [86] (fun c wx=>c = .bool (decide (i2≤j2) && (fun x => !lt x dk[a]!) dk[j2]!)∧On B lf lb sf sb St w dk wx)
             case first =>
              by_cases hz:i2≤j2
              ·have hzz:(i2:Int)≤(j2:Int):=by omega
               cases hl:lt dk[j2]! dk[a]! with
               | true =>
                have hc:=hj2W.less S hw (i:=j2) (j:=a) (x:=j2) (y:=a) (by omega) (by omega) rfl rfl hl;have HL:=Lib.hid hl;clear hl;go_wp2_with (refine hc.mono ?_;rintro e w1 ⟨rfl,hU⟩;simp only [];clear hc);go_meet;exact ⟨by rw [decide_eq_true hz];show _=Value.bool (true && !lt dk[j2]! dk[a]!);rw [HL.out];rfl,hU⟩
               | false =>
                have hc:=hj2W.less S hw (i:=j2) (j:=a) (x:=j2) (y:=a) (by omega) (by omega) rfl rfl hl;have HL:=Lib.hid hl;clear hl;go_wp2_with (refine hc.mono ?_;rintro e w1 ⟨rfl,hU⟩;simp only [];clear hc);go_meet;exact ⟨by rw [decide_eq_true hz];show _=Value.bool (true && !lt dk[j2]! dk[a]!);rw [HL.out];rfl,hU⟩
              ·have hzz:¬ (i2:Int)≤(j2:Int):=by omega
               go_wp2_with fail;go_meet;exact ⟨by rw [decide_eq_false hz];rfl,hj2W⟩
             case rest =>
              obtain ⟨rfl,hj2X⟩:=hcut;clear hj2W c0
              cases hb:(decide (i2≤j2) && (fun x => !lt x dk[a]!) dk[j2]!) with
              | true =>
               have HB:=Lib.hid hb;have hj2J:i2≤j2:=by (rw [zY0c] at hb;exact of_decide_eq_true hb.1)
               clear hb;go_wp2;go_roundg j2
               case measure=>omega
               case rel=>exact ⟨j2 - 1,by go_num,by omega,by omega,hj2X,by show Hid _;rw [← Hj2.out,zhs (fun x => !lt x dk[a]!) dk i2 j2 (by omega) HB.out];exact rfl⟩
              | false =>
               have Ej2:Hid (scanDown (fun x => !lt x dk[a]!) dk i2 (j)=j2):=by (show _=_;rw [← Hj2.out,zf2 (fun x => !lt x dk[a]!) dk i2 j2 hb])
               clear hb Hj2
               by_cases hz:i2≤j2
               ·have hzz:¬ ((j2:Nat):Int)<(i2:Int):=by omega
                have c1:=hj2X.c1;obtain ⟨w2,hs,hV⟩:=hj2X.swap S hw (i:=i2) (j:=j2) (x:=i2) (y:=j2) (by omega) (by omega) rfl rfl;have HS:=Lib.hid hs;clear hs;go_wp2_with (rw [HS.out,Oper.upon_value]);go_roundg j
                case measure=>omega
                case rel=>exact ⟨i2+1,j2 - 1,_,by go_num,by go_num,by omega,by omega,by omega,by omega,hV,by show Hid _;rw [← HO.out,zws Ei2.out Ej2.out hz (by omega) (by omega) (by omega)];exact rfl⟩
               ·have hzz:((j2:Nat):Int)<(i2:Int):=by omega
                have c1:=hj2X.c1;obtain ⟨w2,hs,hV⟩:=hj2X.swap S hw (i:=j2) (j:=a) (x:=j2) (y:=a) (by omega) (by omega) rfl rfl;have HS:=Lib.hid hs;clear hs;go_wp2_with (rw [HS.out,Oper.upon_value]);go_ret2;have hv:partLoop lt a (i0+1) (j0 - 1) (swp (swp d a pivot) i0 j0)=(j2,dk):=by rw [← HO.out];exact zp8 Ei2.out Ej2.out hz
                rw [HV.out hz0.out,hv];exact ⟨rfl,hV.st,hV.fwd⟩
       ·have hzz:((j0:Nat):Int)<(i0:Int):=by omega
        have c1:=hj0X.c1;obtain ⟨w2,hs,hV⟩:=hj0X.swap S hw (i:=j0) (j:=a) (x:=j0) (y:=a) (by omega) (by omega) rfl rfl;have HS:=Lib.hid hs;clear hs;go_wp2_with (rw [HS.out,Oper.upon_value]);go_ret2;rw [z05e lt d a b pivot Ei0.out Ej0.out hz];exact ⟨rfl,hV.st,hV.fwd⟩
end
end
section
open Go.RowKit Go.Sort
set_option maxRecDepth 100000
set_option maxHeartbeats 4000000
section
variable {α:Type} [Inhabited α] {lt:α→α→Bool} {n B lf sf:Nat} {lb sb:Array Value} {St:Array α→World→Prop}
theorem z05f (d:Array α) (b i:Nat) (h:(decide (i<b) && !lt d[i]! d[i - 1]!)=true):scanSorted lt d b i=scanSorted lt d b (i+1):=by rw [scanSorted,if_pos h]
theorem z036 (d:Array α) (b i:Nat) (h:(decide (i<b) && !lt d[i]! d[i - 1]!)=false):scanSorted lt d b i=i:=by rw [scanSorted,if_neg (by rw [h];exact zY33)]
theorem z037 (d:Array α) (j:Nat) (h:j≠0) (hl:lt d[j]! d[j - 1]! = true):shiftDown lt j d=shiftDown lt (j - 1) (swp d j (j - 1)):=by
 obtain ⟨k,rfl⟩:∃ k,j=k+1:=⟨j - 1,by omega⟩
 simp only [zY2i] at hl ⊢;rw [shiftDown,hl];rfl
theorem zgm (d:Array α) (j:Nat) (h:j=0∨lt d[j]! d[j - 1]! = false):shiftDown lt j d=d:=by
 cases j with
 | zero=>rfl
 | succ k =>
  rcases h with h|h
  ·omega
  ·simp only [zY2i] at h
   rw [shiftDown,h];rfl
theorem z038 (d:Array α) (b j:Nat) (h:j<b) (hl:lt d[j]! d[j - 1]! = true):shiftUp lt b j d=shiftUp lt b (j+1) (swp d j (j - 1)):=by
 rw [shiftUp,if_pos h,hl];rfl
theorem zgn (d:Array α) (b j:Nat) (h:¬ j<b∨lt d[j]! d[j - 1]! = false):shiftUp lt b j d=d:=by
 rw [shiftUp]
 by_cases hj:j<b
 ·rcases h with h|h
  ·exact absurd hj h
  ·rw [if_pos hj,h];rfl
 ·rw [if_neg hj]
theorem z07m {a b s i:Nat} {d:Array α} (h0:s≠0) (h:scanSorted lt d b i=b):partialIns lt a b s i d=(d,true):=by
 obtain ⟨t,rfl⟩:∃ t,s=t+1:=⟨s - 1,by omega⟩
 rw [partialIns];simp only [h,if_true]
theorem z05g {a b s i i2:Nat} {d:Array α} (h0:s≠0) (h:scanSorted lt d b i=i2) (h1:i2≠b) (h2:b - a<50):partialIns lt a b s i d=(d,false):=by
 obtain ⟨t,rfl⟩:∃ t,s=t+1:=⟨s - 1,by omega⟩
 rw [partialIns];simp only [h];rw [if_neg h1,if_pos h2]
theorem z06e {a b s i i2:Nat} {d:Array α} (h0:s≠0) (h:scanSorted lt d b i=i2) (h1:i2≠b) (h2:¬ b - a<50) {d3 d4:Array α} (h3:(if i2 - a ≥ 2 then shiftDown lt (i2 - 1) (swp d i2 (i2 - 1)) else swp d i2 (i2 - 1))=d3) (h4:(if b - i2 ≥ 2 then shiftUp lt b (i2+1) d3 else d3)=d4):partialIns lt a b s i d=partialIns lt a b (s - 1) i2 d4:=by
 obtain ⟨t,rfl⟩:∃ t,s=t+1:=⟨s - 1,by omega⟩
 rw [partialIns];simp only [h];rw [if_neg h1,if_neg h2,h3,h4];rfl
theorem z039 (S:Srt lt n B lf lb sf sb St) {w:World} {d:Array α} (h:St d w) {a b:Nat} (hab:a<b) (hb:b≤n) :
  Calls Tryz.prog 90 #[.agg #[.func (.func lf) #[] lb,.func (.func sf) #[] sb],.int .i64 a,.int .i64 b] w fun e w'=>e = .returned (.bool (partialInsertionSort lt d a b).2)∧St (partialInsertionSort lt d a b).1 w'∧Fwd B w w':=by
 have hw:=S.base h;have hO:=On.start S h;have hbig:=S.big;have eg:=S.enters;unfold partialInsertionSort;go_enter Tryz.func90,Tryz.ntmps90;go_wp2;go_loopg [7,8] 6 (fun kx vi vs wr=>∃ (s i:Nat) (dk:Array α),vi = .int .i64 i∧vs = .int .i64 (5 - (s:Int))∧s≤5∧s<kx∧a+1≤i∧i≤b∧On B lf lb sf sb St w dk wr∧Hid (partialIns lt a b s i dk=partialIns lt a b 5 (a+1) d))
 case atStart=>exact ⟨5,a+1,d,by go_num,by go_num,zY0t _,by omega,zY0t _,by omega,hO,rfl⟩
 case round =>
  obtain ⟨s,i,dk,rfl,rfl,hs5,hsk,hai,hib,hW,HO⟩:=hrel;clear hO
  by_cases h0:s=0
  ·have hz:¬ (5:Int) - (s:Int)<5:=by omega
   go_wp2;go_ret;subst h0;rw [← HO.out];exact ⟨by rfl,hW.st,hW.fwd⟩
  have hz:(5:Int) - (s:Int)<5:=by omega
  go_wp2;go_loopg [7] (b+1) (fun ky v wr=>∃ i2:Nat,v = .int .i64 i2∧i≤i2∧i2≤b∧b - i2<ky∧On B lf lb sf sb St w dk wr∧Hid (scanSorted lt dk b i2=scanSorted lt dk b i))
  case atStart=>exact ⟨i,rfl,zY0t _,hib,by omega,hW,rfl⟩
  case round =>
   obtain ⟨i2,rfl,hi0,hi1,hky,hW2,HI⟩:=hrel;clear hW;have c0:=hW2.c0;go_upto_region 5 with fail
   go_cut [28] (fun c wx=>c = .bool (decide (i2<b) && !lt dk[i2]! dk[i2 - 1]!)∧On B lf lb sf sb St w dk wx)
   case first =>
    by_cases h1:i2<b
    ·have h1z:(i2:Int)<(b:Int):=by omega
     cases hl:lt dk[i2]! dk[i2 - 1]! with
     | true =>
      have hc:=hW2.less S hw (i:=i2) (j:=i2 - 1) (x:=i2) (y:=(i2:Int) - 1) (by omega) (by omega) rfl (by omega) hl;have HL:=Lib.hid hl;clear hl;go_wp2_with (refine hc.mono ?_;rintro e w1 ⟨rfl,hU⟩;simp only [];clear hc);go_meet;exact ⟨by rw [decide_eq_true h1,HL.out];rfl,hU⟩
     | false =>
      have hc:=hW2.less S hw (i:=i2) (j:=i2 - 1) (x:=i2) (y:=(i2:Int) - 1) (by omega) (by omega) rfl (by omega) hl;have HL:=Lib.hid hl;clear hl;go_wp2_with (refine hc.mono ?_;rintro e w1 ⟨rfl,hU⟩;simp only [];clear hc);go_meet;exact ⟨by rw [decide_eq_true h1,HL.out];rfl,hU⟩
    ·have h1z:¬ (i2:Int)<(b:Int):=by omega
     go_wp2_with fail;go_meet;exact ⟨by rw [decide_eq_false h1];rfl,hW2⟩
   case rest =>
    obtain ⟨rfl,hX⟩:=hcut;clear hW2 c0
    cases hb2:(decide (i2<b) && !lt dk[i2]! dk[i2 - 1]!) with
    | true =>
     have HB:=Lib.hid hb2;have h1:i2<b:=by (rw [zY0c] at hb2;exact of_decide_eq_true hb2.1)
     clear hb2;go_wp2;go_roundg (b - i2)
     case measure=>omega
     case rel=>exact ⟨i2+1,by go_num,by omega,by omega,by omega,hX,by show Hid _;rw [← HI.out,z05f dk b i2 HB.out];exact rfl⟩
    | false =>
     have EI:Hid (scanSorted lt dk b i=i2):=by (show _=_;rw [← HI.out,z036 dk b i2 hb2])
     clear hb2 HI
     by_cases hib2:i2=b
     ·have hq:((i2:Int) == (b:Int))=true:=by rw [hib2];simp
      have hq':(i2:Int)=(b:Int):=by omega
      go_wp2;go_ret;have hv:=z07m (lt:=lt) (a:=a) h0 (EI.out.trans hib2);rw [← HO.out,hv];exact ⟨rfl,hX.st,hX.fwd⟩
     have hq:((i2:Int) == (b:Int))=false:=by simp;omega
     have hq':¬ (i2:Int)=(b:Int):=by omega
     by_cases h50:b - a<50
     ·have h50z:(b:Int) - (a:Int)<50:=by omega
      go_wp2;go_ret;have hv:=z05g (lt:=lt) (a:=a) h0 EI.out hib2 h50;rw [← HO.out,hv];exact ⟨rfl,hX.st,hX.fwd⟩
     have h50z:¬ (b:Int) - (a:Int)<50:=by omega
     have c1:=hX.c1;obtain ⟨w2,hs,hV⟩:=hX.swap S hw (i:=i2) (j:=i2 - 1) (x:=i2) (y:=(i2:Int) - 1) (by omega) (by omega) rfl (by omega);have HS:=Lib.hid hs;have HIB:=Lib.hid hib2;have H50:=Lib.hid h50;clear hs hib2;have hlt:i2<b:=by have:=HIB.out;omega
     go_upto_if 47 with (rw [HS.out,Oper.upon_value])
     clear hX c1 HS;go_cut [] (fun wx=>∃ dj,On B lf lb sf sb St w dj wx∧Hid ((if i2 - a ≥ 2 then shiftDown lt (i2 - 1) (swp dk i2 (i2 - 1)) else swp dk i2 (i2 - 1))=dj))
     case first =>
      by_cases h2:i2 - a ≥ 2
      ·have h2z:(2:Int)≤(i2:Int) - (a:Int):=by omega
       go_wp2;go_loopg [9] i2 (fun kz v wr=>∃ (j:Nat) (dj:Array α),v = .int .i64 j∧j≤i2 - 1∧j<kz∧On B lf lb sf sb St w dj wr∧Hid (shiftDown lt j dj=shiftDown lt (i2 - 1) (swp dk i2 (i2 - 1))))
       case atStart=>exact ⟨i2 - 1,_,by go_num,zY0t _,by omega,hV,rfl⟩
       case round =>
        obtain ⟨j,dj,rfl,hj1,hjk,hY,HJ⟩:=hrel;clear hV;have c0:=hY.c0
        by_cases hj0:j=0
        ·have hjz:¬ (1:Int)≤(j:Int):=by omega
         go_wp2;go_meet;exact ⟨dj,hY,by show _=_;rw [if_pos h2,← HJ.out,zgm dj j (Or.inl hj0)]⟩
        have hjz:(1:Int)≤(j:Int):=by omega
        cases hl:lt dj[j]! dj[j - 1]! with
        | true =>
         have hc:=hY.less S hw (i:=j) (j:=j - 1) (x:=j) (y:=(j:Int) - 1) (by omega) (by omega) rfl (by omega) hl;have HL:=Lib.hid hl;clear hl;go_wp2_with (first|(refine hc.mono ?_;rintro e w1 ⟨rfl,hU⟩;simp only [];clear hc c0;have c1:=hU.c1;obtain ⟨w2,hs,hV⟩:=hU.swap S hw (i:=j) (j:=j - 1) (x:=j) (y:=(j:Int) - 1) (by omega) (by omega) rfl (by omega);have HS:=Lib.hid hs;clear hs)|(rw [HS.out,Oper.upon_value]));go_roundg j
         case measure=>omega
         case rel=>exact ⟨j - 1,_,by go_num,by omega,by omega,hV,by show Hid _;rw [← HJ.out,z037 dj j hj0 HL.out];exact rfl⟩
        | false =>
         have hc:=hY.less S hw (i:=j) (j:=j - 1) (x:=j) (y:=(j:Int) - 1) (by omega) (by omega) rfl (by omega) hl;have HL:=Lib.hid hl;clear hl;go_wp2_with (refine hc.mono ?_;rintro e w1 ⟨rfl,hU⟩;simp only [];clear hc);go_meet;exact ⟨dj,hU,by show _=_;rw [if_pos h2,← HJ.out,zgm dj j (Or.inr HL.out)]⟩
      ·have h2z:¬ (2:Int)≤(i2:Int) - (a:Int):=by omega
       go_wp2_with fail;go_meet;exact ⟨_,hV,by show _=_;rw [if_neg h2]⟩
     case rest =>
      obtain ⟨d3,hY,H3⟩:=hcut;clear hV
      by_cases h4:b - i2 ≥ 2
      ·have h4z:(2:Int)≤(b:Int) - (i2:Int):=by omega
       go_wp2;go_loopg [10] b (fun kz v wr=>∃ (j:Nat) (dj:Array α),v = .int .i64 j∧i2+1≤j∧j≤b∧b - j<kz∧On B lf lb sf sb St w dj wr∧Hid (shiftUp lt b j dj=shiftUp lt b (i2+1) d3))
       case atStart=>exact ⟨i2+1,_,by go_num,zY0t _,by omega,by omega,hY,rfl⟩
       case round =>
        obtain ⟨j,dj,rfl,hj0,hj1,hjk,hZ,HJ⟩:=hrel;clear hY;have c0:=hZ.c0;have HF:Hid (∀ dy:Array α,shiftUp lt b (i2+1) d3=dy→partialIns lt a b (s - 1) i2 dy=partialIns lt a b 5 (a+1) d):=fun dy h=>by
         rw [← HO.out];exact (z06e h0 EI.out HIB.out H50.out H3.out (by rw [if_pos h4];exact h)).symm
        by_cases hjb:j<b
        ·have hjz:(j:Int)<(b:Int):=by omega
         cases hl:lt dj[j]! dj[j - 1]! with
         | true =>
          have hc:=hZ.less S hw (i:=j) (j:=j - 1) (x:=j) (y:=(j:Int) - 1) (by omega) (by omega) rfl (by omega) hl;have HL:=Lib.hid hl;clear hl;go_wp2_with (first|(refine hc.mono ?_;rintro e w1 ⟨rfl,hU⟩;simp only [];clear hc c0;have c1:=hU.c1;obtain ⟨w2,hs,hV⟩:=hU.swap S hw (i:=j) (j:=j - 1) (x:=j) (y:=(j:Int) - 1) (by omega) (by omega) rfl (by omega);have HS:=Lib.hid hs;clear hs)|(rw [HS.out,Oper.upon_value]));go_roundg (b - j)
          case measure=>omega
          case rel=>exact ⟨j+1,_,by go_num,by omega,by omega,by omega,hV,by show Hid _;rw [← HJ.out,z038 dj b j hjb HL.out];exact rfl⟩
         | false =>
          have hc:=hZ.less S hw (i:=j) (j:=j - 1) (x:=j) (y:=(j:Int) - 1) (by omega) (by omega) rfl (by omega) hl;have HL:=Lib.hid hl;clear hl;go_wp2_with (refine hc.mono ?_;rintro e w1 ⟨rfl,hU⟩;simp only [];clear hc);go_roundg s
          case measure=>omega
          case rel=>exact ⟨s - 1,i2,dj,rfl,by go_num,by omega,by omega,by omega,by omega,hU,HF.out _ (by rw [← HJ.out,zgn dj b j (Or.inr HL.out)])⟩
        ·have hjz:¬ (j:Int)<(b:Int):=by omega
         go_wp2;go_roundg s
         case measure=>omega
         case rel=>exact ⟨s - 1,i2,dj,rfl,by go_num,by omega,by omega,by omega,by omega,hZ,HF.out _ (by rw [← HJ.out,zgn dj b j (Or.inl hjb)])⟩
      ·have h4z:¬ (2:Int)≤(b:Int) - (i2:Int):=by omega
       go_wp2;go_roundg s
       case measure=>omega
       case rel=>exact ⟨s - 1,i2,d3,rfl,by go_num,by omega,by omega,by omega,by omega,hY,by show Hid _;rw [← HO.out];exact (z06e h0 EI.out HIB.out H50.out H3.out (by rw [if_neg h4])).symm⟩
end
end
end Go.Proofs.YtjknfjbpmdfphaaGreat
