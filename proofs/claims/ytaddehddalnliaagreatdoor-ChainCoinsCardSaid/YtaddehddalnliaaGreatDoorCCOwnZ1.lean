/- Own texts, put together by wip/bundle.py: VdW, VdX, VdY1, VdY2, VdY3, VdY, VT0, VT1, VU1, VEr0, VU2, VS1, VS2, VS3, VTK, VT2, VT3, VT4, VL0, VL1, VL2, VL3, VLP, VL4, VB1, VB2. -/
import Derived.Test.YtaddehddalnliaaGreatDoorProg
import Derived.KernelRfl
import Derived.Lib.ItoaNum
import Derived.Lib.AtoiAll
import Derived.Lib.Join
import Derived.Lib.Split
import Derived.Test.YtaddehddalnliaaGreatDoorShelf3
import Derived.Lib.AppendIntMem
import Derived.Lib.SmallJoins
import Derived.Lib.FieldsLaws
import Derived.Test.YtaddehddalnliaaGreatDoorCCOwnB
import Derived.Test.YtaddehddalnliaaGreatDoorCCOwnC
import Derived.Test.YtaddehddalnliaaGreatDoorCCOwnR
import Derived.Test.YtaddehddalnliaaGreatDoorCCOwnS
import Derived.Test.YtaddehddalnliaaGreatDoorCCOwnT
import Derived.Test.YtaddehddalnliaaGreatDoorCCOwnV2
set_option linter.unusedVariables false
set_option linter.unusedSimpArgs false
namespace Go.Proofs.YtaddehddalnliaaGreatDoor
section
open Go.RowKit
def zor:zk9:=[(3,⟨1,false,[.i .i64 0],[],false,none,some .i64,none,none⟩),(5,⟨1,false,[.i .u8 0],[],false,none,some .u8,none,none⟩),(233,⟨1,false,[.i .u64 0],[],false,none,some .u64,none,none⟩),(4,⟨1,false,[.b false],[],false,none,none,none,none⟩),(9,⟨1,false,[.s []],[],false,none,none,none,none⟩),(31,⟨1,false,[.i .i64 0],[],false,none,some .i64,none,none⟩),(58,⟨1,false,[.nil 1],[],false,some (3,1,8),none,none,none⟩),(22,⟨1,false,[.nil 1],[],false,some (9,1,16),none,none,none⟩),(47,⟨1,false,[.nil 2],[],false,some (103,2,16),none,none,none⟩),(164,⟨1,false,[.nil 2],[],false,some (97,2,16),none,none,none⟩),(27,⟨1,false,[.nil 3],[],false,some (105,3,40),none,none,none⟩),(28,⟨1,false,[.nil 2],[],false,some (99,2,32),none,none,none⟩),(26,⟨1,false,[.nil 3],[],false,some (30,3,56),none,none,none⟩),(25,⟨1,false,[.nil 6],[],false,some (101,6,64),none,none,none⟩),(57,⟨1,false,[.nil 1],[],false,some (111,1,24),none,none,none⟩),(73,⟨1,false,[.nil 5],[],false,some (49,5,56),none,none,none⟩),(202,⟨1,false,[.nil 1],[],false,some (25,1,24),none,none,none⟩),(196,⟨1,false,[.nil 1],[],false,some (22,1,24),none,none,none⟩),(179,⟨1,false,[.er],[],false,none,none,none,none⟩),(103,⟨2,true,[.i .i64 0,.i .i64 0],[(0,1),(1,1)],true,none,none,none,none⟩),(97,⟨2,true,[.i .i64 0,.i .i64 0],[(0,1),(1,1)],true,none,none,none,none⟩),(105,⟨3,true,[.i .i64 0,.i .i64 0,.nil 2],[(0,2),(2,1)],false,none,none,none,none⟩),(99,⟨2,true,[.i .i64 0,.nil 2],[(0,1),(1,1)],false,none,none,none,none⟩),(30,⟨3,true,[.i .i64 0,.nil 3,.nil 2],[(0,1),(1,1),(2,1)],false,none,none,none,none⟩),(24,⟨1,true,[.nil 1],[(0,1)],false,none,none,none,none⟩),(101,⟨6,true,[.i .i64 0,.i .i64 0,.i .i64 0,.nil 2,.i .i64 0,.b false],[(0,2),(2,2),(4,1),(5,1)],false,none,none,none,none⟩),(111,⟨1,true,[.nil 6],[(0,1)],false,none,none,none,none⟩),(49,⟨5,true,[.i .i64 0,.i .i64 0,.i .i64 0,.i .i64 0,.nil 3],[(0,1),(1,1),(2,1),(3,1),(4,1)],false,none,none,none,none⟩),(75,⟨2,true,[.nil 1,.nil 5],[(0,1),(1,1)],false,none,none,none,none⟩),(268,⟨3,true,[.nil 1,.i .i64 0,.b false],[(0,1),(1,1),(2,1)],false,none,none,none,none⟩),(266,⟨1,false,[],[],false,none,none,none,none⟩),(149,⟨2,true,[.i .i64 0,.i .i64 0],[],false,none,none,some (2,3),none⟩),(210,⟨14,true,[.s [],.s [],.s [],.s [],.s [],.s [],.s [],.s [],.s [],.s [],.s [],.s [],.s [],.s []],[],false,none,none,some (14,9),none⟩),(241,⟨2,true,[.nil 2,.nil 2],[],false,none,none,some (2,47),none⟩),(148,⟨2,true,[.nil 1,.nil 1],[],false,none,none,some (2,58),none⟩),(143,⟨1,false,[],[],false,none,none,none,some (3,3)⟩)]
theorem zue:tabB Tryz.prog zor=true:=by kernel_rfl
theorem z029:Tryz.prog.follows .mixedOrders=true:=by kernel_rfl
def z8x (f:Nat) (fn:Func) (hints:List Hint) (cut:List Nat):FnI:=⟨f,fn.ntmps,hints,cut,fn.results.toList,fn.body.getD .skip⟩
def fxOf (ty:zk9) (sigs:List (Nat × Sig)) (fn:Func) (cut:List Nat) (hints:List Hint) (fns:List FnI) (dep:Nat):Fx :=
 ⟨⟨ty,sigs,cut⟩,fn.ntmps,hints,fns,4 * fn.ntmps+dep * 400,if dep=0 then 4 * fn.ntmps+10 else 4 * fn.ntmps+dep * 400+100,dep,4⟩
def fxIn (ty:zk9) (sigs:List (Nat × Sig)) (fn:Func) (cut:List Nat) (hints:List Hint) (fns:List FnI) (dep pool:Nat):Fx:=⟨⟨ty,sigs,cut⟩,fn.ntmps,hints,fns,pool,pool+80,dep,1⟩
theorem z0o7 {sp:Nat→za} {sigs:List (Nat × Sig)} {cut:List Nat} {hints:List Hint} {sig:Sig} {f:Nat} {fn:Func} {t:T} {spec:za} {fns:List FnI} {dep pool:Nat} (hf:Tryz.prog.funcs[f]? = some fn) (hname:(fn.name == "runtime.NumGoroutine")=false)
  (hdec:decomp (fxIn zor sigs fn cut hints fns dep pool) sig fn=some t) (hfn:∀ g ∈ fns,zdc Tryz.prog g) (hsig:∀ ci f s,sigs[ci]? = some (f,s)→Meets Tryz.prog (sp ci) f s) (hspec:∀ ds rs,(∀ d ∈ ds,d.ok)→spec ds=some rs→(∃ N,den sp N t ds []=some rs)∧z7i sig rs):Meets Tryz.prog spec f sig :=
 z022 hf hname hdec zue z029 hfn hsig hspec
theorem z7k {P:Program}:∀ g ∈ ([]:List FnI),zdc P g:=fun g h=>by cases h
theorem z2h {P:Program} {g:FnI} {l:List FnI} {fn:Func} (h1:P.funcs[g.f]? = some fn) (h2:(fn.name == "runtime.NumGoroutine")=false) (h3:fn.body=some g.body) (h4:fn.ntmps=g.nt) (h5:fn.results.toList=g.results) (hl:∀ g ∈ l,zdc P g):∀ x ∈ g::l,zdc P x:=by
 intro x hx;rcases zY0g.1 hx with he|hx
 ·rw [he];exact ⟨fn,h1,h2,h3,h4,h5⟩
 ·exact hl x hx
theorem z6h {sp:Nat→za} {sigs:List (Nat × Sig)} {cut:List Nat} {hints:List Hint} {sig:Sig} {f:Nat} {fn:Func} {t:T} {spec:za} (hf:Tryz.prog.funcs[f]? = some fn) (hname:(fn.name == "runtime.NumGoroutine")=false)
  (hdec:decomp (fxOf zor sigs fn cut hints [] 0) sig fn=some t) (hsig:∀ ci f s,sigs[ci]? = some (f,s)→Meets Tryz.prog (sp ci) f s) (hspec:∀ ds rs,(∀ d ∈ ds,d.ok)→spec ds=some rs→(∃ N,den sp N t ds []=some rs)∧z7i sig rs):Meets Tryz.prog spec f sig :=
 z022 hf hname hdec zue z029 (fun g h=>by cases h) hsig hspec
theorem z1x {P:Program} {f:Nat} {fn:Func} (h1:P.funcs[f]? = some fn) (h2:(fn.name == "runtime.NumGoroutine")=false) (h3:fn.body.isSome=true):En P f:=by
 obtain ⟨c,hc⟩:=zY2y.1 h3;exact ⟨fn,c,h1,h2,hc⟩
section
variable {P:Program} {W W':World} {F F':Nat→Prop}
theorem zm1 {s:Sig} {rs:List Dt} {v:Value} {us:List Value} (hv:ResV s.res v us) (hc:∀ c ∈ zu s,c = .scal∨c = .pure) (hs:∀ (j:Nat) (d:Dt),(zu s)[j]? = some .scal→rs[j]? = some d→d.scal=true)
  (hl:rs.length=(zu s).length) (hr:Reps W' F' rs us) (hF':∀ b,F' b→F b∨(W.heap.size≤b∧b<W'.heap.size)):ResR W F W' s rs v us F' where
 val:=hv
 lrs:=hl
 lus:=by rw [← hr.len,hl]
 cells:=fun j f d u hf hd hu=>by
  obtain ⟨u',hu',hR⟩:=hr.get hd;rw [hu] at hu'
  cases hu'
  rcases hc f (zY07 hf) with rfl|rfl
  ·exact ⟨hs j d hf hd,hR⟩
  ·exact hR
 own:=hF'
 apart:=fun j e sz u b hf=>by rcases hc _ (zY07 hf) with h|h <;> cases h
 dj:=fun j j' e sz e' sz' u u' b hf=>by rcases hc _ (zY07 hf) with h|h <;> cases h
theorem z39 {α β:Type} {S:Sh β} {eS:β→List Dt} (hE:ShE S eS) {e:α→List Dt} {xs:α→List β} {pk:List PK} {t sz:Nat} {f:Nat} (hpk:z4h pk=false) (hsz:S.size=sz) (hpos:0<S.size) (hen:En P f)
  (h:∀ x W F us,(∀ b,F b→b<W.heap.size)→PKRs W F pk (e x) us→Calls P f us.toArray W fun r W'=>∃ n,z4i S t W F (xs x) n r W') :
  Meets P (z01 e fun x=>[.l sz ((xs x).map eS)]) f ⟨pk,[(false,[.fresh t sz])],false⟩:=by
 refine .mk hpk ?_;intro W F ds args rs hF hargs hsp;obtain ⟨x,rfl,rfl⟩:=z2x hsp;refine .inl ⟨hen.run _ _,(h x W F args hF.1 hargs).mono ?_⟩;rintro r W' ⟨n,v,zs,rfl,hz,hr,ho,hb⟩;subst hsz;have hag:Agree F W W':=fun b hb'=>hb.block b (hF.1 b hb')
 have hzl:zs.length=n:=by
  have h1:=ho.1;rw [z8h fun z hz=>S.len (hr z hz)] at h1;exact Nat.eq_of_mul_eq_mul_right hpos h1
 refine ⟨v,rfl,hb,[v],F,⟨⟨rfl,rfl⟩,rfl,rfl,fun j c d u hf hd hu=>?_,fun b hb=>.inl hb,fun j e' sz' u b hf hu hbl hFb=>?_,fun j j' e sz e' sz' u u' b hf hu hf' hu' _ _=>?_⟩⟩
 ·cases j with
  | succ j=>simp [zu] at hf
  | zero =>
   simp only [zu,zY1v,zY2o,zY1e,zY05,zY00] at hf hd hu;subst hf;subst hd;subst hu;refine ⟨_,flat zs,rfl,fun y hy=>?_,?_,?_⟩
   ·obtain ⟨z,_,rfl⟩:=zY2w.1 hy
    exact hE.len z
   ·rw [zY0y,← hz,zY0y,hzl];exact ho
   ·rw [← hz]
    clear ho hz hzl
    induction zs with
    | nil=>exact trivial
    | cons z zs ih =>
     simp only [flat,zY1q,zY1n];exact (hE.to (S.keep hag (hr z (zY0j ..)))).append (ih fun z hz=>hr z (zY0i _ hz))
 ·cases j with
  | succ j=>simp [zu] at hf
  | zero =>
   simp only [zY05,zY00] at hu;subst hu;have h1:=zik ho hbl;have h2:=hF.1 b hFb;omega
 ·cases j <;> cases j' <;> simp [zu] at hf hf' ⊢
theorem zba {α:Type} {e:α→List Dt} {d:α→Dt} {pk:List PK} {f:Nat} (hpk:z4h pk=false) (hen:En P f) (hd:∀ x,(d x).scal=true)
  (h:∀ x W F us,(∀ b,F b→b<W.heap.size)→PKRs W F pk (e x) us→Calls P f us.toArray W fun r W'=>∃ v,r = .returned v∧Below W.heap.size W W'∧Rep W' (fun _=>False) (d x) v):Meets P (z01 e fun x=>[d x]) f ⟨pk,[(false,[.scal])],true⟩:=by
 refine .mk hpk ?_;intro W F ds args rs hF hargs hs;obtain ⟨x,rfl,rfl⟩:=z2x hs;refine .inl ⟨hen.run _ _,(h x W F args hF.1 hargs).mono fun e w' ⟨v,h1,h2,h3⟩=>⟨v,h1,h2,zlx (hd x) (h3.mono (fun _ h=>h.elim) (fun _ h=>h.elim))⟩⟩
end
end
section
open Go.RowKit
section
variable {sp:Nat→za} {N:Nat} {E:Env} {ks:List (List Dt→Option (List Dt))} {res:Option (List Dt)}
theorem z0h0 {ci:Nat} {args:List Atom} {xs:List X} {ds rs:List Dt} (hx:xs=(List.range rs.length).map fun j=>.call ci args j) (h:vals E args=some ds) (hs:sp ci ds=some rs):z0g sp E xs=some rs:=hx ▸ zua h hs
theorem z82 {a b:Atom} {m n:Int} (ha:a.val E=some (I m)) (hb:b.val E=some (I n)) (h : -9223372036854775808≤m+n∧m+n≤9223372036854775807):denX sp E (.B .add a b)=some (I (m+n)):=by
 have e:denX sp E (.B .add a b)=some (I (IntKind.i64.wrap (m+n))):=by simp only [denX,ha,hb,zY09,zY06];rfl
 rw [e,wrap_i64 h]
end
section
variable {sp:Nat→za} {N:Nat} {E:Env} {ks:List (List Dt→Option (List Dt))} {res:Option (List Dt)}
theorem z0r8 {a b:Atom} {m n:Int} (ha:a.val E=some (I m)) (hb:b.val E=some (I n)) (h:m=n):denX sp E (.B .neq a b)=some (.b false):=by
 have e:denX sp E (.B .neq a b)=some (.b (!decide (m=n))):=by simp only [denX,ha,hb,zY09,zY06];rfl
 rw [e,decide_eq_true h];rfl
theorem z0a {a:Atom} {t e:T} (h:a.val E=some (.b true)) (ht:den sp N t E ks=res):den sp N (.ite a t e) E ks=res:=z1g h (fun _=>ht) (fun h=>by cases h)
theorem z0l {a:Atom} {t e:T} (h:a.val E=some (.b false)) (he:den sp N e E ks=res):den sp N (.ite a t e) E ks=res:=z1g h (fun h=>by cases h) (fun _=>he)
theorem z23 {a:Atom} {sz:Nat} {xs:List (List Dt)} {n:Int} (ha:a.val E=some (.l sz xs)) (h:(xs.length:Int)=n):denX sp E (.len a)=some (I n):=by
 simp only [denX,ha];rw [h]
end
section
variable {sp:Nat→za} {N:Nat} {E:Env} {ks:List (List Dt→Option (List Dt))} {res:Option (List Dt)}
theorem z0r9 {a b:Atom} {m n:Int} (ha:a.val E=some (I m)) (hb:b.val E=some (I n)) (h : -9223372036854775808≤m - n∧m - n≤9223372036854775807):denX sp E (.B .sub a b)=some (I (m - n)):=by
 have e:denX sp E (.B .sub a b)=some (I (IntKind.i64.wrap (m - n))):=by simp only [denX,ha,hb,zY09,zY06];rfl
 rw [e,wrap_i64 h]
theorem zfn {a b:Atom} {m n:Int} (ha:a.val E=some (I m)) (hb:b.val E=some (I n)) (h : -9223372036854775808≤m * n∧m * n≤9223372036854775807):denX sp E (.B .mul a b)=some (I (m * n)):=by
 have e:denX sp E (.B .mul a b)=some (I (IntKind.i64.wrap (m * n))):=by simp only [denX,ha,hb,zY09,zY06];rfl
 rw [e,wrap_i64 h]
theorem zrj {a b:Atom} {m n:Int} (ha:a.val E=some (I m)) (hb:b.val E=some (I n)) (h:n≠0):denX sp E (.B .rem a b)=some (I (m.tmod n)):=by
 have e:denX sp E (.B .rem a b)=(if n=0 then none else some (I (m.tmod n))):=by simp only [denX,ha,hb,zY09,zY06];rfl
 rw [e,if_neg h]
theorem z02a {F:(List Dt→Option (List Dt))→List Dt→Option (List Dt)} {σ:Type} {st:σ→List Dt} {Inv:σ→Prop} {μ:σ→Nat} (step:∀ s,Inv s→∀ again,(∀ s',Inv s'→μ s'<μ s→again (st s')=res)→F again (st s)=res):∀ (N:Nat) (s:σ),Inv s→μ s<N→z06 F N (st s)=res
 | 0,s,_,h=>absurd h (Nat.not_lt_zero _)
 | N+1,s,hi,h=>step s hi _ fun s' h1 h2=>z02a step N s' h1 (by omega)
theorem zin {ats:List Atom} {body:T} {σ:Type} (st:σ→List Dt) (Inv:σ→Prop) (μ:σ→Nat) (s0:σ) (h:vals E ats=some (st s0)) (h0:Inv s0) (hN:μ s0<N)
  (step:∀ s,Inv s→∀ again:List Dt→Option (List Dt),(∀ s',Inv s'→μ s'<μ s→again (st s')=res)→den sp N body (E++st s) (ks++[again])=res):den sp N (.loop ats body) E ks=res :=
 z0t h (z02a (F:=fun again ds=>den sp N body (E++ds) (ks++[again])) step N s0 h0 hN)
end
theorem z04 {pk:List PK} {l:Bool} {d:Dt} (h:d.scal=true):z7i ⟨pk,[(false,[.scal])],l⟩ [d]:=by
 intro i x hi hd
 match i,hi,hd with
 | 0,_,hd=>simp only [zY05,zY00] at hd;subst hd;exact h
 | i+1,_,hd=>simp at hd
theorem zat {pk:List PK} {l:Bool} {d d':Dt} (h:d.scal=true) (h':d'.scal=true):z7i ⟨pk,[(false,[.scal]),(false,[.scal])],l⟩ [d,d']:=by
 intro i x hi hd
 match i,hi,hd with
 | 0,_,hd=>simp only [zY05,zY00] at hd;subst hd;exact h
 | 1,_,hd=>simp only [zY05,zY2k,zY00] at hd;subst hd;exact h'
 | i+2,_,hd=>simp at hd
theorem z0bv {s:Sig} {ds:List Dt} (h:∀ c ∈ zu s,c.isScal=false):z7i s ds:=by
 intro i x hi hd;have:=h _ (zY07 hi)
 cases this
theorem z0kj {P:Program} {spec:za} {f:Nat} {pk:List PK} {e sz:Nat} {b:Bool} (hpk:z4h pk=false) (h:Meets P spec f ⟨pk,[(false,[.fresh e sz])],b⟩):Meets P spec f ⟨pk,[(false,[.pure])],b⟩ :=
 .mk hpk fun W F ds args rs hF ha hs=>by
  have key:∀ v W',(Below W.heap.size W W'∧∃ us F',ResR W F W' ⟨pk,[(false,[.fresh e sz])],b⟩ rs v us F')→(Below W.heap.size W W'∧∃ us F',ResR W F W' ⟨pk,[(false,[.pure])],b⟩ rs v us F'):=by
   rintro v W' ⟨hb,us,F',hR⟩;obtain ⟨rfl,-⟩:=hR.val;have hl:=hR.lrs
   match rs,hl,hR with
   | [d],_,hR =>
    obtain ⟨xs,vs,rfl,h2,h3,h4⟩:=hR.cells 0 (.fresh e sz) d v rfl rfl rfl;have hr:Rep W' (fun b=>F' b∨v.ownBlock=some b) (.l sz xs) v:=zkf h2 h3 h4 (fun _ h=>.inl h) (fun g hg=>.inr hg);refine ⟨hb,[v],_,zm1 (F':=fun b=>F' b∨v.ownBlock=some b) ⟨rfl,rfl⟩ (fun c hc=>?_) (fun j d hj _=>?_) rfl ⟨hr,trivial⟩ (fun g hg=>?_)⟩
    ·simp [zu] at hc
     exact .inr hc
    ·cases j <;> simp [zu] at hj
    ·rcases hg with hg|hg
     ·exact hR.own g hg
     ·exact .inr (z3a h3 hg)
  rcases h.1 hpk W F ds args rs hF ha hs with ⟨h1,h2⟩|⟨v,W',h1,h2⟩
  ·exact .inl ⟨h1,h2.mono fun e W' ⟨v,h3,h4⟩=>⟨v,h3,key v W' h4⟩⟩
  ·exact .inr ⟨v,W',h1,key v W' h2⟩
end
end Go.Proofs.YtaddehddalnliaaGreatDoor
noncomputable section
namespace Go.Proofs.YtaddehddalnliaaGreatDoor
open Go.RowKit
inductive Tri (α:Type) where
 | lf (x:α)
 | nd (n:Nat) (l r:Tri α)
 | em
def Tri.get {α:Type} (t:Tri α):Nat→Option α :=
 Tri.rec (motive:=fun _=>Nat→Option α) (fun x i=>Nat.rec (motive:=fun _=>Option α) (some x) (fun _ _=>none) i) (fun n _ _ gl gr i=>Bool.rec (motive:=fun _=>Option α) (gr (Nat.sub i n)) (gl i) (Nat.blt i n)) (fun _=>none) t
def Tri.set {α:Type} (t:Tri α):Nat→α→Tri α :=
 Tri.rec (motive:=fun _=>Nat→α→Tri α) (fun x i v=>Nat.rec (motive:=fun _=>Tri α) (.lf v) (fun _ _=>.lf x) i) (fun n l r sl sr i v=>Bool.rec (motive:=fun _=>Tri α) (.nd n l (sr (Nat.sub i n) v)) (.nd n (sl i v) r) (Nat.blt i n)) (fun _ _=>.em) t
def Tri.any {α:Type} (f:α→Bool) (t:Tri α):Bool:=Tri.rec (motive:=fun _=>Bool) (fun x=>f x) (fun _ _ _ a b=>Bool.rec (motive:=fun _=>Bool) b true a) false t
def Tri.all {α:Type} (f:α→Bool) (t:Tri α):Bool:=Tri.rec (motive:=fun _=>Bool) (fun x=>f x) (fun _ _ _ a b=>Bool.rec (motive:=fun _=>Bool) false b a) true t
def Tri.map {α β:Type} (f:α→β) (t:Tri α):Tri β:=Tri.rec (motive:=fun _=>Tri β) (fun x=>.lf (f x)) (fun n _ _ a b=>.nd n a b) .em t
def Tri.all2 {α:Type} (f:α→α→Bool) (t:Tri α):Tri α→Bool :=
 Tri.rec (motive:=fun _=>Tri α→Bool) (fun x u=>Tri.rec (motive:=fun _=>Bool) (fun y=>f x y) (fun _ _ _ _ _=>false) false u) (fun n _ _ a b u=>Tri.rec (motive:=fun _=>Bool) (fun _=>false) (fun m l r _ _=>Bool.rec (motive:=fun _=>Bool) false (Bool.rec (motive:=fun _=>Bool) false (b r) (a l)) (Nat.beq n m)) false u) (fun u=>Tri.rec (motive:=fun _=>Bool) (fun _=>false) (fun _ _ _ _ _=>false) true u) t
def Tri.size {α:Type} (t:Tri α):Nat:=Tri.rec (motive:=fun _=>Nat) (fun _=>1) (fun n _ _ _ b=>Nat.add n b) 0 t
def Tri.rep {α:Type} (x:α):Nat→Nat→Tri α
 | 0,_=>.em
 | d+1,n=>match n with
  | 0=>.em
  | 1=>.lf x
  | n=>.nd (n / 2) (Tri.rep x d (n / 2)) (Tri.rep x d (n - n / 2))
def Tri.puts {α:Type}:Nat→List α→Tri α→Tri α
 | _,[],t=>t
 | i,x::xs,t=>Tri.puts (i+1) xs (t.set i x)
def zdf {α:Type} (τ:Tri SV) (ω:Tri (Option Ob)) (m:Rd α):Option α :=
 Rd.rec (motive:=fun _=>Option α) (fun a=>some a) none (fun i _ ih=>Option.rec (motive:=fun _=>Option α) none (fun x=>ih x) (τ.get i)) (fun i _ ih=>Option.rec (motive:=fun _=>Option α) none (fun x=>ih x) (ω.get i)) m
def logT {α:Type} (τ:Tri SV) (ω:Tri (Option Ob)) (m:Rd α):List Loc :=
 Rd.rec (motive:=fun _=>List Loc) (fun _=>[]) [] (fun i _ ih=>Option.rec (motive:=fun _=>List Loc) [] (fun x=>.t i::ih x) (τ.get i)) (fun i _ ih=>Option.rec (motive:=fun _=>List Loc) [] (fun x=>.o i::ih x) (ω.get i)) m
structure SF where
 τ:Tri SV
 ω:Tri (Option Ob)
 n:Nat
 lvl:Nat
 kn:List (Nat × Bool)
 kb:Nat
 σ:List (Tri SV)
def fN {β:Type} (n:Nat) (k:Nat→β):β:=Nat.rec (motive:=fun _=>β) (k 0) (fun m _=>k (Nat.succ m)) n
def fL {α β:Type} (f:α→(α→β)→β) (l:List α):(List α→β)→β:=List.rec (motive:=fun _=>(List α→β)→β) (fun k=>k []) (fun x _ ih k=>f x fun x=>ih fun xs=>k (x::xs)) l
def fA {β:Type} (a:Atom) (k:Atom→β):β:=match a with
 | .v n=>fN n fun n=>k (.v n)
 | .c l=>k (.c l)
def fOp {β:Type} (o:Option Atom) (k:Option Atom→β):β:=match o with
 | none=>k none
 | some a=>fA a fun a=>k (some a)
def fPr {β:Type} (p:Atom × Atom) (k:Atom × Atom→β):β:=fA p.1 fun a=>fA p.2 fun b=>k (a,b)
def fX {β:Type} (x:X) (k:X→β):β:=match x with
 | .B op a b=>fA a fun a=>fA b fun b=>k (.B op a b)
 | .eqs n ps=>fL fPr ps fun ps=>k (.eqs n ps)
 | .beq n a b=>fA a fun a=>fA b fun b=>k (.beq n a b)
 | .not a=>fA a fun a=>k (.not a)
 | .neg a=>fA a fun a=>k (.neg a)
 | .conv c a=>fA a fun a=>k (.conv c a)
 | .len a=>fA a fun a=>k (.len a)
 | .slen a=>fA a fun a=>k (.slen a)
 | .inr s a i=>fN s fun s=>fA a fun a=>fA i fun i=>k (.inr s a i)
 | .idx a i j=>fA a fun a=>fA i fun i=>fN j fun j=>k (.idx a i j)
 | .sub s a l h=>fN s fun s=>fA a fun a=>fOp l fun l=>fOp h fun h=>k (.sub s a l h)
 | .mk s r=>fN s fun s=>fL (fL fA) r fun r=>k (.mk s r)
 | .app s a b=>fN s fun s=>fA a fun a=>fA b fun b=>k (.app s a b)
 | .set a i j vs=>fA a fun a=>fA i fun i=>fN j fun j=>fL fA vs fun vs=>k (.set a i j vs)
 | .ite c a b=>fA c fun c=>fA a fun a=>fA b fun b=>k (.ite c a b)
 | .scal a=>fA a fun a=>k (.scal a)
 | .call c l j=>fN c fun c=>fL fA l fun l=>fN j fun j=>k (.call c l j)
 | .sel l i=>fL fA l fun l=>fA i fun i=>k (.sel l i)
 | .ssub a l h=>fA a fun a=>fOp l fun l=>fOp h fun h=>k (.ssub a l h)
 | .mkz s z a=>fN s fun s=>fA a fun a=>k (.mkz s z a)
 | .mn a b=>fA a fun a=>fA b fun b=>k (.mn a b)
 | .ise n a=>fA a fun a=>k (.ise n a)
 | .mget z a i j=>fA a fun a=>fA i fun i=>fN j fun j=>k (.mget z a i j)
 | .mhas a i=>fA a fun a=>fA i fun i=>k (.mhas a i)
 | .mput v a i l=>fN v fun v=>fA a fun a=>fA i fun i=>fL fA l fun l=>k (.mput v a i l)
def fNN {β:Type} (p:Nat × Nat) (k:Nat × Nat→β):β:=fN p.1 fun a=>fN p.2 fun b=>k (a,b)
def fC {β:Type} (c:C1) (k:C1→β):β:=match c with
 | .top=>k .top
 | .und=>k .und
 | .at a=>fA a fun a=>k (.at a)
 | .bp a b=>fN a fun a=>fN b fun b=>k (.bp a b)
 | .ep a i o=>fA a fun a=>fA i fun i=>fN o fun o=>k (.ep a i o)
 | .row a=>fN a fun a=>k (.row a)
 | .rp a i s o=>fN a fun a=>fA i fun i=>fN s fun s=>fN o fun o=>k (.rp a i s o)
 | .fn f cs=>fN f fun f=>fL fNN cs fun cs=>k (.fn f cs)
def fBl {β:Type} (b:Bool) (k:Bool→β):β:=match b with
 | true=>k true
 | false=>k false
def fPt {β:Type} (p:Bool × List C1) (k:Bool × List C1→β):β:=fBl p.1 fun a=>fL fC p.2 fun b=>k (a,b)
def fV {β:Type} (v:SV) (k:SV→β):β:=match v with
 | .one c=>fC c fun c=>k (.one c)
 | .agg cs=>fL fC cs fun cs=>k (.agg cs)
 | .tup ps=>fL fPt ps fun ps=>k (.tup ps)
def fO {β:Type} (o:Option Ob) (k:Option Ob→β):β:=match o with
 | none=>k none
 | some (.box t cs)=>fN t fun t=>fL fC cs fun cs=>k (some (.box t cs))
 | some (.ext cs)=>fL fC cs fun cs=>k (some (.ext cs))
 | some (.row e s a)=>fN e fun e=>fN s fun s=>fA a fun a=>k (some (.row e s a))
 | some (.frz a)=>fA a fun a=>k (some (.frz a))
 | some .dead=>k (some .dead)
 | some (.gone a)=>fA a fun a=>k (some (.gone a))
 | some (.map t v g a)=>fN t fun t=>fN v fun v=>fBl g fun g=>fA a fun a=>k (some (.map t v g a))
def fW {β:Type} (w:Wr) (k:Wr→β):β:=match w with
 | .t i v=>fN i fun i=>fV v fun v=>k (.t i v)
 | .o i v=>fN i fun i=>fO v fun v=>k (.o i v)
def fE {β:Type} (e:Eff) (k:Eff→β):β:=fL fX e.xs fun xs=>fL fX e.ck fun ck=>fL fW e.ws fun ws=>k ⟨xs,ck,ws⟩
def fLo {β:Type} (l:Loc) (k:Loc→β):β:=match l with
 | .t i=>fN i fun i=>k (.t i)
 | .o i=>fN i fun i=>k (.o i)
namespace Fast
def fK {β:Type} (l:List (Nat × Bool)) (k:List (Nat × Bool)→β):β:=match l with
 | []=>k []
 | (a,b)::r=>fN a fun a=>k ((a,b)::r)
def wrT (τ:Tri SV) (ω:Tri (Option Ob)):List Wr→Tri SV × Tri (Option Ob)
 | []=>(τ,ω)
 | .t i v::ws=>wrT (τ.set i v) ω ws
 | .o i v::ws=>wrT τ (ω.set i v) ws
def guardOf (ops:List Oper) (s:SF) (o:Oper):Gd:=match o.guard with
 | none=>.yes
 | some (j,want)=>match (ops[j]?).bind (·.dst) with
  | none=>.fail
  | some d=>match s.τ.get d with
   | some (.one .und)=>.no
   | some (.one (.at a))=>match evB s.kn a with
    | some b=>if b=want then .yes else .no
    | none=>match a with
     | .v v=>.ask v
     | _=>.fail
   | _=>.fail
def regDo (cx:Cx) (nt:Nat) (ops:List Oper) (o:Oper) (s:SF) (k:SF→Rec→Option T):Option T :=
 let m:=zp cx s.kb s.n nt s.kn o
 match zdf s.τ s.ω m with
 | none=>none
 | some e=>fE e fun e=>fN (s.n+e.xs.length) fun n=>fL fLo (z7h ops o++logT s.τ s.ω m) fun lg =>
  let p:=wrT s.τ s.ω e.ws
  fK (zr8 cx s.n e.xs s.kn) fun kn =>
  match k { s with τ:=p.1,ω:=p.2,n:=n,kn:=kn } ⟨o,s.n,s.kn,true,e,lg⟩ with
  | none=>none
  | some t=>some (z016 e t)
def regSkip (ops:List Oper) (o:Oper) (s:SF) (k:SF→Rec→Option T):Option T :=
 let e:Eff:=⟨[],[],z02 o (.one .und)⟩
 let p:=wrT s.τ s.ω e.ws
 k { s with τ:=p.1,ω:=p.2 } ⟨o,s.n,s.kn,false,e,z7h ops o⟩
def learn (s:SF) (v:Nat) (b:Bool):SF:={ s with kn:=if Nat.ble knB v=true then s.kn else (v,b)::s.kn }
def regRun (cx:Cx) (nt:Nat) (ops:List Oper):List Oper→SF→List Rec→(SF→List Rec→Option T)→Option T
 | [],s,rs,k=>k s rs
 | o::rest,s,rs,k =>
  match guardOf ops s o with
  | .yes=>regDo cx nt ops o s fun s r=>regRun cx nt ops rest s (rs++[r]) k
  | .no=>regSkip ops o s fun s r=>regRun cx nt ops rest s (rs++[r]) k
  | .ask v =>
   let want:=match o.guard with|some (_,w)=>w|none=>true
   match regDo cx nt ops o (learn s v want) (fun s r=>regRun cx nt ops rest s (rs++[r]) k),regSkip ops o (learn s v (!want)) (fun s r=>regRun cx nt ops rest s (rs++[r]) k) with
   | some t,some e=>some (if want then .ite (.v v) t e else .ite (.v v) e t)
   | _,_=>none
  | .fail=>none
abbrev S3:=Tri SV × Tri (Option Ob) × List (Tri SV)
def renKey (k i:Nat) (p:S3):S3:=match p.2.1.get k,p.2.1.get i with
 | some (some o),some none=>if k=i then p else (p.1.map (SV.ren k i),((p.2.1.set k none).set i (some o)).map (Option.map (Ob.ren k i)),p.2.2.map (Tri.map (SV.ren k i)))
 | _,_=>p
def noRef (k:Nat) (τ:Tri SV) (ω:Tri (Option Ob)) (σ:List (Tri SV)):Bool:=!τ.any (SV.refs k) && (!ω.any fun o=>match o with
 | some o=>o.refs k
 | none=>false) && !σ.any (Tri.any (SV.refs k))
def topAll (τ:Tri SV):List Nat→Tri SV
 | []=>τ
 | i::is=>topAll (τ.set i (.one .top)) is
def dropAll (τ:Tri SV) (ω:Tri (Option Ob)) (σ:List (Tri SV)):List Nat→Tri (Option Ob)
 | []=>ω
 | k::ks=>match ω.get k with
  | some (some _)=>if noRef k τ ω σ then dropAll τ (ω.set k none) σ ks else dropAll τ ω σ ks
  | _=>dropAll τ ω σ ks
def rowKey (kb i e sz:Nat) (p:S3):S3 :=
 match p.1.get i with
 | some (.one (.at (.c (.nil z))))=>match p.2.1.get (kb+i) with
  | some none=>if z=sz then (p.1.set i (.one (.row (kb+i))),p.2.1.set (kb+i) (some (.row e sz (.c (.nil sz)))),p.2.2) else p
  | _=>p
 | some (.one (.row k))=>renKey k (kb+i) p
 | _=>p
def cellKey (k j key:Nat) (p:S3):S3:=match p.2.1.get (k) with
 | some (some (.box _ cs))=>match cs[j]? with
  | some (.row q)=>renKey q key p
  | _=>p
 | _=>p
def nilKey (k j key e sz:Nat) (p:S3):S3:=match p.2.1.get k with
 | some (some (.box t cs))=>match cs[j]? with
  | some (.at (.c (.nil z)))=>match p.2.1.get key with
   | some none=>if z=sz then (p.1,(p.2.1.set key (some (.row e sz (.c (.nil sz))))).set k (some (.box t (cs.set j (.row key)))),p.2.2) else p
   | _=>p
  | _=>p
 | _=>p
def rowKeys (kb:Nat) (p:S3):List Cy→S3
 | []=>p
 | .n k j key e sz::cs=>rowKeys kb (nilKey k j key e sz p) cs
 | .r i e sz::cs=>rowKeys kb (rowKey kb i e sz p) cs
 | .c k j key::cs=>rowKeys kb (cellKey k j key p) cs
 | _::cs=>rowKeys kb p cs
def normS (ds:List Nat) (cy:List Cy) (s:SF):S3 :=
 let keep:=cyT cy
 let τ:=topAll s.τ ((ds.filter fun d => !keep.contains d)++cyZ cy)
 let ω:=dropAll τ s.ω s.σ (List.range s.ω.size)
 rowKeys s.kb (τ,ω,s.σ) cy
def genL (kb n:Nat) (τ:Tri SV) (ω:Tri (Option Ob)):Cy→(Tri SV × Tri (Option Ob)) × List Atom
 | .t i=>match τ.get i with
  | some (.one (.at a))=>((τ.set i (.one (.at (.v n))),ω),[a])
  | some (.agg cs)=>let r:=zr9 n cs;((τ.set i (.agg r.1),ω),r.2)
  | _=>((τ,ω),[])
 | .r i _ _=>match ω.get (kb+i) with
  | some (some (.row e sz a))=>((τ,ω.set (kb+i) (some (.row e sz (.v n)))),[a])
  | _=>((τ,ω),[])
 | .o k | .c _ _ k=>match ω.get k with
  | some (some (.row e sz a))=>((τ,ω.set k (some (.row e sz (.v n)))),[a])
  | some (some (.box t cs))=>let r:=zr9 n cs;((τ,ω.set k (some (.box t r.1))),r.2)
  | some (some (.map t vs g a))=>((τ,ω.set k (some (.map t vs g (.v n)))),[a])
  | _=>((τ,ω),[])
 | .z _ | .n .. => ((τ,ω),[])
def gen (kb n:Nat) (τ:Tri SV) (ω:Tri (Option Ob)):List Cy→(Tri SV × Tri (Option Ob)) × List Atom
 | []=>((τ,ω),[])
 | c::cs =>
  let p:=genL kb n τ ω c
  let q:=gen kb (n+p.2.length) p.1.1 p.1.2 cs
  (q.1,p.2++q.2)
def oT (m:Nat):Option Ob→Bool
 | some o=>inO m o
 | none=>true
def bqA (a b:Atom):Bool:=match a,b with
 | .v n,.v m=>Nat.beq n m
 | .c x,.c y=>decide (x=y)
 | _,_=>false
def bqP:List (Nat × Nat)→List (Nat × Nat)→Bool
 | [],[]=>true
 | (a,b)::r,(c,d)::s=>Nat.beq a c && Nat.beq b d && bqP r s
 | _,_=>false
def bqC (a b:C1):Bool:=match a,b with
 | .top,.top=>true
 | .und,.und=>true
 | .at a,.at b=>bqA a b
 | .bp a b,.bp c d=>Nat.beq a c && Nat.beq b d
 | .ep a i o,.ep a' i' o'=>bqA a a' && bqA i i' && Nat.beq o o'
 | .row a,.row b=>Nat.beq a b
 | .rp a i s o,.rp a' i' s' o'=>Nat.beq a a' && bqA i i' && Nat.beq s s' && Nat.beq o o'
 | .fn f cs,.fn g ds=>Nat.beq f g && bqP cs ds
 | _,_=>false
def bqCs:List C1→List C1→Bool
 | [],[]=>true
 | a::r,b::s=>bqC a b && bqCs r s
 | _,_=>false
def bqB (a b:Bool):Bool:=match a with
 | true=>b
 | false => !b
def bqPs:List (Bool × List C1)→List (Bool × List C1)→Bool
 | [],[]=>true
 | (a,b)::r,(c,d)::s=>bqB a c && bqCs b d && bqPs r s
 | _,_=>false
def bqV (a b:SV):Bool:=match a,b with
 | .one a,.one b=>bqC a b
 | .agg a,.agg b=>bqCs a b
 | .tup a,.tup b=>bqPs a b
 | _,_=>false
def bqO (a b:Option Ob):Bool:=match a,b with
 | none,none=>true
 | some (.box t c),some (.box t' c')=>Nat.beq t t' && bqCs c c'
 | some (.ext c),some (.ext c')=>bqCs c c'
 | some (.row e s a),some (.row e' s' a')=>Nat.beq e e' && Nat.beq s s' && bqA a a'
 | some (.frz a),some (.frz a')=>bqA a a'
 | some .dead,some .dead=>true
 | some (.gone a),some (.gone a')=>bqA a a'
 | some (.map t v g a),some (.map t' v' g' a')=>Nat.beq t t' && Nat.beq v v' && bqB g g' && bqA a a'
 | _,_=>false
def bqS:List (Tri SV)→List (Tri SV)→Bool
 | [],[]=>true
 | a::r,b::s=>Tri.all2 bqV a b && bqS r s
 | _,_=>false
def sameS (n:Nat) (as0:List Atom) (σ:List (Tri SV)) (τ:Tri SV) (ω:Tri (Option Ob)) (τ':Tri SV) (ω':Tri (Option Ob)) (σ':List (Tri SV)):Bool :=
 bqS σ' σ && σ.all (Tri.all (inV (n+as0.length))) && bqS (σ.map (Tri.map (sbV n as0))) σ &&
 τ.all (inV (n+as0.length)) && ω.all (oT (n+as0.length)) && Tri.all2 bqV (τ.map (sbV n as0)) τ' && Tri.all2 bqO (ω.map (Option.map (sbO n as0))) ω'
def inlOf (fx:Fx) (s:SF) (o:Oper):Option (FnI × List SV):=match o.op with
 | .call c=>match c.callee with
  | .value fx'=>match zdf s.τ s.ω (evC fx.cx 0 fx') with
   | some (.fn f caps)=>match zd5 f fx.fns with
    | some g=>match zdf s.τ s.ω (zbk fx.cx c.args.toList c.argTypes.toList) with
     | some vs=>some (g,vs++caps.map fun p=>.one (.bp p.1 p.2))
     | none=>none
    | none=>none
   | _=>none
  | _=>none
 | _=>none
def freeKey (ω:Tri (Option Ob)):Nat→Nat→Option Nat
 | 0,_=>none
 | m+1,k=>match ω.get k with
  | some none=>some k
  | some (some _)=>freeKey ω m (k+1)
  | none=>none
def toPool (pool:Nat) (p:S3):List Nat→S3
 | []=>p
 | k::ks=>match p.2.1.get k with
  | some (some _)=>match freeKey p.2.1 100 pool with
   | some i=>toPool pool (renKey k i p) ks
   | none=>toPool pool p ks
  | _=>toPool pool p ks
abbrev Inl:=Fx→FnI→List SV→Oper→SF→(SF→Option T)→Option T
def z0uz:Inl:=fun _ _ _ _ _ _=>none
def seqRun (inl:Inl) (fx:Fx) (ops:List Oper):List Oper→SF→(SF→Option T)→Option T
 | [],s,k=>k s
 | o::rest,s,k =>
  let go:SF→Option T:=fun s=>match inlOf fx s o with
   | some (g,vs)=>inl fx g vs o s fun s=>seqRun inl fx ops rest s k
   | none=>regDo fx.cx fx.nt ops o s fun s _=>seqRun inl fx ops rest s k
  match guardOf ops s o with
  | .yes=>go s
  | .no=>regSkip ops o s fun s _=>seqRun inl fx ops rest s k
  | .ask v =>
   let want:=match o.guard with|some (_,w)=>w|none=>true
   match go (learn s v want),regSkip ops o (learn s v (!want)) (fun s _=>seqRun inl fx ops rest s k) with
   | some t,some e=>some (if want then .ite (.v v) t e else .ite (.v v) e t)
   | _,_=>none
  | .fail=>none
def segRun (inl:Inl) (fx:Fx) (ops:List Oper) (an:List (List Nat)):Nat→Nat→SF→(SF→Option T)→Option T
 | 0,_,_,_=>none
 | m+1,off,s,k=>match zd6 fx.fns an ops.length (ops.drop off) off with
  | some i=>match ops[i]? with
   | some o'=>if midB an i ops.length && o'.guard.isNone && Nat.ble off i then
     regRun fx.cx fx.nt ops ((ops.drop off).take (i - off)) s [] fun s' rs=>if z9k an off rs then (match inlOf fx s' o' with
      | some (g,vs)=>inl fx g vs o' s' fun s2=>segRun inl fx ops an m (i+1) s2 k
      | none=>regDo fx.cx fx.nt ops o' s' fun s2 _=>segRun inl fx ops an m (i+1) s2 k) else none
    else none
   | none=>none
  | none=>regRun fx.cx fx.nt ops (ops.drop off) s [] fun s' rs=>if z9k an off rs then k s' else none
def exec (inl:Inl) (fx:Fx):Code→SF→(Ex→SF→Option T)→Option T
 | .skip,s,k=>k .normal s
 | .label _,s,k=>k .normal s
 | .region _ ops draw,s,k=>if draw=false then seqRun inl fx ops.toList ops.toList s fun s'=>k .normal s' else
  if zca 0 ops.toList=false then none else
  segRun inl fx ops.toList (z4j ops.toList []) 40 0 s fun s'=>k .normal s'
 | .seq a b,s,k=>exec inl fx a s fun e s'=>match e with
  | .normal=>exec inl fx b s' k
  | e=>k e s'
 | .cond c x y,s,k=>match zdf s.τ s.ω (evA fx.cx 0 c) with
  | none=>none
  | some a=>match evB s.kn a with
   | some true=>exec inl fx x s k
   | some false=>exec inl fx y s k
   | none=>match a with
    | .v v=>match exec inl fx x (learn s v true) k,exec inl fx y (learn s v false) k with
     | some t,some e=>some (.ite (.v v) t e)
     | _,_=>none
    | _=>none
 | .block id b,s,k=>exec inl fx b s fun e s'=>match e with
  | .exit j=>if j=id then k .normal s' else k (.exit j) s'
  | e=>k e s'
 | .exit id,s,k=>k (.exit id) s
 | .ret,s,k=>k .ret s
 | .loop b,s,k =>
  let cy:=z00 b fx.hints
  let ds:=z11 b
  let p:=normS ds cy s
  let g:=gen s.kb s.n p.1 p.2.1 cy
  let n:=s.n
  if sameS n g.2 p.2.2 g.1.1 g.1.2 p.1 p.2.1 p.2.2 then
   match exec inl fx b { s with τ:=g.1.1,ω:=g.1.2,n:=n+g.2.length,lvl:=s.lvl+1,σ:=p.2.2 } (fun e s'=>match e with
    | .normal =>
     let p':=normS ds cy s'
     let g':=gen s.kb n p'.1 p'.2.1 cy
     if s'.kb=s.kb∧g'.2.length=g.2.length∧sameS n g'.2 p.2.2 g.1.1 g.1.2 p'.1 p'.2.1 p'.2.2 then some (.again s.lvl g'.2) else none
    | e=>k e s') with
   | some t=>some (.loop g.2 t)
   | none=>none
  else none
 | _,_,_=>none
def rowArgs (z:List Nat) (τ:Tri SV) (o:Oper):List Nat:=cutZ z++match o.op with
 | .call c=>c.args.toList.filterMap fun x=>match x with
  | .tmp t=>match τ.get t with
   | some (.one (.row _))=>some t
   | _=>none
  | _=>none
 | _=>[]
def inlD:Nat→Inl
 | 0,_,_,_,_,_,_=>none
 | d+1,fx,g,vs,o,s,k =>
  if g.nt<vs.length∨2048<g.nt then none else
  exec (inlD d) { fx with cx:={ fx.cx with cut:=g.cut },nt:=g.nt,hints:=g.hints } g.body { s with τ:=Tri.puts 0 vs (Tri.rep (.one .und) 12 g.nt),kb:=s.kb+fx.mul * fx.nt,σ:=topAll s.τ (rowArgs fx.cx.cut s.τ o)::s.σ } fun e s2=>match e with
   | .exit _=>none
   | _=>match zdf s2.τ s2.ω (z81 fx.cx g.results) with
    | none=>none
    | some svs=>match zbl svs with
     | none=>none
     | some sv =>
      match s2.σ with
      | []=>none
      | τ0::σ0=>if Nat.beq τ0.size s.τ.size=false then none else
      let p:=wrT τ0 s2.ω (z02 o sv)
      let ω:=dropAll p.1 p.2 σ0 (List.range p.2.size)
      let q:=toPool fx.pool (p.1,ω,σ0) (List.range' (s.kb+fx.mul * fx.nt) (fx.mul * g.nt))
      k { s2 with τ:=q.1,ω:=q.2.1,σ:=q.2.2,kb:=s.kb }
def initS (sig:Sig) (nt cap:Nat):SF :=
 let r:=z07 0 cap sig.args
 ⟨Tri.puts 0 r.1 (Tri.rep (.one .und) 12 nt),Tri.puts cap (r.2.1.map some) (Tri.rep none 14 (cap+r.2.1.length)),r.2.2,0,[],0,[]⟩
def outOf (cx:Cx) (sig:Sig) (rs:List ResultVar) (s:SF):Option T:=do
 let vs ← zdf s.τ s.ω (z81 cx rs)
 let p ← zdf s.τ s.ω (zkc sig.res vs)
 let ks:=p.filterMap (·.2.1)
 let qs:=p.filterMap (·.2.2)
 if z94 ks && ks.all (fun k => !qs.contains k) then some (.ret (p.map (·.1))) else none
def fT {β:Type} (t:T) (k:T→β):β:=match t with
 | .ret l=>fL fA l fun l=>k (.ret l)
 | .W xs ck t=>fL fX xs fun xs=>fL fX ck fun ck=>fT t fun t=>k (.W xs ck t)
 | .ite a t e=>fA a fun a=>fT t fun t=>fT e fun e=>k (.ite a t e)
 | .loop l b=>fL fA l fun l=>fT b fun b=>k (.loop l b)
 | .again n l=>fN n fun n=>fL fA l fun l=>k (.again n l)
def decomp (fx:Fx) (sig:Sig) (fn:Func):Option T :=
 if (fx.nt≠fn.ntmps∨fn.ntmps<sig.args.length)∨z4h sig.args=true∨2048<fn.ntmps∨8192<fx.cap+(z07 0 fx.cap sig.args).2.1.length∨fn.ntmps<(z07 0 fx.cap sig.args).1.length then none else
 match fn.body with
 | none=>none
 | some c=>exec (inlD fx.dep) fx c (initS sig fn.ntmps fx.cap) fun e s=>match e with
  | .exit _=>none
  | _=>outOf fx.cx sig fn.results.toList s
def decompN (fx:Fx) (sig:Sig) (fn:Func):Option T:=match decomp fx sig fn with
 | none=>none
 | some t=>fT t some
end Fast
end Go.Proofs.YtaddehddalnliaaGreatDoor
namespace Go.Proofs.YtaddehddalnliaaGreatDoor
section
open Go.RowKit
def Tri.toL {α:Type}:Tri α→List α
 | .lf x=>[x]
 | .nd _ l r=>l.toL++r.toL
 | .em=>[]
def Tri.wf {α:Type}:Tri α→Prop
 | .lf _=>True
 | .nd n l r=>l.toL.length=n∧l.wf∧r.wf
 | .em=>True
section
variable {α β:Type}
theorem Tri.get_nd (n:Nat) (l r:Tri α) (i:Nat):(Tri.nd n l r).get i=if i<n then l.get i else r.get (i - n):=by
 show Bool.rec (motive:=fun _=>Option α) (r.get (i - n)) (l.get i) (Nat.blt i n)=_
 by_cases h:i<n
 ·rw [if_pos h,show Nat.blt i n=true from Nat.ble_eq_true_of_le h]
 ·rw [if_neg h]
  have:Nat.blt i n=false:=by
   cases hb:Nat.blt i n with
   | false=>rfl
   | true=>exact absurd (Nat.le_of_ble_eq_true hb) h
  rw [this]
theorem Tri.set_nd (n:Nat) (l r:Tri α) (i:Nat) (v:α):(Tri.nd n l r).set i v=if i<n then .nd n (l.set i v) r else .nd n l (r.set (i - n) v):=by
 show Bool.rec (motive:=fun _=>Tri α) (.nd n l (r.set (i - n) v)) (.nd n (l.set i v) r) (Nat.blt i n)=_
 by_cases h:i<n
 ·rw [if_pos h,show Nat.blt i n=true from Nat.ble_eq_true_of_le h]
 ·rw [if_neg h]
  have:Nat.blt i n=false:=by
   cases hb:Nat.blt i n with
   | false=>rfl
   | true=>exact absurd (Nat.le_of_ble_eq_true hb) h
  rw [this]
theorem Tri.get_eq:∀ {t:Tri α} (h:t.wf) (i:Nat),t.get i=t.toL[i]?
 | .lf x,_,0=>rfl
 | .lf x,_,i+1=>rfl
 | .em,_,i=>rfl
 | .nd n l r,⟨h1,h2,h3⟩,i=>by
  rw [Tri.get_nd,Tri.toL]
  by_cases h:i<n
  ·rw [if_pos h,zY0l (by omega),Tri.get_eq h2]
  ·rw [if_neg h,zY0p (by omega),Tri.get_eq h3,h1]
theorem Tri.set_toL:∀ {t:Tri α} (h:t.wf) (i:Nat) (v:α),(t.set i v).toL=t.toL.set i v
 | .lf x,_,0,v=>rfl
 | .lf x,_,i+1,v=>rfl
 | .em,_,i,v=>rfl
 | .nd n l r,⟨h1,h2,h3⟩,i,v=>by
  rw [Tri.set_nd]
  by_cases h:i<n
  ·rw [if_pos h,Tri.toL,Tri.toL,Tri.set_toL h2,List.set_append,if_pos (by omega)]
  ·rw [if_neg h,Tri.toL,Tri.toL,Tri.set_toL h3,List.set_append,if_neg (by omega),h1]
theorem Tri.set_wf:∀ {t:Tri α} (h:t.wf) (i:Nat) (v:α),(t.set i v).wf
 | .lf x,_,0,v=>trivial
 | .lf x,_,i+1,v=>trivial
 | .em,_,i,v=>trivial
 | .nd n l r,⟨h1,h2,h3⟩,i,v=>by
  rw [Tri.set_nd]
  by_cases h:i<n
  ·rw [if_pos h];exact ⟨by rw [Tri.set_toL h2,zY2m,h1],Tri.set_wf h2 i v,h3⟩
  ·rw [if_neg h];exact ⟨h1,h2,Tri.set_wf h3 _ v⟩
theorem Tri.any_eq (f:α→Bool):∀ t:Tri α,t.any f=t.toL.any f
 | .lf x=>by simp [Tri.any,Tri.toL]
 | .em=>rfl
 | .nd n l r=>by
  have:(Tri.nd n l r).any f=(l.any f || r.any f):=by
   show Bool.rec (motive:=fun _=>Bool) (r.any f) true (l.any f)=_
   cases l.any f <;> rfl
  rw [this,Tri.toL,List.any_append,Tri.any_eq f l,Tri.any_eq f r]
theorem Tri.all_eq (f:α→Bool):∀ t:Tri α,t.all f=t.toL.all f
 | .lf x=>by simp [Tri.all,Tri.toL]
 | .em=>rfl
 | .nd n l r=>by
  have:(Tri.nd n l r).all f=(l.all f && r.all f):=by
   show Bool.rec (motive:=fun _=>Bool) false (r.all f) (l.all f)=_
   cases l.all f <;> rfl
  rw [this,Tri.toL,List.all_append,Tri.all_eq f l,Tri.all_eq f r]
theorem Tri.map_nd (f:α→β) (n:Nat) (l r:Tri α):(Tri.nd n l r).map f = .nd n (l.map f) (r.map f):=rfl
theorem Tri.map_toL (f:α→β):∀ t:Tri α,(t.map f).toL=t.toL.map f
 | .lf x=>rfl
 | .em=>rfl
 | .nd n l r=>by rw [Tri.map_nd,Tri.toL,Tri.toL,zY23,Tri.map_toL f l,Tri.map_toL f r]
theorem Tri.map_wf (f:α→β):∀ {t:Tri α},t.wf→(t.map f).wf
 | .lf x,_=>trivial
 | .em,_=>trivial
 | .nd n l r,⟨h1,h2,h3⟩=>⟨by show (l.map f).toL.length=n;rw [Tri.map_toL,zY0y,h1],Tri.map_wf f h2,Tri.map_wf f h3⟩
theorem Tri.all2_eq {f:α→α→Bool} (hf:∀ a b,f a b=true→a=b):∀ {t u:Tri α},t.all2 f u=true→t=u
 | .lf x,.lf y,h=>by rw [hf x y h]
 | .lf x,.nd ..,h=>by cases h
 | .lf x,.em,h=>by cases h
 | .em,.lf y,h=>by cases h
 | .em,.nd ..,h=>by cases h
 | .em,.em,h=>rfl
 | .nd n l r,.lf y,h=>by cases h
 | .nd n l r,.em,h=>by cases h
 | .nd n l r,.nd m l' r',h=>by
  have h:Bool.rec (motive:=fun _=>Bool) false (Bool.rec (motive:=fun _=>Bool) false (r.all2 f r') (l.all2 f l')) (Nat.beq n m)=true:=h
  cases h1:Nat.beq n m with
  | false=>rw [h1] at h;cases h
  | true =>
   rw [h1] at h
   cases h2:l.all2 f l' with
   | false=>rw [h2] at h;cases h
   | true =>
    rw [h2] at h;rw [zY0z h1,Tri.all2_eq hf h2,Tri.all2_eq hf (t:=r) (u:=r') h]
theorem Tri.size_eq:∀ {t:Tri α},t.wf→t.size=t.toL.length
 | .lf x,_=>rfl
 | .em,_=>rfl
 | .nd n l r,⟨h1,h2,h3⟩=>by
  have:(Tri.nd n l r).size=n+r.size:=rfl;rw [this,Tri.toL,zY04,h1,Tri.size_eq h3]
theorem Tri.rep_ok (x:α):∀ (d n:Nat),n≤2 ^ d→(Tri.rep x (d+1) n).toL=List.replicate n x∧(Tri.rep x (d+1) n).wf
 | d,0,_=>by unfold Tri.rep;exact ⟨rfl,trivial⟩
 | d,1,_=>by unfold Tri.rep;exact ⟨rfl,trivial⟩
 | 0,n+2,h=>by simp at h
 | d+1,n+2,h=>by
  have hp:2 ^ (d+1)=2 * 2 ^ d:=by rw [Nat.pow_succ];omega
  obtain ⟨h1,h2⟩:=Tri.rep_ok x d ((n+2) / 2) (by omega);obtain ⟨h3,h4⟩:=Tri.rep_ok x d (n+2 - (n+2) / 2) (by omega);have e:Tri.rep x (d+1+1) (n+2) = .nd ((n+2) / 2) (Tri.rep x (d+1) ((n+2) / 2)) (Tri.rep x (d+1) (n+2 - (n+2) / 2)):=rfl;rw [e];refine ⟨?_,?_,h2,h4⟩
  ·rw [Tri.toL,h1,h3,List.replicate_append_replicate]
   congr 1;omega
  ·rw [h1,zY24]
theorem Tri.puts_ok:∀ (xs:List α) (k:Nat) (t:Tri α),t.wf→k+xs.length≤t.toL.length→(Tri.puts k xs t).toL=t.toL.take k++xs++t.toL.drop (k+xs.length)∧(Tri.puts k xs t).wf
 | [],k,t,h,hl=>by unfold Tri.puts;exact ⟨by simp,h⟩
 | x::xs,k,t,h,hl=>by
  unfold Tri.puts;simp only [zY0a] at hl;obtain ⟨h1,h2⟩:=Tri.puts_ok xs (k+1) (t.set k x) (Tri.set_wf h k x) (by rw [Tri.set_toL h,zY2m];omega);refine ⟨?_,h2⟩;rw [h1,Tri.set_toL h];have hk:k<t.toL.length:=by omega
  rw [List.take_succ_eq_append_getElem (by rw [zY2m];exact hk),List.getElem_set_self];rw [List.take_set_of_le (zY0k k),List.drop_set_of_lt (by omega)];simp only [zY0a,zY1b,zY1h,zY17];rw [show k+(xs.length+1)=k+1+xs.length by omega]
end
section
variable {β:Type}
theorem zbb (n:Nat) (k:Nat→β):fN n k=k n:=by cases n <;> rfl
theorem z7a {α:Type} {f:α→(α→β)→β} (hf:∀ x k,f x k=k x):∀ (l:List α) (k:List α→β),fL f l k=k l
 | [],k=>rfl
 | x::xs,k=>by
  show f x (fun x=>fL f xs fun xs=>k (x::xs))=k (x::xs)
  rw [hf,z7a hf xs]
theorem zgr (a:Atom) (k:Atom→β):fA a k=k a:=by cases a <;> simp [fA,zbb]
theorem z0tq (a:Option Atom) (k:Option Atom→β):fOp a k=k a:=by cases a <;> simp [fOp,zgr]
theorem z0tr (a:Atom × Atom) (k:Atom × Atom→β):fPr a k=k a:=by simp [fPr,zgr]
theorem zio (l:List Atom) (k:List Atom→β):fL fA l k=k l:=z7a zgr l k
theorem z0h1 (x:X) (k:X→β):fX x k=k x:=by
 cases x <;> simp [fX,zgr,zbb,z0tq,z7a z0tr,zio,z7a (f:=fL fA) zio]
theorem z0ts (a:Nat × Nat) (k:Nat × Nat→β):fNN a k=k a:=by simp [fNN,zbb]
theorem z017 (c:C1) (k:C1→β):fC c k=k c:=by cases c <;> simp [fC,zgr,zbb,z7a z0ts]
theorem z0kk (b:Bool) (k:Bool→β):fBl b k=k b:=by cases b <;> rfl
theorem z0tt (a:Bool × List C1) (k:Bool × List C1→β):fPt a k=k a:=by simp [fPt,z0kk,z7a z017]
theorem z0v1 (v:SV) (k:SV→β):fV v k=k v:=by cases v <;> simp [fV,z017,z7a z017,z7a z0tt]
theorem z0v2 (o:Option Ob) (k:Option Ob→β):fO o k=k o:=by
 cases o with
 | none=>rfl
 | some o=>cases o <;> simp [fO,zbb,zgr,z7a z017,z0kk]
theorem z0v3 (w:Wr) (k:Wr→β):fW w k=k w:=by cases w <;> simp [fW,zbb,z0v1,z0v2]
theorem z0v4 (e:Eff) (k:Eff→β):fE e k=k e:=by simp [fE,z7a z0h1,z7a z0v3]
theorem z0tu (l:Loc) (k:Loc→β):fLo l k=k l:=by cases l <;> simp [fLo,zbb]
theorem zos:∀ (t:T) (k:T→β),Fast.fT t k=k t
 | .ret l,k=>by rw [Fast.fT,zio]
 | .W xs ck t,k=>by rw [Fast.fT,z7a z0h1,z7a z0h1,zos t]
 | .ite a t e,k=>by rw [Fast.fT,zgr,zos t,zos e]
 | .loop l b,k=>by rw [Fast.fT,zio,zos b]
 | .again n l,k=>by rw [Fast.fT,zbb,zio]
end
theorem zbo {a b:Atom} (h:Fast.bqA a b=true):a=b:=by
 cases a <;> cases b <;> simp only [Fast.bqA,decide_eq_true_eq,zY0v] at h
 ·rw [zY0z h]
 ·rw [h]
theorem z0kl:∀ {a b:List (Nat × Nat)},Fast.bqP a b=true→a=b
 | [],[],_=>rfl
 | [],_::_,h=>by cases h
 | _::_,[],h=>by cases h
 | (a,b)::r,(c,d)::s,h=>by
  simp only [Fast.bqP,zY0d] at h;rw [zY0z h.1.1,zY0z h.1.2,z0kl h.2]
theorem z0km {a b:C1} (h:Fast.bqC a b=true):a=b:=by
 cases a <;> cases b <;> simp only [Fast.bqC,zY0d,zY0v] at h <;> try rfl
 ·rw [zbo h]
 ·rw [zY0z h.1,zY0z h.2]
 ·rw [zbo h.1.1,zbo h.1.2,zY0z h.2]
 ·rw [zY0z h]
 ·rw [zY0z h.1.1.1,zbo h.1.1.2,zY0z h.1.2,zY0z h.2]
 ·rw [zY0z h.1,z0kl h.2]
theorem zfo:∀ {a b:List C1},Fast.bqCs a b=true→a=b
 | [],[],_=>rfl
 | [],_::_,h=>by cases h
 | _::_,[],h=>by cases h
 | a::r,c::s,h=>by
  simp only [Fast.bqCs,zY0d] at h;rw [z0km h.1,zfo h.2]
theorem z0kn {a b:Bool} (h:Fast.bqB a b=true):a=b:=by cases a <;> cases b <;> first|rfl|cases h
theorem z0ft:∀ {a b:List (Bool × List C1)},Fast.bqPs a b=true→a=b
 | [],[],_=>rfl
 | [],_::_,h=>by cases h
 | _::_,[],h=>by cases h
 | (a,b)::r,(c,d)::s,h=>by
  simp only [Fast.bqPs,zY0d] at h;rw [z0kn h.1.1,zfo h.1.2,z0ft h.2]
theorem z0ko (a b:SV) (h:Fast.bqV a b=true):a=b:=by
 cases a <;> cases b <;> simp only [Fast.bqV,zY0v] at h
 ·rw [z0km h]
 ·rw [zfo h]
 ·rw [z0ft h]
theorem z0tv (a b:Option Ob) (h:Fast.bqO a b=true):a=b:=by
 cases a with
 | none=>cases b with
  | none=>rfl
  | some b=>cases h
 | some a=>cases b with
  | none=>cases a <;> cases h
  | some b =>
   cases a <;> cases b <;> simp only [Fast.bqO,zY0d,zY0v] at h <;> try rfl
   ·rw [zY0z h.1,zfo h.2]
   ·rw [zfo h]
   ·rw [zY0z h.1.1,zY0z h.1.2,zbo h.2]
   ·rw [zbo h]
   ·rw [zbo h]
   ·rw [zY0z h.1.1.1,zY0z h.1.1.2,z0kn h.1.2,zbo h.2]
theorem z02c:∀ {a b:List (Tri SV)},Fast.bqS a b=true→a=b
 | [],[],_=>rfl
 | [],_::_,h=>by cases h
 | _::_,[],h=>by cases h
 | a::r,c::s,h=>by
  simp only [Fast.bqS,zY0d] at h;rw [Tri.all2_eq z0ko h.1,z02c h.2]
theorem zrk {α:Type} {τ:Tri SV} {ω:Tri (Option Ob)} (h1:τ.wf) (h2:ω.wf):∀ m:Rd α,zdf τ ω m=m.run τ.toL ω.toL
 | .pure a=>rfl
 | .fail=>rfl
 | .t i k=>by
  show Option.rec (motive:=fun _=>Option α) none (fun x=>zdf τ ω (k x)) (τ.get i)=_
  rw [Tri.get_eq h1,Rd.run]
  cases τ.toL[i]? with
  | none=>rfl
  | some x=>exact zrk h1 h2 (k x)
 | .o i k=>by
  show Option.rec (motive:=fun _=>Option α) none (fun x=>zdf τ ω (k x)) (ω.get i)=_
  rw [Tri.get_eq h2,Rd.run]
  cases ω.toL[i]? with
  | none=>rfl
  | some x=>exact zrk h1 h2 (k x)
theorem zrl {α:Type} {τ:Tri SV} {ω:Tri (Option Ob)} (h1:τ.wf) (h2:ω.wf):∀ m:Rd α,logT τ ω m=m.log τ.toL ω.toL
 | .pure a=>rfl
 | .fail=>rfl
 | .t i k=>by
  show Option.rec (motive:=fun _=>List Loc) [] (fun x=>Loc.t i::logT τ ω (k x)) (τ.get i)=_
  rw [Tri.get_eq h1,Rd.log]
  cases τ.toL[i]? with
  | none=>rfl
  | some x=>exact congrArg _ (zrl h1 h2 (k x))
 | .o i k=>by
  show Option.rec (motive:=fun _=>List Loc) [] (fun x=>Loc.o i::logT τ ω (k x)) (ω.get i)=_
  rw [Tri.get_eq h2,Rd.log]
  cases ω.toL[i]? with
  | none=>rfl
  | some x=>exact congrArg _ (zrl h1 h2 (k x))
def Tri.Is {α:Type} (t:Tri α) (l:List α):Prop:=t.wf∧t.toL=l
def IsS (σ:List (Tri SV)) (l:List SV):Prop:=(∀ t ∈ σ,t.wf)∧σ.flatMap Tri.toL=l
theorem Tri.Is.get {α:Type} {t:Tri α} {l:List α} (h:t.Is l) (i:Nat):t.get i=l[i]?:=by rw [Tri.get_eq h.1,h.2]
theorem Tri.Is.set {α:Type} {t:Tri α} {l:List α} (h:t.Is l) (i:Nat) (v:α):(t.set i v).Is (l.set i v):=⟨Tri.set_wf h.1 i v,by rw [Tri.set_toL h.1,h.2]⟩
theorem Tri.Is.map {α β:Type} {t:Tri α} {l:List α} (h:t.Is l) (f:α→β):(t.map f).Is (l.map f):=⟨Tri.map_wf f h.1,by rw [Tri.map_toL,h.2]⟩
theorem IsS.map {σ:List (Tri SV)} {l:List SV} (h:IsS σ l) (f:SV→SV):IsS (σ.map (Tri.map f)) (l.map f):=by
 obtain ⟨h1,rfl⟩:=h;refine ⟨fun t ht=>?_,?_⟩
 ·obtain ⟨u,hu,rfl⟩:=zY2w.1 ht
  exact Tri.map_wf f (h1 u hu)
 ·induction σ with
  | nil=>rfl
  | cons t σ ih=>simp only [zY1q,zY1v,zY23,Tri.map_toL,ih fun u hu=>h1 u (zY0i _ hu)]
theorem IsS.any {σ:List (Tri SV)} {l:List SV} (h:IsS σ l) (f:SV→Bool):σ.any (Tri.any f)=l.any f:=by
 obtain ⟨h1,rfl⟩:=h
 induction σ with
 | nil=>rfl
 | cons t σ ih=>simp only [zY38,zY1v,List.any_append,Tri.any_eq,ih fun u hu=>h1 u (zY0i _ hu)]
theorem IsS.all {σ:List (Tri SV)} {l:List SV} (h:IsS σ l) (f:SV→Bool):σ.all (Tri.all f)=l.all f:=by
 obtain ⟨h1,rfl⟩:=h
 induction σ with
 | nil=>rfl
 | cons t σ ih=>simp only [List.all_cons,zY1v,List.all_append,Tri.all_eq,ih fun u hu=>h1 u (zY0i _ hu)]
theorem Tri.Is.run {α:Type} {τ:Tri SV} {ω:Tri (Option Ob)} {τ':List SV} {ω':List (Option Ob)} (h1:τ.Is τ') (h2:ω.Is ω') (m:Rd α):zdf τ ω m=m.run τ' ω':=by rw [zrk h1.1 h2.1,h1.2,h2.2]
theorem Tri.Is.log {α:Type} {τ:Tri SV} {ω:Tri (Option Ob)} {τ':List SV} {ω':List (Option Ob)} (h1:τ.Is τ') (h2:ω.Is ω') (m:Rd α):logT τ ω m=m.log τ' ω':=by rw [zrl h1.1 h2.1,h1.2,h2.2]
theorem zip:∀ (ws:List Wr) {τ:Tri SV} {ω:Tri (Option Ob)} {τ':List SV} {ω':List (Option Ob)},τ.Is τ'→ω.Is ω'→(Fast.wrT τ ω ws).1.Is (wr τ' ω' ws).1∧(Fast.wrT τ ω ws).2.Is (wr τ' ω' ws).2
 | [],_,_,_,_,h1,h2=>⟨h1,h2⟩
 | .t i v::ws,_,_,_,_,h1,h2=>zip ws (h1.set i v) h2
 | .o i v::ws,_,_,_,_,h1,h2=>zip ws h1 (h2.set i v)
structure Rl (a:SF) (b:St):Prop where
 τ:a.τ.Is b.τ
 ω:a.ω.Is b.ω
 n:a.n=b.n
 lvl:a.lvl=b.lvl
 kn:a.kn=b.kn
 kb:a.kb=b.kb
 σ:IsS a.σ b.σ
theorem zot {a:SF} {b:St} (h:Rl a b) (ops:List Oper) (o:Oper):Fast.guardOf ops a o=guardOf ops b o:=by
 unfold Fast.guardOf guardOf;rw [h.kn]
 cases o.guard with
 | none=>rfl
 | some p =>
  simp only
  cases (ops[p.1]?).bind (·.dst) with
  | none=>rfl
  | some d =>
   simp only [h.τ.get];rfl
theorem z0v5 {β:Type} (l:List (Nat × Bool)) (k:List (Nat × Bool)→β):Fast.fK l k=k l:=by
 rcases l with _|⟨⟨x,y⟩,r⟩
 ·rfl
 ·show fN x (fun a=>k ((a,y)::r))=_
  rw [zbb]
theorem zeg {a:SF} {b:St} (h:Rl a b) {cx:Cx} {nt:Nat} {ops:List Oper} {o:Oper} {kF:SF→Rec→Option T} {k:St→Rec→Option T} (hk:∀ a b r t,Rl a b→kF a r=some t→k b r=some t) {t:T} (he:Fast.regDo cx nt ops o a kF=some t):regDo cx nt ops o b k=some t:=by
 unfold Fast.regDo at he;unfold regDo;simp only [z0v4,zbb,z7a z0tu,z0v5,h.n,h.kb,h.kn,h.τ.run h.ω,h.τ.log h.ω] at he ⊢
 cases hr:(zp cx b.kb b.n nt b.kn o).run b.τ b.ω with
 | none=>rw [hr] at he;cases he
 | some e =>
  rw [hr] at he;simp only at he ⊢;obtain ⟨w1,w2⟩:=zip e.ws h.τ h.ω
  split at he
  ·cases he
  ·rename_i t' ht
   have hh:=fun h'=>hk _ { b with τ:=(wr b.τ b.ω e.ws).1,ω:=(wr b.τ b.ω e.ws).2,n:=b.n+e.xs.length,kn:=zr8 cx b.n e.xs b.kn } _ t' h' ht
   have:=hh ⟨w1,w2,rfl,h.lvl,rfl,rfl,h.σ⟩;rw [this];exact he
theorem zbc {a:SF} {b:St} (h:Rl a b) {ops:List Oper} {o:Oper} {kF:SF→Rec→Option T} {k:St→Rec→Option T} (hk:∀ a b r t,Rl a b→kF a r=some t→k b r=some t) {t:T} (he:Fast.regSkip ops o a kF=some t):regSkip ops o b k=some t:=by
 unfold Fast.regSkip at he;unfold regSkip;simp only [h.n,h.kn] at he ⊢;obtain ⟨w1,w2⟩:=zip (z02 o (.one .und)) h.τ h.ω;have hh:=fun s h'=>hk _ s _ t h' he
 exact hh _ ⟨w1,w2,rfl,h.lvl,rfl,h.kb,h.σ⟩
theorem z99 {a:SF} {b:St} (h:Rl a b) (v:Nat) (x:Bool):Rl (Fast.learn a v x) (learn b v x):=⟨h.τ,h.ω,h.n,h.lvl,by show (if Nat.ble knB v=true then a.kn else (v,x)::a.kn)=(if Nat.ble knB v=true then b.kn else (v,x)::b.kn);rw [h.kn],h.kb,h.σ⟩
theorem zgs {cx:Cx} {nt:Nat} {ops:List Oper} {kF:SF→List Rec→Option T} {k:St→List Rec→Option T} (hk:∀ a b r t,Rl a b→kF a r=some t→k b r=some t):∀ (l:List Oper) {a:SF} {b:St} (h:Rl a b) (rs:List Rec) {t:T} (he:Fast.regRun cx nt ops l a rs kF=some t),regRun cx nt ops l b rs k=some t
 | [],a,b,h,rs,t,he=>hk a b rs t h he
 | o::l,a,b,h,rs,t,he=>by
  rw [Fast.regRun] at he;rw [regRun];rw [zot h] at he;have step:∀ a b r t,Rl a b→Fast.regRun cx nt ops l a (rs++[r]) kF=some t→regRun cx nt ops l b (rs++[r]) k=some t:=fun a b r t h he=>zgs hk l h _ he
  cases hg:guardOf ops b o with
  | yes=>rw [hg] at he;simp only at he ⊢;exact zeg h step he
  | no=>rw [hg] at he;simp only at he ⊢;exact zbc h step he
  | fail=>rw [hg] at he;cases he
  | ask v =>
   rw [hg] at he;simp only at he ⊢;generalize hgd:o.guard=g at he;rcases g with _|⟨gj,gw⟩
   all_goals
    simp only at he ⊢
    split at he
    ·rename_i x y h1 h2
     rw [zeg (z99 h v _) step h1,zbc (z99 h v _) step h2];exact he
    ·cases he
structure RlP (p:Fast.S3) (q:S3):Prop where
 τ:p.1.Is q.1
 ω:p.2.1.Is q.2.1
 σ:IsS p.2.2 q.2.2
theorem zgt {p:Fast.S3} {q:S3} (h:RlP p q) (k i:Nat):RlP (Fast.renKey k i p) (renKey k i q):=by
 unfold Fast.renKey renKey;rw [h.ω.get,h.ω.get];generalize q.2.1[k]? = x;generalize q.2.1[i]? = y;rcases x with _|_|o
 ·exact h
 ·exact h
 ·rcases y with _|_|o'
  ·exact h
  ·show RlP (if k=i then p else _) (if k=i then q else _)
   split
   ·exact h
   ·exact ⟨h.τ.map _,((h.ω.set _ _).set _ _).map _,h.σ.map _⟩
  ·exact h
theorem z0o8 {τ:Tri SV} {ω:Tri (Option Ob)} {σ:List (Tri SV)} {τ':List SV} {ω':List (Option Ob)} {σ':List SV} (h1:τ.Is τ') (h2:ω.Is ω') (h3:IsS σ σ') (k:Nat):Fast.noRef k τ ω σ=noRef k τ' ω' σ':=by
 unfold Fast.noRef noRef;rw [Tri.any_eq,Tri.any_eq,h1.2,h2.2,h3.any];rfl
theorem ziq:∀ (l:List Nat) {τ:Tri SV} {τ':List SV},τ.Is τ'→(Fast.topAll τ l).Is (topAll τ' l)
 | [],_,_,h=>h
 | i::l,_,_,h=>ziq l (h.set i _)
theorem z83 {τ:Tri SV} {σ:List (Tri SV)} {τ':List SV} {σ':List SV} (h1:τ.Is τ') (h3:IsS σ σ'):∀ (l:List Nat) {ω:Tri (Option Ob)} {ω':List (Option Ob)},ω.Is ω'→(Fast.dropAll τ ω σ l).Is (dropAll τ' ω' σ' l)
 | [],_,_,h=>h
 | k::l,ω,ω',h=>by
  rw [Fast.dropAll,dropAll,h.get,z0o8 h1 h h3];generalize ω'[k]? = x;rcases x with _|_|v
  ·exact z83 h1 h3 l h
  ·exact z83 h1 h3 l h
  ·show Tri.Is (if noRef k τ' ω' σ'=true then _ else _) (if noRef k τ' ω' σ'=true then _ else _)
   split
   ·exact z83 h1 h3 l (h.set k _)
   ·exact z83 h1 h3 l h
theorem z0h2 {p:Fast.S3} {q:S3} (h:RlP p q) (kb i e sz:Nat):RlP (Fast.rowKey kb i e sz p) (rowKey kb i e sz q):=by
 unfold Fast.rowKey rowKey;rw [h.τ.get];generalize q.1[i]? = x;rcases x with _|v
 ·exact h
 cases v with
 | agg cs=>exact h
 | tup ps=>exact h
 | one c =>
  cases c with
  | row k=>exact zgt h _ _
  | «at» a =>
   cases a with
   | v n=>exact h
   | c l =>
    cases l with
    | nil z =>
     show RlP (match p.2.1.get (kb+i) with|some none=>_|_=>_) (match q.2.1[kb+i]? with|some none=>_|_=>_)
     rw [h.ω.get];generalize q.2.1[kb+i]? = y;rcases y with _|_|o
     ·exact h
     ·show RlP (if z=sz then _ else _) (if z=sz then _ else _)
      split
      ·exact ⟨h.τ.set _ _,h.ω.set _ _,h.σ⟩
      ·exact h
     ·exact h
    | _=>exact h
  | _=>exact h
theorem z0bw {p:Fast.S3} {q:S3} (h:RlP p q) (k j key:Nat):RlP (Fast.cellKey k j key p) (cellKey k j key q):=by
 unfold Fast.cellKey cellKey;rw [h.ω.get];generalize q.2.1[k]? = x;rcases x with _|_|o
 ·exact h
 ·exact h
 cases o with
 | box t cs =>
  show RlP (match cs[j]? with|some (.row q)=>_|_=>_) (match cs[j]? with|some (.row q)=>_|_=>_)
  generalize cs[j]? = y;rcases y with _|c
  ·exact h
  ·cases c with
   | row k=>exact zgt h _ _
   | _=>exact h
 | _=>exact h
theorem z0h3 {p:Fast.S3} {q:S3} (h:RlP p q) (k j key e sz:Nat):RlP (Fast.nilKey k j key e sz p) (nilKey k j key e sz q):=by
 unfold Fast.nilKey nilKey;rw [h.ω.get];generalize q.2.1[k]? = x;rcases x with _|_|o
 ·exact h
 ·exact h
 cases o with
 | box t cs =>
  show RlP (match cs[j]? with|some (.at (.c (.nil z)))=>_|_=>_) (match cs[j]? with|some (.at (.c (.nil z)))=>_|_=>_)
  generalize cs[j]? = y;rcases y with _|c
  ·exact h
  cases c with
  | «at» a =>
   cases a with
   | v n=>exact h
   | c l =>
    cases l with
    | nil z =>
     show RlP (match p.2.1.get key with|some none=>_|_=>_) (match q.2.1[key]? with|some none=>_|_=>_)
     rw [h.ω.get];generalize q.2.1[key]? = y;rcases y with _|_|o
     ·exact h
     ·show RlP (if z=sz then _ else _) (if z=sz then _ else _)
      split
      ·exact ⟨h.τ,(h.ω.set _ _).set _ _,h.σ⟩
      ·exact h
     ·exact h
    | _=>exact h
  | _=>exact h
 | _=>exact h
theorem z62 (kb:Nat):∀ (l:List Cy) {p:Fast.S3} {q:S3},RlP p q→RlP (Fast.rowKeys kb p l) (rowKeys kb q l)
 | [],_,_,h=>h
 | .r i e sz::l,_,_,h=>z62 kb l (z0h2 h kb i e sz)
 | .c k j key::l,_,_,h=>z62 kb l (z0bw h k j key)
 | .t _::l,_,_,h=>z62 kb l h
 | .o _::l,_,_,h=>z62 kb l h
 | .z _::l,_,_,h=>z62 kb l h
 | .n k j key e sz::l,_,_,h=>z62 kb l (z0h3 h k j key e sz)
theorem zuf {a:SF} {b:St} (h:Rl a b) (ds:List Nat) (cy:List Cy):RlP (Fast.normS ds cy a) (normS ds cy b):=by
 unfold Fast.normS normS;simp only;rw [h.kb,Tri.size_eq h.ω.1,h.ω.2];have ht:=ziq ((ds.filter fun d => !(cyT cy).contains d)++cyZ cy) h.τ;exact z62 _ _ ⟨ht,z83 ht h.σ _ h.ω,h.σ⟩
structure RlG (p:(Tri SV × Tri (Option Ob)) × List Atom) (q:(List SV × List (Option Ob)) × List Atom):Prop where
 τ:p.1.1.Is q.1.1
 ω:p.1.2.Is q.1.2
 l:p.2=q.2
theorem z0o9 {τ:Tri SV} {ω:Tri (Option Ob)} {τ':List SV} {ω':List (Option Ob)} (h1:τ.Is τ') (h2:ω.Is ω') (kb n:Nat):∀ c:Cy,RlG (Fast.genL kb n τ ω c) (genL kb n τ' ω' c)
 | .t i=>by
  rw [Fast.genL,genL,h1.get];generalize τ'[i]? = x;rcases x with _|v
  ·exact ⟨h1,h2,rfl⟩
  cases v with
  | one c=>cases c <;> first|exact ⟨h1,h2,rfl⟩|exact ⟨h1.set _ _,h2,rfl⟩
  | agg cs=>exact ⟨h1.set _ _,h2,rfl⟩
  | tup ps=>exact ⟨h1,h2,rfl⟩
 | .r i e sz=>by
  rw [Fast.genL,genL,h2.get];generalize ω'[kb+i]? = x;rcases x with _|_|o
  ·exact ⟨h1,h2,rfl⟩
  ·exact ⟨h1,h2,rfl⟩
  ·cases o <;> first|exact ⟨h1,h2,rfl⟩|exact ⟨h1,h2.set _ _,rfl⟩
 | .o k=>by
  rw [Fast.genL,genL,h2.get];generalize ω'[k]? = x;rcases x with _|_|o
  ·exact ⟨h1,h2,rfl⟩
  ·exact ⟨h1,h2,rfl⟩
  ·cases o <;> first|exact ⟨h1,h2,rfl⟩|exact ⟨h1,h2.set _ _,rfl⟩
 | .c _ _ k=>by
  rw [Fast.genL,genL,h2.get];generalize ω'[k]? = x;rcases x with _|_|o
  ·exact ⟨h1,h2,rfl⟩
  ·exact ⟨h1,h2,rfl⟩
  ·cases o <;> first|exact ⟨h1,h2,rfl⟩|exact ⟨h1,h2.set _ _,rfl⟩
 | .z _=>⟨h1,h2,rfl⟩
 | .n .. => ⟨h1,h2,rfl⟩
theorem zrm (kb:Nat):∀ (cy:List Cy) (n:Nat) {τ:Tri SV} {ω:Tri (Option Ob)} {τ':List SV} {ω':List (Option Ob)},τ.Is τ'→ω.Is ω'→RlG (Fast.gen kb n τ ω cy) (gen kb n τ' ω' cy)
 | [],n,_,_,_,_,h1,h2=>⟨h1,h2,rfl⟩
 | c::cs,n,τ,ω,τ',ω',h1,h2=>by
  have h:=z0o9 h1 h2 kb n c;have h':=zrm kb cs (n+(genL kb n τ' ω' c).2.length) h.τ h.ω;have e:n+(Fast.genL kb n τ ω c).2.length=n+(genL kb n τ' ω' c).2.length:=by rw [h.l]
  show RlG ((Fast.gen kb (n+(Fast.genL kb n τ ω c).2.length) (Fast.genL kb n τ ω c).1.1 (Fast.genL kb n τ ω c).1.2 cs).1,(Fast.genL kb n τ ω c).2++(Fast.gen kb (n+(Fast.genL kb n τ ω c).2.length) (Fast.genL kb n τ ω c).1.1 (Fast.genL kb n τ ω c).1.2 cs).2) ((gen kb (n+(genL kb n τ' ω' c).2.length) (genL kb n τ' ω' c).1.1 (genL kb n τ' ω' c).1.2 cs).1,(genL kb n τ' ω' c).2++(gen kb (n+(genL kb n τ' ω' c).2.length) (genL kb n τ' ω' c).1.1 (genL kb n τ' ω' c).1.2 cs).2)
  rw [e];exact ⟨h'.τ,h'.ω,by rw [h.l,h'.l]⟩
theorem zug {n:Nat} {l:List Atom} {σ σ1:List (Tri SV)} {τ τ1:Tri SV} {ω ω1:Tri (Option Ob)} {σ' σ1':List SV} {τ' τ1':List SV} {ω' ω1':List (Option Ob)} (hσ:IsS σ σ') (hσ1:IsS σ1 σ1') (hτ:τ.Is τ') (hτ1:τ1.Is τ1') (hω:ω.Is ω') (hω1:ω1.Is ω1')
  (h:Fast.sameS n l σ τ ω τ1 ω1 σ1=true):sameS n l σ' τ' ω' τ1' ω1' σ1'=true:=by
 unfold Fast.sameS at h;simp only [zY0d] at h;obtain ⟨⟨⟨⟨⟨⟨h1,h2⟩,h3⟩,h4⟩,h5⟩,h6⟩,h7⟩:=h;have e1:σ1'=σ':=by rw [← hσ.2,← hσ1.2,z02c h1]
 have e3:σ'.map (sbV n l)=σ':=by
  have:=(hσ.map (sbV n l)).2;rw [z02c h3,hσ.2] at this;exact this.symm
 have e6:τ'.map (sbV n l)=τ1':=by
  have:=(hτ.map (sbV n l)).2;rw [Tri.all2_eq z0ko h6,hτ1.2] at this;exact this.symm
 have e7:ω'.map (Option.map (sbO n l))=ω1':=by
  have:=(hω.map (Option.map (sbO n l))).2;rw [Tri.all2_eq z0tv h7,hω1.2] at this;exact this.symm
 rw [hσ.all] at h2;rw [Tri.all_eq,hτ.2] at h4;rw [Tri.all_eq,hω.2] at h5;unfold sameS;simp only [zY0d,decide_eq_true_eq];exact ⟨⟨⟨⟨⟨⟨e1,h2⟩,e3⟩,h4⟩,h5⟩,e6⟩,e7⟩
end
section
open Go.RowKit
theorem z02d {a:SF} {b:St} (h:Rl a b) (fx:Fx) (o:Oper):Fast.inlOf fx a o=inlOf fx b o:=by
 unfold Fast.inlOf inlOf
 cases o.op with
 | call c =>
  simp only
  cases c.callee with
  | value fx' =>
   simp only;rw [h.τ.run h.ω];generalize (evC fx.cx 0 fx').run b.τ b.ω=x;rcases x with _|c1
   ·rfl
   ·cases c1 with
    | fn f caps =>
     simp only
     cases zd5 f fx.fns with
     | none=>rfl
     | some g =>
      simp only;rw [h.τ.run h.ω];rfl
    | _=>rfl
  | _=>rfl
 | _=>rfl
theorem zou {ω:Tri (Option Ob)} {ω':List (Option Ob)} (h:ω.Is ω'):∀ n k,Fast.freeKey ω n k=freeKey ω' n k
 | 0,k=>rfl
 | n+1,k=>by
  rw [Fast.freeKey,freeKey,h.get];generalize ω'[k]? = x;rcases x with _|_|o
  ·rfl
  ·rfl
  ·exact zou h n (k+1)
theorem z9u (pool:Nat):∀ (l:List Nat) {p:Fast.S3} {q:S3},RlP p q→RlP (Fast.toPool pool p l) (toPool pool q l)
 | [],_,_,h=>h
 | k::l,p,q,h=>by
  rw [Fast.toPool,toPool,h.ω.get];generalize q.2.1[k]? = x;rcases x with _|_|o
  ·exact z9u pool l h
  ·exact z9u pool l h
  ·show RlP (match Fast.freeKey p.2.1 100 pool with|some i=>_|none=>_) (match freeKey q.2.1 100 pool with|some i=>_|none=>_)
   rw [zou h.ω]
   cases freeKey q.2.1 100 pool with
   | none=>exact z9u pool l h
   | some i=>exact z9u pool l (zgt h k i)
def RlI (iF:Fast.Inl) (i:Inl):Prop:=∀ (fx:Fx) (g:FnI) (vs:List SV) (o:Oper) (a:SF) (b:St) (kF:SF→Option T) (k:St→Option T) (t:T),Rl a b→(∀ a b t,Rl a b→kF a=some t→k b=some t)→iF fx g vs o a kF=some t→i fx g vs o b k=some t
theorem zov {iF:Fast.Inl} {i:Inl} (hi:RlI iF i) {fx:Fx} {ops:List Oper} {kF:SF→Option T} {k:St→Option T} (hk:∀ a b t,Rl a b→kF a=some t→k b=some t):∀ (l:List Oper) {a:SF} {b:St} (h:Rl a b) {t:T},Fast.seqRun iF fx ops l a kF=some t→seqRun i fx ops l b k=some t
 | [],a,b,h,t,he=>hk a b t h he
 | o::l,a,b,h,t,he=>by
  rw [Fast.seqRun] at he;rw [seqRun];rw [zot h] at he;have step:∀ a b t,Rl a b→Fast.seqRun iF fx ops l a kF=some t→seqRun i fx ops l b k=some t:=fun a b t h he=>zov hi hk l h he
  have go:∀ a b t,Rl a b→(match Fast.inlOf fx a o with
    | some (g,vs)=>iF fx g vs o a fun s=>Fast.seqRun iF fx ops l s kF
    | none=>Fast.regDo fx.cx fx.nt ops o a fun s _=>Fast.seqRun iF fx ops l s kF)=some t→(match inlOf fx b o with
    | some (g,vs)=>i fx g vs o b fun s=>seqRun i fx ops l s k
    | none=>regDo fx.cx fx.nt ops o b fun s _=>seqRun i fx ops l s k)=some t:=by
   intro a b t h he;rw [z02d h] at he;generalize inlOf fx b o=io at he ⊢;rcases io with _|⟨g,vs⟩
   ·exact zeg h (fun a b _ t h he=>step a b t h he) he
   ·exact hi fx g vs o a b _ _ t h step he
  cases hg:guardOf ops b o with
  | yes=>rw [hg] at he;simp only at he ⊢;exact go a b t h he
  | no=>rw [hg] at he;simp only at he ⊢;exact zbc h (fun a b _ t h he=>step a b t h he) he
  | fail=>rw [hg] at he;cases he
  | ask v =>
   rw [hg] at he;simp only at he ⊢;generalize hgd:o.guard=g at he;rcases g with _|⟨gj,gw⟩
   all_goals
    simp only at he ⊢
    split at he
    ·rename_i x y h1 h2
     have g1:=go _ _ _ (z99 h v _) h1;have g2:=zbc (z99 h v _) (fun a b _ t h he=>step a b t h he) h2
     split
     ·rename_i x' y' e1 e2
      cases e1.symm.trans g1
      cases e2.symm.trans g2
      exact he
     ·rename_i hno
      exact (hno x y g1 g2).elim
    ·cases he
theorem zgu {iF:Fast.Inl} {i:Inl} (hi:RlI iF i) {fx:Fx} {ops:List Oper} {an:List (List Nat)} {kF:SF→Option T} {k:St→Option T} (hk:∀ a b t,Rl a b→kF a=some t→k b=some t):∀ (m off:Nat) {a:SF} {b:St} (h:Rl a b) {t:T},Fast.segRun iF fx ops an m off a kF=some t→segRun i fx ops an m off b k=some t
 | 0,off,a,b,h,t,he=>by cases he
 | m+1,off,a,b,h,t,he=>by
  rw [Fast.segRun] at he;rw [segRun]
  cases hsp:zd6 fx.fns an ops.length (ops.drop off) off with
  | none =>
   rw [hsp] at he;simp only at he ⊢;refine zgs (fun a b r t h he=>?_) _ h _ he
   by_cases hi':z9k an off r=true
   ·rw [if_pos hi'] at he ⊢
    exact hk a b t h he
   ·rw [if_neg hi'] at he;cases he
  | some j =>
   rw [hsp] at he;simp only at he ⊢
   cases hoj:ops[j]? with
   | none=>rw [hoj] at he;cases he
   | some o' =>
    rw [hoj] at he;simp only at he ⊢
    by_cases hm:(midB an j ops.length && o'.guard.isNone && Nat.ble off j)=true
    ·rw [if_pos hm] at he ⊢
     refine zgs (fun a b r t h he=>?_) _ h _ he
     by_cases hi':z9k an off r=true
     ·rw [if_pos hi'] at he ⊢
      rw [z02d h] at he;generalize inlOf fx b o'=io at he ⊢;rcases io with _|⟨g,vs⟩
      ·exact zeg h (fun a b _ t h he=>zgu hi hk m (j+1) h he) he
      ·exact hi fx g vs o' a b _ _ t h (fun a b t h he=>zgu hi hk m (j+1) h he) he
     ·rw [if_neg hi'] at he;cases he
    ·rw [if_neg hm] at he;cases he
theorem z63 {iF:Fast.Inl} {i:Inl} (hi:RlI iF i) {fx:Fx}:∀ (c:Code) {a:SF} {b:St} (h:Rl a b) {kF:Ex→SF→Option T} {k:Ex→St→Option T} (hk:∀ e a b t,Rl a b→kF e a=some t→k e b=some t) {t:T},Fast.exec iF fx c a kF=some t→exec i fx c b k=some t
 | .skip,a,b,h,kF,k,hk,t,he=>hk _ _ _ _ h he
 | .label _,a,b,h,kF,k,hk,t,he=>hk _ _ _ _ h he
 | .exit _,a,b,h,kF,k,hk,t,he=>hk _ _ _ _ h he
 | .ret,a,b,h,kF,k,hk,t,he=>hk _ _ _ _ h he
 | .region id ops draw,a,b,h,kF,k,hk,t,he=>by
  rw [Fast.exec] at he;rw [exec]
  cases draw with
  | false =>
   simp only [if_true] at he ⊢;exact zov hi (fun a b t h he=>hk _ a b t h he) _ h he
  | true =>
   simp only [Bool.true_eq_false,if_false] at he ⊢
   split at he
   ·cases he
   rename_i hb;rw [if_neg hb];exact zgu hi (fun a b t h he=>hk _ a b t h he) 40 0 h he
 | .seq x y,a,b,h,kF,k,hk,t,he=>by
  rw [Fast.exec] at he;rw [exec];refine z63 hi x h (fun e a b t h he=>?_) he
  cases e with
  | normal=>exact z63 hi y h hk he
  | exit j=>exact hk _ _ _ _ h he
  | ret=>exact hk _ _ _ _ h he
 | .cond c x y,a,b,h,kF,k,hk,t,he=>by
  rw [Fast.exec] at he;rw [exec];rw [h.τ.run h.ω,h.kn] at he
  cases hr:(evA fx.cx 0 c).run b.τ b.ω with
  | none=>rw [hr] at he;cases he
  | some at' =>
   rw [hr] at he;simp only at he ⊢
   cases hv:evB b.kn at' with
   | some z =>
    rw [hv] at he
    cases z with
    | true=>exact z63 hi x h hk he
    | false=>exact z63 hi y h hk he
   | none =>
    rw [hv] at he
    cases at' with
    | c l=>cases he
    | v v =>
     simp only at he ⊢
     split at he
     ·rename_i t1 t2 h1 h2
      rw [z63 hi x (z99 h v true) hk h1,z63 hi y (z99 h v false) hk h2];exact he
     ·cases he
 | .block id x,a,b,h,kF,k,hk,t,he=>by
  rw [Fast.exec] at he;rw [exec];refine z63 hi x h (fun e a b t h he=>?_) he
  cases e with
  | normal=>exact hk _ _ _ _ h he
  | exit j =>
   simp only at he ⊢
   by_cases hj:j=id
   ·rw [if_pos hj] at he ⊢;exact hk _ _ _ _ h he
   ·rw [if_neg hj] at he ⊢;exact hk _ _ _ _ h he
  | ret=>exact hk _ _ _ _ h he
 | .loop x,a,b,h,kF,k,hk,t,he=>by
  rw [Fast.exec] at he;rw [exec];simp only at he ⊢;have hp:=zuf h (z11 x) (z00 x fx.hints);have hg:=zrm b.kb (z00 x fx.hints) b.n hp.τ hp.ω;rw [h.kb,h.n] at he
  split at he
  ·rename_i hs
   rw [hg.l] at hs;have hs':=zug hp.σ hp.σ hg.τ hp.τ hg.ω hp.ω hs;rw [if_pos hs']
   split at he
   ·rename_i t' ht
    have hr:Rl { a with τ:=(Fast.gen b.kb b.n (Fast.normS (z11 x) (z00 x fx.hints) a).1 (Fast.normS (z11 x) (z00 x fx.hints) a).2.1 (z00 x fx.hints)).1.1,ω:=(Fast.gen b.kb b.n (Fast.normS (z11 x) (z00 x fx.hints) a).1 (Fast.normS (z11 x) (z00 x fx.hints) a).2.1 (z00 x fx.hints)).1.2,n:=b.n+(Fast.gen b.kb b.n (Fast.normS (z11 x) (z00 x fx.hints) a).1 (Fast.normS (z11 x) (z00 x fx.hints) a).2.1 (z00 x fx.hints)).2.length,lvl:=a.lvl+1,kb:=b.kb,σ:=(Fast.normS (z11 x) (z00 x fx.hints) a).2.2 }
      { b with τ:=(gen b.kb b.n (normS (z11 x) (z00 x fx.hints) b).1 (normS (z11 x) (z00 x fx.hints) b).2.1 (z00 x fx.hints)).1.1,ω:=(gen b.kb b.n (normS (z11 x) (z00 x fx.hints) b).1 (normS (z11 x) (z00 x fx.hints) b).2.1 (z00 x fx.hints)).1.2,n:=b.n+(gen b.kb b.n (normS (z11 x) (z00 x fx.hints) b).1 (normS (z11 x) (z00 x fx.hints) b).2.1 (z00 x fx.hints)).2.length,lvl:=b.lvl+1,σ:=(normS (z11 x) (z00 x fx.hints) b).2.2 } :=
     ⟨hg.τ,hg.ω,by simp only [hg.l],by simp only [h.lvl],h.kn,rfl,hp.σ⟩
    have:=z63 hi x hr (k:=fun e s'=>match e with
     | .normal =>
      if s'.kb=b.kb∧(gen b.kb b.n (normS (z11 x) (z00 x fx.hints) s').1 (normS (z11 x) (z00 x fx.hints) s').2.1 (z00 x fx.hints)).2.length=(gen b.kb b.n (normS (z11 x) (z00 x fx.hints) b).1 (normS (z11 x) (z00 x fx.hints) b).2.1 (z00 x fx.hints)).2.length ∧
        sameS b.n (gen b.kb b.n (normS (z11 x) (z00 x fx.hints) s').1 (normS (z11 x) (z00 x fx.hints) s').2.1 (z00 x fx.hints)).2 (normS (z11 x) (z00 x fx.hints) b).2.2 (gen b.kb b.n (normS (z11 x) (z00 x fx.hints) b).1 (normS (z11 x) (z00 x fx.hints) b).2.1 (z00 x fx.hints)).1.1 (gen b.kb b.n (normS (z11 x) (z00 x fx.hints) b).1 (normS (z11 x) (z00 x fx.hints) b).2.1 (z00 x fx.hints)).1.2 (normS (z11 x) (z00 x fx.hints) s').1 (normS (z11 x) (z00 x fx.hints) s').2.1 (normS (z11 x) (z00 x fx.hints) s').2.2
      then some (.again b.lvl (gen b.kb b.n (normS (z11 x) (z00 x fx.hints) s').1 (normS (z11 x) (z00 x fx.hints) s').2.1 (z00 x fx.hints)).2) else none
     | e=>k e s') (fun e a' b' t h' he=>?_) ht
    ·refine Eq.trans (congrArg (fun o:Option T=>match o with|some t=>some (T.loop (gen b.kb b.n (normS (z11 x) (z00 x fx.hints) b).1 (normS (z11 x) (z00 x fx.hints) b).2.1 (z00 x fx.hints)).2 t)|none=>none) this) ?_
     rw [hg.l] at he;exact he
    ·cases e with
     | exit j=>exact hk _ _ _ _ h' he
     | ret=>exact hk _ _ _ _ h' he
     | normal =>
      simp only at he ⊢;have hp':=zuf h' (z11 x) (z00 x fx.hints);have hg':=zrm b.kb (z00 x fx.hints) b.n hp'.τ hp'.ω
      split at he
      ·rename_i hc
       obtain ⟨c1,c2,c3⟩:=hc;rw [hg'.l,hg.l] at c2;rw [hg'.l] at c3;rw [if_pos ⟨by rw [← h'.kb];exact c1,c2,zug hp.σ hp'.σ hg.τ hp'.τ hg.ω hp'.ω c3⟩];rw [hg'.l,h.lvl] at he;exact he
      ·cases he
   ·cases he
  ·cases he
 | .rangeFunc ..,a,b,h,kF,k,hk,t,he=>by cases he
theorem z02e:∀ d,RlI (Fast.inlD d) (inlD d)
 | 0=>fun fx g vs o a b kF k t h hk he=>by cases he
 | d+1=>fun fx g vs o a b kF k t h hk he=>by
  rw [Fast.inlD] at he;rw [inlD]
  by_cases hl:g.nt<vs.length∨2048<g.nt
  ·rw [if_pos hl] at he;cases he
  rw [if_neg hl] at he;rw [if_neg (by omega)];obtain ⟨r1,r2⟩:=Tri.rep_ok (SV.one .und) 11 g.nt (by omega);obtain ⟨p1,p2⟩:=Tri.puts_ok vs 0 (Tri.rep (SV.one .und) 12 g.nt) r2 (by rw [r1,zY24];omega);have hτ:(Tri.puts 0 vs (Tri.rep (SV.one .und) 12 g.nt)).Is (vs++List.replicate (g.nt - vs.length) (.one .und)):=by
   refine ⟨p2,?_⟩;rw [p1,r1];simp only [List.take_zero,zY17,zY0x,List.drop_replicate]
  have hra:Fast.rowArgs fx.cx.cut a.τ o=rowArgs fx.cx.cut b.τ o:=by
   unfold Fast.rowArgs rowArgs;congr 1
   cases o.op with
   | call c =>
    simp only;congr 1
    funext x
    cases x with
    | tmp t=>simp only [h.τ.get];rfl
    | _=>rfl
   | _=>rfl
  have hT:=ziq (rowArgs fx.cx.cut b.τ o) h.τ;rw [hra] at he;have hσ:IsS (Fast.topAll a.τ (rowArgs fx.cx.cut b.τ o)::a.σ) (topAll b.τ (rowArgs fx.cx.cut b.τ o)++b.σ):=by
   refine ⟨fun t ht=>?_,by rw [zY1v,hT.2,h.σ.2]⟩;rcases zY0g.1 ht with rfl|ht
   ·exact hT.1
   ·exact h.σ.1 t ht
  refine z63 (z02e d) g.body (a:={ a with τ:=Tri.puts 0 vs (Tri.rep (.one .und) 12 g.nt),kb:=a.kb+fx.mul * fx.nt,σ:=Fast.topAll a.τ (rowArgs fx.cx.cut b.τ o)::a.σ }) (b:={ b with τ:=vs++List.replicate (g.nt - vs.length) (.one .und),kb:=b.kb+fx.mul * fx.nt,σ:=topAll b.τ (rowArgs fx.cx.cut b.τ o)++b.σ }) ⟨hτ,h.ω,h.n,h.lvl,h.kn,by simp only [h.kb],hσ⟩ (fun e a2 b2 t h2 he=>?_) he
  cases e with
  | exit j=>cases he
  | _ =>
   simp only at he ⊢;rw [h2.τ.run h2.ω] at he
   cases hr:(z81 fx.cx g.results).run b2.τ b2.ω with
   | none=>rw [hr] at he;cases he
   | some svs =>
    rw [hr] at he;simp only at he ⊢
    cases hv:zbl svs with
    | none=>rw [hv] at he;cases he
    | some sv =>
     rw [hv] at he;simp only at he ⊢
     split at he
     ·cases he
     ·rename_i τ0 σ0 hs
      split at he
      ·cases he
      ·rename_i hz
       have hz:τ0.size=a.τ.size:=by
        cases hb:Nat.beq τ0.size a.τ.size with
        | false=>exact absurd hb hz
        | true=>exact zY0z hb
       have hw:∀ t ∈ τ0::σ0,t.wf:=by rw [← hs];exact h2.σ.1
       have hf:τ0.toL++σ0.flatMap Tri.toL=b2.σ:=by rw [← zY1v,← hs];exact h2.σ.2
       have w0:=hw τ0 (zY0j ..);have hlen:τ0.toL.length=b.τ.length:=by rw [← Tri.size_eq w0,hz,Tri.size_eq h.τ.1,h.τ.2]
       have h0:τ0.Is (b2.σ.take b.τ.length):=⟨w0,by rw [← hf,← hlen,List.take_left]⟩
       have hσ0:IsS σ0 (b2.σ.drop b.τ.length):=⟨fun t ht=>hw t (zY0i _ ht),by rw [← hf,← hlen,List.drop_left]⟩
       obtain ⟨w1,w2⟩:=zip (z02 o sv) h0 h2.ω;rw [Tri.size_eq w2.1,w2.2,h.kb] at he;have hq:=z9u fx.pool (List.range' (b.kb+fx.mul * fx.nt) (fx.mul * g.nt)) (p:=((Fast.wrT τ0 a2.ω (z02 o sv)).1,Fast.dropAll (Fast.wrT τ0 a2.ω (z02 o sv)).1 (Fast.wrT τ0 a2.ω (z02 o sv)).2 σ0 (List.range (wr (b2.σ.take b.τ.length) b2.ω (z02 o sv)).2.length),σ0))
        (q:=((wr (b2.σ.take b.τ.length) b2.ω (z02 o sv)).1,dropAll (wr (b2.σ.take b.τ.length) b2.ω (z02 o sv)).1 (wr (b2.σ.take b.τ.length) b2.ω (z02 o sv)).2 (b2.σ.drop b.τ.length) (List.range (wr (b2.σ.take b.τ.length) b2.ω (z02 o sv)).2.length),b2.σ.drop b.τ.length)) ⟨w1,z83 w1 hσ0 _ w2,hσ0⟩
       have hh:=fun s h'=>hk _ s t h' he
       exact hh _ ⟨hq.τ,hq.ω,h2.n,h2.lvl,h2.kn,rfl,hq.σ⟩
theorem z0kp (sig:Sig) (nt cap:Nat) (h1:nt≤2048) (h2:cap+(z07 0 cap sig.args).2.1.length≤8192) (h3:(z07 0 cap sig.args).1.length≤nt):Rl (Fast.initS sig nt cap) (initS sig nt cap):=by
 obtain ⟨r1,r2⟩:=Tri.rep_ok (SV.one .und) 11 nt (by omega);obtain ⟨p1,p2⟩:=Tri.puts_ok (z07 0 cap sig.args).1 0 (Tri.rep (SV.one .und) 12 nt) r2 (by rw [r1,zY24];omega);obtain ⟨r3,r4⟩:=Tri.rep_ok (none:Option Ob) 13 (cap+(z07 0 cap sig.args).2.1.length) (by omega);obtain ⟨p3,p4⟩:=Tri.puts_ok ((z07 0 cap sig.args).2.1.map some) cap (Tri.rep (none:Option Ob) 14 (cap+(z07 0 cap sig.args).2.1.length)) r4 (by rw [r3,zY24,zY0y];omega);refine ⟨⟨p2,?_⟩,⟨p4,?_⟩,rfl,rfl,rfl,rfl,⟨fun t ht=>(by cases ht),rfl⟩⟩
 ·show (Tri.puts 0 (z07 0 cap sig.args).1 (Tri.rep (SV.one .und) 12 nt)).toL=(z07 0 cap sig.args).1++List.replicate (nt - (z07 0 cap sig.args).1.length) (.one .und)
  rw [p1,r1];simp only [List.take_zero,zY17,zY0x,List.drop_replicate]
 ·show (Tri.puts cap ((z07 0 cap sig.args).2.1.map some) (Tri.rep (none:Option Ob) 14 (cap+(z07 0 cap sig.args).2.1.length))).toL=List.replicate cap none++(z07 0 cap sig.args).2.1.map some
  rw [p3,r3];simp only [List.take_replicate,List.drop_replicate,zY0y,Nat.sub_self,List.replicate_zero,zY1e];rw [zY27 (by omega)]
theorem zuh {a:SF} {b:St} (h:Rl a b) (cx:Cx) (sig:Sig) (rs:List ResultVar):Fast.outOf cx sig rs a=outOf cx sig rs b:=by
 unfold Fast.outOf outOf;rw [h.τ.run h.ω]
 cases (z81 cx rs).run b.τ b.ω with
 | none=>rfl
 | some vs =>
  simp only [zY09,zY06];rw [h.τ.run h.ω]
theorem zfp {fx:Fx} {sig:Sig} {fn:Func} {t:T} (he:Fast.decompN fx sig fn=some t):decomp fx sig fn=some t:=by
 unfold Fast.decompN at he
 split at he
 ·cases he
 rename_i t' he';rw [zos] at he
 cases he
 unfold Fast.decomp at he';unfold decomp
 split at he'
 ·cases he'
 rename_i hc;rw [if_neg (by
  rintro (h|h)
  ·exact hc (.inl h)
  ·exact hc (.inr (.inl h)))]
 cases hb:fn.body with
 | none=>rw [hb] at he';cases he'
 | some c =>
  rw [hb] at he';simp only at he' ⊢;refine z63 (z02e fx.dep) c (z0kp sig fn.ntmps fx.cap (by omega) (by omega) (by omega)) (fun e a b t h he=>?_) he'
  cases e with
  | exit j=>cases he
  | normal=>rw [← zuh h];exact he
  | ret=>rw [← zuh h];exact he
end
section
open Go.RowKit
theorem zf {sp:Nat→za} {sigs:List (Nat × Sig)} {cut:List Nat} {hints:List Hint} {sig:Sig} {f:Nat} {fn:Func} {t:T} {spec:za} (hf:Tryz.prog.funcs[f]? = some fn) (hname:(fn.name == "runtime.NumGoroutine")=false)
  (hdec:Fast.decompN (fxOf zor sigs fn cut hints [] 0) sig fn=some t) (hsig:∀ ci f s,sigs[ci]? = some (f,s)→Meets Tryz.prog (sp ci) f s) (hspec:∀ ds rs,(∀ d ∈ ds,d.ok)→spec ds=some rs→(∃ N,den sp N t ds []=some rs)∧z7i sig rs):Meets Tryz.prog spec f sig :=
 z6h hf hname (zfp hdec) hsig hspec
theorem z6i {sp:Nat→za} {sigs:List (Nat × Sig)} {cut:List Nat} {hints:List Hint} {sig:Sig} {f:Nat} {fn:Func} {t:T} {spec:za} {fns:List FnI} {dep pool:Nat} (hf:Tryz.prog.funcs[f]? = some fn) (hname:(fn.name == "runtime.NumGoroutine")=false)
  (hdec:Fast.decompN (fxIn zor sigs fn cut hints fns dep pool) sig fn=some t) (hfn:∀ g ∈ fns,zdc Tryz.prog g) (hsig:∀ ci f s,sigs[ci]? = some (f,s)→Meets Tryz.prog (sp ci) f s) (hspec:∀ ds rs,(∀ d ∈ ds,d.ok)→spec ds=some rs→(∃ N,den sp N t ds []=some rs)∧z7i sig rs):Meets Tryz.prog spec f sig :=
 z0o7 hf hname (zfp hdec) hfn hsig hspec
def zy:List (Nat × za)→Nat→za
 | [],_=>fun _=>none
 | (i,s)::r,ci=>cond (Nat.beq ci i) s (zy r ci)
def AllM (P:Program) (sigs:List (Nat × Sig)):List (Nat × za)→Prop
 | []=>True
 | (i,s)::r=>(∀ f g,sigs[i]? = some (f,g)→Meets P s f g)∧AllM P sigs r
theorem z7 {P:Program} {sigs:List (Nat × Sig)} {i f0:Nat} {g0:Sig} {s:za} (h0:sigs[i]? = some (f0,g0)) (hm:Meets P s f0 g0):∀ f g,sigs[i]? = some (f,g)→Meets P s f g:=fun f g h=>by
 rw [h0] at h
 cases h
 exact hm
theorem zr {P:Program} {sigs:List (Nat × Sig)}:∀ {L:List (Nat × za)},AllM P sigs L→∀ ci f s,sigs[ci]? = some (f,s)→Meets P (zy L ci) f s
 | [],_,ci,f,s,_=>z0u f s
 | (i,sp)::r,⟨h1,h2⟩,ci,f,s,h=>by
  show Meets P (cond (Nat.beq ci i) sp (zy r ci)) f s
  cases hb:Nat.beq ci i with
  | true =>
   have:=zY0z hb;subst this;exact h1 f s h
  | false=>exact zr h2 ci f s h
class Enc (α:Type) where
 e:α→List Dt
 n:Nat
 len:∀ x,(e x).length=n
 inj:∀ x y,e x=e y→x=y
instance:Enc Int:=⟨zk,1,fun _=>rfl,zlw⟩
instance:Enc Bool:=⟨zgp,1,fun _=>rfl,fun x y h=>by simpa [zgp] using h⟩
instance (priority:=high):Enc (List UInt8):=⟨z0c,1,fun _=>rfl,z025⟩
instance:Enc Op:=⟨eOp,2,fun _=>rfl,zki⟩
instance:Enc Point:=⟨z35,2,fun _=>rfl,z9r⟩
instance:Enc In:=⟨eIn,3,fun _=>rfl,z0fr⟩
instance:Enc Out:=⟨z3b,2,fun _=>rfl,z026⟩
instance:Enc Tx:=⟨eTx,3,fun _=>rfl,zrh⟩
instance:Enc Coin:=⟨zh,6,fun _=>rfl,zee⟩
instance:Enc Undo:=⟨z9p,1,fun _=>rfl,z0kc⟩
instance:Enc Book:=⟨zed,1,fun _=>rfl,z0kd⟩
instance:Enc Block:=⟨z09,5,fun _=>rfl,zol⟩
instance:Enc Tree:=⟨zb8,2,fun _=>rfl,zu9⟩
instance:Enc Unit:=⟨fun _=>[],0,fun _=>rfl,fun _ _ _=>rfl⟩
instance {α:Type} [Enc α]:Enc (List α):=⟨fun l=>[.l (Enc.n α) (l.map Enc.e)],1,fun _=>rfl,fun x y h=>by
 simp only [zY22,Dt.l.injEq,true_and,and_true] at h
 exact z48 Enc.inj h⟩
instance {α β:Type} [Enc α] [Enc β]:Enc (α × β):=⟨fun x=>Enc.e x.1++Enc.e x.2,Enc.n α+Enc.n β,fun x=>by rw [zY04,Enc.len,Enc.len],fun x y h=>by
 obtain ⟨h1,h2⟩:=List.append_inj h (by rw [Enc.len,Enc.len])
 exact Prod.ext (Enc.inj _ _ h1) (Enc.inj _ _ h2)⟩
noncomputable def spD {α β:Type} [Enc α] [Enc β] (p:α→Prop) (f:α→β):za:=z01 (fun x:{ x:α // p x }=>Enc.e x.1) fun x=>Enc.e (f x.1)
section
variable {α β:Type} [Enc α] [Enc β] {p:α→Prop} {f:α→β}
theorem ze (x:α) (h:p x):spD p f (Enc.e x)=some (Enc.e (f x)):=z7j (e:=fun x:{ x:α // p x }=>Enc.e x.1) (fun x y h=>Subtype.ext (Enc.inj _ _ h)) ⟨x,h⟩
theorem zg {ds rs:List Dt} (h:spD p f ds=some rs):∃ x,p x∧ds=Enc.e x∧rs=Enc.e (f x):=by
 obtain ⟨x,rfl,rfl⟩:=z2x h;exact ⟨x.1,x.2,rfl,rfl⟩
end
def ret {ρ:Type} [Enc ρ] (x:ρ):Option (List Dt):=some (Enc.e x)
section
variable {ρ:Type} [Enc ρ] {sp:Nat→za} {N:Nat} {E:Env} {ks:List (List Dt→Option (List Dt))} {r1 r2:ρ} {a:Atom} {t e:T}
theorem z0ra {c:Prop} [Decidable c] {d:Bool} (h:a.val E=some (.b d)) (hd:d=decide c) (ht:c→den sp N t E ks=ret r1) (he:¬ c→den sp N e E ks=ret r2):den sp N (.ite a t e) E ks=ret (if c then r1 else r2):=by
 subst hd;refine z1g h (fun h=>?_) (fun h=>?_)
 ·have h:=of_decide_eq_true h;rw [if_pos h];exact ht h
 ·have h:=of_decide_eq_false h;rw [if_neg h];exact he h
theorem z0rb {c:Prop} [Decidable c] {d:Bool} (h:a.val E=some (.b (!d))) (hd:d=decide c) (ht:¬ c→den sp N t E ks=ret r2) (he:c→den sp N e E ks=ret r1):den sp N (.ite a t e) E ks=ret (if c then r1 else r2):=by
 subst hd;refine z1g h (fun h=>?_) (fun h=>?_)
 ·have h:¬ c:=by simpa using h
  rw [if_neg h];exact ht h
 ·have h:c:=by simpa using h
  rw [if_pos h];exact he h
theorem z0rc {b d:Bool} (h:a.val E=some (.b d)) (hd:d=b) (ht:b=true→den sp N t E ks=ret r1) (he:b=false→den sp N e E ks=ret r2):den sp N (.ite a t e) E ks=ret (if b=true then r1 else r2):=by
 subst hd;refine z1g h (fun h=>?_) (fun h=>?_)
 ·rw [if_pos h];exact ht h
 ·rw [if_neg (by simp [h])];exact he h
theorem z0oa {b d:Bool} (h:a.val E=some (.b (!d))) (hd:d=b) (ht:b=false→den sp N t E ks=ret r2) (he:b=true→den sp N e E ks=ret r1):den sp N (.ite a t e) E ks=ret (if b=true then r1 else r2):=by
 subst hd;refine z1g h (fun h=>?_) (fun h=>?_)
 ·have h:d=false:=by simpa using h
  rw [if_neg (by simp [h])];exact ht h
 ·have h:d=true:=by simpa using h
  rw [if_pos h];exact he h
theorem z0rd {b d:Bool} (h:a.val E=some (.b d)) (hd:d=b) (ht:b=true→den sp N t E ks=ret r2) (he:b=false→den sp N e E ks=ret r1):den sp N (.ite a t e) E ks=ret (if b=false then r1 else r2):=by
 subst hd;refine z1g h (fun h=>?_) (fun h=>?_)
 ·rw [if_neg (by simp [h])];exact ht h
 ·rw [if_pos h];exact he h
theorem z0ob {b d:Bool} (h:a.val E=some (.b (!d))) (hd:d=b) (ht:b=false→den sp N t E ks=ret r1) (he:b=true→den sp N e E ks=ret r2):den sp N (.ite a t e) E ks=ret (if b=false then r1 else r2):=by
 subst hd;refine z1g h (fun h=>?_) (fun h=>?_)
 ·have h:d=false:=by simpa using h
  rw [if_pos h];exact ht h
 ·have h:d=true:=by simpa using h
  rw [if_neg (by simp [h])];exact he h
section
variable {p q r:Prop} [Decidable p] [Decidable r] {d:Bool}
theorem z0kq [Decidable q] [Decidable (p∧q)] (h:a.val E=some (.b d)) (hd:d=decide p) (ht:p→den sp N t E ks=ret (if q then r1 else r2)) (he:¬ p→den sp N e E ks=ret r2):den sp N (.ite a t e) E ks=ret (if p∧q then r1 else r2):=by
 subst hd;refine z1g h (fun h=>?_) (fun h=>?_)
 ·have h:=of_decide_eq_true h;simp only [h,true_and];exact ht h
 ·have h:=of_decide_eq_false h;simp only [h,false_and,if_false];exact he h
theorem z0oc [Decidable q] [Decidable (p∨q)] (h:a.val E=some (.b d)) (hd:d=decide p) (ht:p→den sp N t E ks=ret r1) (he:¬ p→den sp N e E ks=ret (if q then r1 else r2)):den sp N (.ite a t e) E ks=ret (if p∨q then r1 else r2):=by
 subst hd;refine z1g h (fun h=>?_) (fun h=>?_)
 ·have h:=of_decide_eq_true h;simp only [h,true_or,if_true];exact ht h
 ·have h:=of_decide_eq_false h;simp only [h,false_or];exact he h
theorem z0bx [Decidable ((p∧q)∨r)] [Decidable (q∨r)] (h:a.val E=some (.b d)) (hd:d=decide p) (ht:p→den sp N t E ks=ret (if q∨r then r1 else r2)) (he:¬ p→den sp N e E ks=ret (if r then r1 else r2)):den sp N (.ite a t e) E ks=ret (if (p∧q)∨r then r1 else r2):=by
 subst hd;refine z1g h (fun h=>?_) (fun h=>?_)
 ·have h:=of_decide_eq_true h;simp only [h,true_and];exact ht h
 ·have h:=of_decide_eq_false h;simp only [h,false_and,false_or];exact he h
theorem z0by [Decidable ((p∨q)∧r)] [Decidable (q∧r)] (h:a.val E=some (.b d)) (hd:d=decide p) (ht:p→den sp N t E ks=ret (if r then r1 else r2)) (he:¬ p→den sp N e E ks=ret (if q∧r then r1 else r2)):den sp N (.ite a t e) E ks=ret (if (p∨q)∧r then r1 else r2):=by
 subst hd;refine z1g h (fun h=>?_) (fun h=>?_)
 ·have h:=of_decide_eq_true h;simp only [h,true_or,true_and];exact ht h
 ·have h:=of_decide_eq_false h;simp only [h,false_or];exact he h
end
theorem z0v6 {c:Prop} {i:Decidable c} {res:Option (List Dt)} (h:a.val E=some (.b (@decide c i))) (hc:c) (ht:den sp N t E ks=res):den sp N (.ite a t e) E ks=res:=z0a (by rw [h,decide_eq_true hc]) ht
theorem z0v7 {c:Prop} {i:Decidable c} {res:Option (List Dt)} (h:a.val E=some (.b (@decide c i))) (hc:¬ c) (he:den sp N e E ks=res):den sp N (.ite a t e) E ks=res:=z0l (by rw [h,decide_eq_false hc]) he
theorem z3d {c:Prop} {i:Decidable c} {res:Option (List Dt)} (h:a.val E=some (.b (@decide c i))) (ht:c→den sp N t E ks=res) (he:¬ c→den sp N e E ks=res):den sp N (.ite a t e) E ks=res:=z1g h (fun h=>ht (of_decide_eq_true h)) (fun h=>he (of_decide_eq_false h))
theorem z0od {b q d:Bool} (h:a.val E=some (.b d)) (hd:d=b) (ht:b=true→den sp N t E ks=ret q) (he:b=false→den sp N e E ks=ret false):den sp N (.ite a t e) E ks=ret (b && q):=by
 subst hd;refine z1g h (fun h=>?_) (fun h=>?_)
 ·rw [h,zY36];exact ht h
 ·rw [h,zY3k];exact he h
theorem z0re {b q d:Bool} (h:a.val E=some (.b d)) (hd:d=b) (ht:b=true→den sp N t E ks=ret true) (he:b=false→den sp N e E ks=ret q):den sp N (.ite a t e) E ks=ret (b || q):=by
 subst hd;refine z1g h (fun h=>?_) (fun h=>?_)
 ·rw [h,Bool.true_or];exact ht h
 ·rw [h,zY35];exact he h
end
section
variable {sp:Nat→za} {N:Nat} {E:Env} {ks:List (List Dt→Option (List Dt))} {a b:Atom} {m n:Int}
theorem z0tx (ha:a.val E=some (I m)) (hb:b.val E=some (I n)):denX sp E (.B .eql a b)=some (.b (decide (m=n))):=by simp only [denX,ha,hb,zY09,zY06];rfl
theorem zbp (ha:a.val E=some (I m)) (hb:b.val E=some (I n)):denX sp E (.B .neq a b)=some (.b (decide (m≠n))):=by
 have e:denX sp E (.B .neq a b)=some (.b (!decide (m=n))):=by simp only [denX,ha,hb,zY09,zY06];rfl
 rw [e];simp
theorem z02f (ha:a.val E=some (I m)) (hb:b.val E=some (I n)):denX sp E (.B .lss a b)=some (.b (decide (m<n))):=by simp only [denX,ha,hb,zY09,zY06];rfl
theorem z0ty (ha:a.val E=some (I m)) (hb:b.val E=some (I n)):denX sp E (.B .leq a b)=some (.b (decide (m≤n))):=by simp only [denX,ha,hb,zY09,zY06];rfl
theorem z0tz (ha:a.val E=some (I m)) (hb:b.val E=some (I n)):denX sp E (.B .gtr a b)=some (.b (decide (n<m))):=by simp only [denX,ha,hb,zY09,zY06];rfl
theorem z0u0 (ha:a.val E=some (I m)) (hb:b.val E=some (I n)):denX sp E (.B .geq a b)=some (.b (decide (n≤m))):=by simp only [denX,ha,hb,zY09,zY06];rfl
theorem z0u1 {x y:List UInt8} (ha:a.val E=some (.s x)) (hb:b.val E=some (.s y)):denX sp E (.B .eql a b)=some (.b (decide (x=y))):=by simp only [denX,ha,hb,zY09,zY06];rfl
theorem z0u2 {x y:List UInt8} (ha:a.val E=some (.s x)) (hb:b.val E=some (.s y)):denX sp E (.B .neq a b)=some (.b (decide (x≠y))):=by
 have e:denX sp E (.B .neq a b)=some (.b (!decide (x=y))):=by simp only [denX,ha,hb,zY09,zY06];rfl
 rw [e];simp
theorem z0u3 {x y:Bool} (ha:a.val E=some (.b x)) (hb:b.val E=some (.b y)):denX sp E (.beq false a b)=some (.b (decide (x=y))):=by simp only [denX,ha,hb];simp
theorem z0u4 {x y:Bool} (ha:a.val E=some (.b x)) (hb:b.val E=some (.b y)):denX sp E (.beq true a b)=some (.b (decide (x≠y))):=by simp only [denX,ha,hb];simp
theorem z0kr {x:Bool} (ha:a.val E=some (.b x)):denX sp E (.not a)=some (.b (!x)):=by simp only [denX,ha]
theorem z0ks {ats:List Atom} {i:Atom} {ds:List Dt} {d:Dt} (hv:vals E ats=some ds) (hi:i.val E=some (I m)) (h0:0≤m) (hd:ds[m.toNat]? = some d):denX sp E (.sel ats i)=some d:=by
 simp only [denX,hv,hi,asI,if_pos h0];exact hd
theorem z0v8 (ha:a.val E=some (I m)) (hb:b.val E=some (I n)):denX sp E (.mn a b)=some (I (if n<m then n else m)):=by simp only [denX,ha,hb,if_true]
theorem z0rf {x:List UInt8} (ha:a.val E=some (.s x)):denX sp E (.slen a)=some (I x.length):=by simp only [denX,ha]
theorem z0u5 {sz:Nat} {z:List Lit} (ha:a.val E=some (I m)) (h0:0≤m) (h1:m≤100000) (hz:z.length=sz):denX sp E (.mkz sz z a)=some (.l sz (List.replicate m.toNat (z.map Lit.dt))):=by
 simp only [denX,ha,asI];rw [if_pos ⟨h0,h1,hz⟩]
theorem z0u6 (ha:a.val E=some (I m)) (hw : -9223372036854775808 ≤ -m ∧ -m≤9223372036854775807):denX sp E (.neg a)=some (I (-m)):=by
 have e:denX sp E (.neg a)=some (I (IntKind.i64.wrap (0 - m))):=by simp only [denX,ha]
 rw [e,Int.zero_sub,wrap_i64 hw]
theorem z0u7 {p q:Point} {a1 a2 b1 b2:Atom} (h1:a1.val E=some (I p.tx)) (h2:b1.val E=some (I q.tx)) (h3:a2.val E=some (I p.at_)) (h4:b2.val E=some (I q.at_)):denX sp E (.eqs false [(a1,b1),(a2,b2)])=some (.b (decide (p=q))):=by
 obtain ⟨p1,p2⟩:=p;obtain ⟨q1,q2⟩:=q;simp only at h1 h2 h3 h4;simp only [denX,eqsD,h1,h2,h3,h4,eqD,zY09,zY06,if_true,zY1c,Point.mk.injEq]
 by_cases hx:p1=q1 <;> by_cases hy:p2=q2 <;> simp [hx,hy]
theorem z0u8 {p q:Point} {a1 a2 b1 b2:Atom} (h1:a1.val E=some (I p.tx)) (h2:b1.val E=some (I q.tx)) (h3:a2.val E=some (I p.at_)) (h4:b2.val E=some (I q.at_)):denX sp E (.eqs true [(a1,b1),(a2,b2)])=some (.b (decide (p≠q))):=by
 obtain ⟨p1,p2⟩:=p;obtain ⟨q1,q2⟩:=q;simp only at h1 h2 h3 h4;simp only [denX,eqsD,h1,h2,h3,h4,eqD,zY09,zY06,if_true,zY1c,ne_eq,Point.mk.injEq]
 by_cases hx:p1=q1 <;> by_cases hy:p2=q2 <;> simp [hx,hy]
theorem z0oe {ci:Nat} {args:List Atom} {xs:List X} {ds rs:List Dt} (h:vals E args=some ds) (hs:sp ci ds=some rs) (hx:X.call ci args 0::xs=(List.range rs.length).map fun j=>.call ci args j):z0g sp E (.call ci args 0::xs)=some rs:=hx ▸ zua h hs
variable {α:Type} {f:α→List Dt} {l l':List α} {x:α} {sz:Nat}
theorem z0u9 (ha:a.val E=some (.l sz (l.map f))):denX sp E (.len a)=some (I l.length):=by simp only [denX,ha,zY0y]
theorem z0rg (ha:a.val E=some (.l sz [])):denX sp E (.len a)=some (I 0):=by simp only [denX,ha,zY0q];rfl
theorem z0ua (ha:a.val E=some (.l sz (l.map f))) (hb:b.val E=some (I m)) (h0:0≤m) (h1:m<l.length):z0o sp E [.inr sz a b]=true:=z17 ha hb h0 (by rw [zY0y];exact h1)
theorem zow {j:Nat} {d:Dt} (ha:a.val E=some (.l sz (l.map f))) (hb:b.val E=some (I m)) (h0:0≤m) (hx:l[m.toNat]? = some x) (hj:(f x)[j]? = some d):denX sp E (.idx a b j)=some d:=z14 ha hb h0 (by rw [zY0m,hx];rfl) hj
theorem z0v9 {xs:List X} (ha:a.val E=some (.l sz (l.map f))) (hb:b.val E=some (I m)) (h0:0≤m) (hx:l[m.toNat]? = some x) (hxs:X.idx a b 0::xs=(List.range (f x).length).map fun j=>.idx a b j):z0g sp E (.idx a b 0::xs)=some (f x):=by
 rw [hxs];have key:∀ (n j:Nat),j+n=(f x).length→z0g sp E ((List.range' j n).map fun j=>.idx a b j)=some ((f x).drop j):=by
  intro n
  induction n with
  | zero=>intro j hj;simp [z0g,zY26 (show (f x).length≤j by omega)]
  | succ n ih =>
   intro j hj;rw [List.range'_succ,zY1q,zY1y (by omega:j<(f x).length)];exact z0k (zow ha hb h0 hx (zY03 _)) (ih (j+1) (by omega))
 have:=key (f x).length 0 (by omega);rw [List.range_eq_range'];simpa using this
theorem zir (ha:a.val E=some (.l sz (l.map f))) (hb:b.val E=some (.l sz (l'.map f))) (h:l.length+l'.length≤1000000):denX sp E (.app sz a b)=some (.l sz ((l++l').map f)):=by
 rw [z0r3 ha hb (by simpa using h),zY23]
theorem z0rh (hy:∀ x,(f x).length=sz) (ha:a.val E=some (.l sz (l.map f))) (hb:b.val E=some (.l sz [f x])) (h:l.length+1≤1000000):denX sp E (.app sz a b)=some (.l sz ((l++[x]).map f)):=zir (l':=[x]) ha hb h
theorem zfq {lo hi:Option Atom} {m n:Int} (ha:a.val E=some (.l sz (l.map f))) (hl:bndI E 0 lo=some m) (hh:bndI E l.length hi=some n) (h0:0≤m) (h1:m≤n) (h2:n≤l.length):denX sp E (.sub sz a lo hi)=some (.l sz (((l.take n.toNat).drop m.toNat).map f)):=by
 simp only [denX,ha,hl,hh,zY0y,zY09,zY06];rw [if_pos ⟨trivial,h0,h1,h2⟩,List.map_drop,zY3t]
theorem z0fu {hi:Atom} {n:Int} {t:List α} (ha:a.val E=some (.l sz (l.map f))) (hh:hi.val E=some (I n)) (h1:0≤n) (h2:n≤l.length) (ht:l.take n.toNat=t):denX sp E (.sub sz a none (some hi))=some (.l sz (t.map f)):=by
 have hb:bndI E (l.length:Int) (some hi)=some n:=by show asI (hi.val E)=some n;rw [hh];rfl
 have:=zfq (lo:=none) (hi:=some hi) (m:=0) (n:=n) (sp:=sp) ha rfl hb (by omega) h1 h2;rw [this,ht];rfl
theorem z0kt {j:Nat} {vs:List Atom} {ds:List Dt} {y:α} (ha:a.val E=some (.l sz (l.map f))) (hb:b.val E=some (I m)) (hv:vals E vs=some ds) (h0:0≤m) (hs:j+ds.length≤sz) (hx:l[m.toNat]? = some x) (hy:z78 (f x) j ds=f y):denX sp E (.set a b j vs)=some (.l sz ((l.set m.toNat y).map f)):=by
 simp only [denX,ha,hb,hv,asI];rw [if_pos ⟨h0,hs⟩,zY0m,hx];simp only [zY1a,hy,List.map_set]
theorem z9v {j:Nat} {vs:List Atom} {ds:List Dt} (ha:a.val E=some (.l sz (l.map f))) (hb:b.val E=some (I m)) (hv:vals E vs=some ds) (h0:0≤m) (hs:j+ds.length≤sz) (hx:l[m.toNat]? = some x) (hy:z78 (f x) j ds=f x):denX sp E (.set a b j vs)=some (.l sz (l.map f)):=by
 rw [z0kt (y:=x) ha hb hv h0 hs hx hy];congr 3;obtain ⟨h1,h2⟩:=zY02.1 hx;rw [← h2,List.set_getElem_self]
theorem zn {σ ρ:Type} [Enc ρ] {ats:List Atom} {body:T} (enc:σ→Int→List Dt) (go:σ→Nat→List α→ρ) (Inv:σ→Nat→Prop) (s0:σ) (l:List α) (h:vals E ats=some (enc s0 0)) (h0:Inv s0 0) (hN:l.length<N)
  (step:∀ (s:σ) (k:Nat) (x:α) (r:List α),l[k]? = some x→l.drop k=x::r→k<l.length→Inv s k→∀ again:List Dt→Option (List Dt),(∀ s',Inv s' (k+1)→again (enc s' ((k:Int)+1))=ret (go s' (k+1) r))→den sp N body (E++enc s k) (ks++[again])=ret (go s k (x::r)))
  (last:∀ (s:σ),Inv s l.length→∀ again:List Dt→Option (List Dt),den sp N body (E++enc s l.length) (ks++[again])=ret (go s l.length [])):den sp N (.loop ats body) E ks=ret (go s0 0 l):=by
 refine z0t h ?_;have key:∀ (n k:Nat) (s:σ),k+n=l.length→Inv s k→∀ M,n<M→z06 (fun again ds=>den sp N body (E++ds) (ks++[again])) M (enc s k)=ret (go s k (l.drop k)):=by
  intro n
  induction n with
  | zero =>
   intro k s hk hi M hM;obtain ⟨M,rfl⟩:∃ j,M=j+1:=⟨M - 1,by omega⟩
   obtain rfl:k=l.length:=by omega
   rw [z06,List.drop_length];exact last s hi _
  | succ n ih =>
   intro k s hk hi M hM;obtain ⟨M,rfl⟩:∃ j,M=j+1:=⟨M - 1,by omega⟩
   have hkl:k<l.length:=by omega
   have hd:l.drop k=l[k]::l.drop (k+1):=zY1y hkl;rw [z06,hd];refine step s k l[k] (l.drop (k+1)) (zY03 hkl) hd hkl hi _ fun s' hi'=>?_
   have:=ih (k+1) s' (by omega) hi' M (by omega)
   rwa [show ((k+1:Nat):Int)=(k:Int)+1 by omega] at this
 exact key l.length 0 s0 (by omega) h0 N hN
end
section
variable {sp:Nat→za} {N:Nat} {E E':Env} {ks:List (List Dt→Option (List Dt))} {res:Option (List Dt)} {k t e:T} {d:Dt} {ds rs:List Dt} {a:Atom}
theorem dq1 {x:X} (hk:den sp N k E' ks=res) (h:denX sp E x=some d:=by first|exact z0tx rfl rfl|exact zbp rfl rfl|exact z02f rfl rfl|exact z0tz rfl rfl|exact z0u0 rfl rfl|exact z0ty rfl rfl|exact z0u9 rfl|exact z82 rfl rfl (by omega)|exact z0r9 rfl rfl (by omega)|exact zow rfl rfl (by omega) (by first|assumption|exact hx) rfl|exact z0kr rfl|exact z0rg rfl|exact z0u1 rfl rfl|exact z0u2 rfl rfl|exact z0u3 rfl rfl|exact z0u4 rfl rfl|exact z0u7 rfl rfl rfl rfl|exact z0u8 rfl rfl rfl rfl|exact z0u6 rfl (by omega)|exact z0fu rfl rfl (by omega) (by omega) (by assumption)|exact z1m (r:=[[I _]]) rfl rfl (by simp)|exact z0ks rfl rfl (by omega) rfl|exact z0v8 rfl rfl|exact z0rf rfl|exact z0rh (fun _=>rfl) rfl rfl (by first|omega|(simp only [zY04,zY0a,zY0q];omega))) (hE:E++[d]=E':=by (simp only [zY1h,zY17];try exact rfl)):den sp N (.W [x] [] k) E ks=res:=z4 h hk hE
theorem dqc {ck:List X} (hk:den sp N k E ks=res) (h:z0o sp E ck=true:=by exact z0ua rfl rfl (by omega) (by omega)):den sp N (.W [] ck k) E ks=res:=z20 h hk
theorem dqm {xs:List X} (hk:den sp N k E' ks=res) (h:z0g sp E xs=some ds:=by first|exact z0v9 rfl rfl (by omega) (by first|assumption|exact hx) (by rfl)|exact z0k (zow rfl rfl (by omega) (by first|assumption|exact hx) rfl) (z0k (zow rfl rfl (by omega) (by first|assumption|exact hx) rfl) z4t)) (hE:E++ds=E':=by (simp only [zh,eTx,eIn,z3b,eOp,z35,zk,z0c,z09,zb8,zed,z9p,zgp,zY1h,zY17];try exact rfl)):den sp N (.W xs [] k) E ks=res:=z3p h hk hE
theorem dqk {ci j:Nat} {args:List Atom} (hv:vals E args=some ds) (hs:sp ci ds=some rs) (hk:den sp N k E' ks=res) (hj:rs[j]? = some d:=by exact rfl) (hE:E++[d]=E':=by (simp only [zY1h,zY17];try exact rfl)):den sp N (.W [.call ci args j] [] k) E ks=res:=z4 (z3c hv hs hj) hk hE
theorem dqK {ci:Nat} {args:List Atom} {xs:List X} (hv:vals E args=some ds) (hs:sp ci ds=some rs) (hk:den sp N k E' ks=res) (hx:X.call ci args 0::xs=(List.range rs.length).map (fun j=>.call ci args j):=by rfl) (hE:E++rs=E':=by (simp only [zh,eTx,eIn,z3b,eOp,z35,zk,z0c,z09,zb8,zed,z9p,zgp,zY1h,zY17];try exact rfl)):den sp N (.W (.call ci args 0::xs) [] k) E ks=res:=z3p (z0oe hv hs hx) hk hE
theorem dqT {c:Prop} {i:Decidable c} (ht:den sp N t E ks=res) (h:a.val E=some (.b (@decide c i)):=by exact rfl) (hc:c:=by first|assumption|omega):den sp N (.ite a t e) E ks=res:=z0v6 h hc ht
theorem dqF {c:Prop} {i:Decidable c} (he:den sp N e E ks=res) (h:a.val E=some (.b (@decide c i)):=by exact rfl) (hc:¬ c:=by first|assumption|omega):den sp N (.ite a t e) E ks=res:=z0v7 h hc he
theorem zau {c:Prop} {i:Decidable c} (ht:den sp N t E ks=res) (h:a.val E=some (.b (!@decide c i)):=by exact rfl) (hc:¬ c:=by first|assumption|omega):den sp N (.ite a t e) E ks=res:=z1g h (fun _=>ht) (fun h=>by rw [decide_eq_false hc] at h;cases h)
theorem z64 {c:Prop} {i:Decidable c} (he:den sp N e E ks=res) (h:a.val E=some (.b (!@decide c i)):=by exact rfl) (hc:c:=by first|assumption|omega):den sp N (.ite a t e) E ks=res:=z1g h (fun h=>by rw [decide_eq_true hc] at h;cases h) (fun _=>he)
theorem tZn {c:Prop} {i:Decidable c} (ht:¬ c→den sp N t E ks=res) (he:c→den sp N e E ks=res) (h:a.val E=some (.b (!@decide c i)):=by exact rfl):den sp N (.ite a t e) E ks=res:=z1g h (fun h=>ht (by simpa using h)) (fun h=>he (by simpa using h))
section
variable {ρ:Type} [Enc ρ] {r1 r2:ρ}
theorem tR {c:Prop} [Decidable c] {d:Bool} (ht:c→den sp N t E ks=ret r1) (he:¬ c→den sp N e E ks=ret r2) (h:a.val E=some (.b d):=by exact rfl) (hd:d=decide c:=by with_reducible rfl):den sp N (.ite a t e) E ks=ret (if c then r1 else r2):=z0ra h hd ht he
theorem tC {c:Prop} [Decidable c] {d:Bool} (ht:¬ c→den sp N t E ks=ret r2) (he:c→den sp N e E ks=ret r1) (h:a.val E=some (.b (!d)):=by exact rfl) (hd:d=decide c:=by with_reducible rfl):den sp N (.ite a t e) E ks=ret (if c then r1 else r2):=z0rb h hd ht he
theorem tB {b d:Bool} (ht:b=true→den sp N t E ks=ret r1) (he:b=false→den sp N e E ks=ret r2) (h:a.val E=some (.b d):=by exact rfl) (hd:d=b:=by with_reducible rfl):den sp N (.ite a t e) E ks=ret (if b=true then r1 else r2):=z0rc h hd ht he
theorem tN {b d:Bool} (ht:b=false→den sp N t E ks=ret r2) (he:b=true→den sp N e E ks=ret r1) (h:a.val E=some (.b (!d)):=by exact rfl) (hd:d=b:=by with_reducible rfl):den sp N (.ite a t e) E ks=ret (if b=true then r1 else r2):=z0oa h hd ht he
theorem tF {b d:Bool} (ht:b=true→den sp N t E ks=ret r2) (he:b=false→den sp N e E ks=ret r1) (h:a.val E=some (.b d):=by exact rfl) (hd:d=b:=by with_reducible rfl):den sp N (.ite a t e) E ks=ret (if b=false then r1 else r2):=z0rd h hd ht he
theorem tG {b d:Bool} (ht:b=false→den sp N t E ks=ret r1) (he:b=true→den sp N e E ks=ret r2) (h:a.val E=some (.b (!d)):=by exact rfl) (hd:d=b:=by with_reducible rfl):den sp N (.ite a t e) E ks=ret (if b=false then r1 else r2):=z0ob h hd ht he
section
variable {p q r:Prop} [Decidable p] [Decidable r] {d:Bool}
theorem tA [Decidable q] [Decidable (p∧q)] (ht:p→den sp N t E ks=ret (if q then r1 else r2)) (he:¬ p→den sp N e E ks=ret r2) (h:a.val E=some (.b d):=by exact rfl) (hd:d=decide p:=by with_reducible rfl):den sp N (.ite a t e) E ks=ret (if p∧q then r1 else r2):=z0kq h hd ht he
theorem tO [Decidable q] [Decidable (p∨q)] (ht:p→den sp N t E ks=ret r1) (he:¬ p→den sp N e E ks=ret (if q then r1 else r2)) (h:a.val E=some (.b d):=by exact rfl) (hd:d=decide p:=by with_reducible rfl):den sp N (.ite a t e) E ks=ret (if p∨q then r1 else r2):=z0oc h hd ht he
theorem tP [Decidable ((p∧q)∨r)] [Decidable (q∨r)] (ht:p→den sp N t E ks=ret (if q∨r then r1 else r2)) (he:¬ p→den sp N e E ks=ret (if r then r1 else r2)) (h:a.val E=some (.b d):=by exact rfl) (hd:d=decide p:=by with_reducible rfl):den sp N (.ite a t e) E ks=ret (if (p∧q)∨r then r1 else r2):=z0bx h hd ht he
theorem tQ [Decidable ((p∨q)∧r)] [Decidable (q∧r)] (ht:p→den sp N t E ks=ret (if r then r1 else r2)) (he:¬ p→den sp N e E ks=ret (if q∧r then r1 else r2)) (h:a.val E=some (.b d):=by exact rfl) (hd:d=decide p:=by with_reducible rfl):den sp N (.ite a t e) E ks=ret (if (p∨q)∧r then r1 else r2):=z0by h hd ht he
end
end
theorem tU {b q d:Bool} (ht:b=true→den sp N t E ks=ret q) (he:b=false→den sp N e E ks=ret false) (h:a.val E=some (.b d):=by exact rfl) (hd:d=b:=by with_reducible rfl):den sp N (.ite a t e) E ks=ret (b && q):=z0od h hd ht he
theorem tV {b q d:Bool} (ht:b=true→den sp N t E ks=ret true) (he:b=false→den sp N e E ks=ret q) (h:a.val E=some (.b d):=by exact rfl) (hd:d=b:=by with_reducible rfl):den sp N (.ite a t e) E ks=ret (b || q):=z0re h hd ht he
theorem tZ {c:Prop} {i:Decidable c} (ht:c→den sp N t E ks=res) (he:¬ c→den sp N e E ks=res) (h:a.val E=some (.b (@decide c i)):=by exact rfl):den sp N (.ite a t e) E ks=res:=z3d h ht he
end
end
section
open Go.Lib (decDigits itoa atoiAll parseMag parseUint10 NumEnd)
def z0ri (b:UInt8):Prop:=48≤b.toNat∧b.toNat≤57
theorem zeh {u:Nat} (h:u<10):decDigits u=[UInt8.ofNat (48+u)]:=by rw [decDigits,dif_pos h]
theorem zvg {u:Nat} (h:¬ u<10):decDigits u=decDigits (u / 10)++[UInt8.ofNat (48+u % 10)]:=by rw [decDigits,dif_neg h]
theorem zm2 {n:Int} (h:n<0):itoa n=45::decDigits n.natAbs:=if_pos h
theorem zm3 {n:Int} (h:¬ n<0):itoa n=decDigits n.toNat:=if_neg h
def z7b (c:UInt8):List UInt8→List (List UInt8)
 | []=>[[]]
 | b::l=>if b=c then []::z7b c l else match z7b c l with
  | []=>[[b]]
  | x::xs=>(b::x)::xs
def z49 (c:UInt8):List (List UInt8)→List UInt8
 | []=>[]
 | [x]=>x
 | x::y::r=>x++c::z49 c (y::r)
theorem zox (c:UInt8):∀ xs:List (List UInt8),Go.Lib.join xs [c]=z49 c xs
 | []=>rfl
 | [x]=>Go.Lib.join_one x [c]
 | x::y::r=>by
  have ih:=zox c (y::r);rw [Go.Lib.join_cons] at ih ⊢;rw [z49,← ih];simp [Go.Lib.joinTail]
end
section
open Go.RowKit
open Go.Lib (itoa atoiAll NumEnd)
def opNames:List (List UInt8):=[[],[],[100,117,112],[115,119,97,112],[100,114,111,112],[97,100,100],[115,117,98],[115,97,109,101],[108,101,115,115],[110,111,116],[97,110,100],[118,101,114,105,102,121],[104,101,105,103,104,116],[109,105,120]]
def z1w (o:Op):List UInt8:=if o.kind=1 then itoa o.n else (opNames[o.kind.toNat]?).getD []
def z6a (l:List Op):List UInt8:=z49 32 (l.map z1w)
def z3g (l:List Op):List UInt8 × Int:=if z9 l≠0 then ([],z9 l) else (z6a l,0)
def zrn (w:List UInt8):Option Int:=match atoiAll w with
 | .ok n=>if itoa n=w then some n else none
 | _=>none
def zit (w:List UInt8):Int→Int→List (List UInt8)→Int
 | _,r,[]=>r
 | k,r,n::l=>zit w (k+1) (if n=w∧n≠[] then k else r) l
def ziu (w:List UInt8):Int:=zit w 0 0 opNames
def z02h (w:List UInt8):Option Op:=if ziu w=0 then (zrn w).map fun n=>⟨1,n⟩ else some ⟨ziu w,0⟩
def zro:List (List UInt8)→Option (List Op)
 | []=>some []
 | w::r=>match z02h w with
  | none=>none
  | some o=>(zro r).map fun l=>o::l
def zoz (s:List UInt8):List Op × Int :=
 if 4000<(s.length:Int) then ([],2) else if s=[] then ([],0) else match zro (z7b 32 s) with
  | none=>([],1)
  | some l=>if z9 l≠0 then ([],z9 l) else (l,0)
theorem zm4 {o:Op} (h:z4a o=0):1≤o.kind∧o.kind≤13∧(o.kind=1∨o.n=0) ∧ -1000000≤o.n∧o.n≤1000000:=by
 unfold z4a at h
 split at h
 ·cases h
 ·split at h
  ·cases h
  ·omega
theorem z0h4 {k:Int} (h0:1≤k) (h1:k≤13):k=1∨k=2∨k=3∨k=4∨k=5∨k=6∨k=7∨k=8∨k=9∨k=10∨k=11∨k=12∨k=13:=by omega
theorem z0kx {l:List Op} (h:z5p l=0):∀ o ∈ l,z4a o=0:=by
 induction l with
 | nil=>intro o ho;cases ho
 | cons x l ih =>
  rw [z5p] at h
  split at h
  ·rename_i hx;exact absurd h hx
  ·rename_i hx
   intro o ho;rcases zY0g.1 ho with rfl|ho
   ·exact zY0u.1 hx
   ·exact ih h o ho
theorem zdg {l:List Op} (h:z9 l=0):l.length≤16∧∀ o ∈ l,z4a o=0:=by
 unfold z9 at h
 split at h
 ·cases h
 ·exact ⟨by omega,z0kx h⟩
def WordByte (b:UInt8):Prop:=b=45∨z0ri b∨97≤b.toNat
theorem WordByte.ne {b:UInt8} (h:WordByte b):b≠32∧b≠58∧b≠10:=by
 refine ⟨?_,?_,?_⟩ <;> (rintro rfl;rcases h with h|⟨h1,h2⟩|h <;> first|(exact absurd h (by decide))|(exact absurd h2 (by decide))|(exact absurd h1 (by decide)))
theorem z0ky:∀ n ∈ opNames,n.length≤8:=by decide
theorem z5g:∀ (k u:Nat),u<10 ^ (k+1)→(Go.Lib.decDigits u).length≤k+1:=by
 intro k
 induction k with
 | zero=>intro u h;rw [zeh (by omega)];simp
 | succ k ih =>
  intro u h
  by_cases h9:u<10
  ·rw [zeh h9];simp
  ·rw [zvg h9,zY04]
   have:=ih (u / 10) (by rw [Nat.pow_succ] at h;omega);simp only [zY0a,zY0q];omega
theorem zp0 {o:Op} (h:z4a o=0):(z1w o).length≤8:=by
 obtain ⟨h0,h1,h2,h3,h4⟩:=zm4 h;unfold z1w
 split
 ·by_cases hn:o.n<0
  ·rw [zm2 hn,zY0a]
   have:=z5g 6 o.n.natAbs (by omega);omega
  ·rw [zm3 hn]
   have:=z5g 6 o.n.toNat (by omega);omega
 ·cases hn:opNames[o.kind.toNat]? with
  | none=>simp
  | some n=>exact z0ky n (zY07 hn)
theorem zul (c:UInt8) (m:Nat):∀ xs:List (List UInt8),(∀ x ∈ xs,x.length≤m)→(z49 c xs).length≤xs.length * (m+1)
 | [],_=>by simp [z49]
 | [x],h=>by
  have:=h x (zY0j ..);simp only [z49,zY0a,zY0q];omega
 | x::y::r,h=>by
  have h1:=h x (zY0j ..);have h2:=zul c m (y::r) fun z hz=>h z (zY0i _ hz)
  rw [z49,zY04,zY0a];simp only [zY0a] at h2 ⊢;have e:(r.length+1+1) * (m+1)=(r.length+1) * (m+1)+(m+1):=by rw [zY20]
  omega
theorem zbd {l:List Op} (h:z9 l=0):(z6a l).length≤144:=by
 obtain ⟨h1,h2⟩:=zdg h;have:=zul 32 8 (l.map z1w) fun x hx=>by
  obtain ⟨o,ho,rfl⟩:=zY2w.1 hx;exact zp0 (h2 o ho)
 rw [zY0y] at this;unfold z6a;omega
end
section
open Go.RowKit
set_option maxRecDepth 100000
abbrev zZr:Nat × Sig:=(99999,⟨[],[],true⟩)
def zgv:List (Nat × Sig):=[(126,⟨[.one],[(false,[.scal])],true⟩),(127,⟨[.one,.one],[(false,[.scal])],true⟩),(150,⟨[.one],[(false,[.scal])],true⟩),(92,⟨[.agg 2,.agg 2],[(false,[.scal])],true⟩),(146,⟨[.agg 6,.agg 2],[(false,[.scal])],true⟩),(145,⟨[.one,.agg 2,.clos 146 []],[(false,[.scal]),(false,[.scal])],true⟩),(118,⟨[.one,.agg 2],[(false,[.scal]),(false,[.scal])],true⟩),(91,⟨[.one],[(false,[.scal])],true⟩)]
def z7l (a b:Int):Int:=if a<b then -1 else if b<a then 1 else 0
def z1h (p q:Point):Int:=if z7l p.tx q.tx≠0 then z7l p.tx q.tx else z7l p.at_ q.at_
def ltP (p q:Point):Prop:=p.tx<q.tx∨(p.tx=q.tx∧p.at_<q.at_)
instance (p q:Point):Decidable (ltP p q):=by unfold ltP;infer_instance
theorem z0fv (a b:Int):z7l a b<0↔a<b:=by unfold z7l;split <;> (try split) <;> omega
theorem zrp (a b:Int):z7l a b=0↔a=b:=by unfold z7l;split <;> (try split) <;> omega
theorem zkj (p q:Point):z1h p q<0↔ltP p q:=by
 have h1:=z0fv p.tx q.tx;have h2:=zrp p.tx q.tx;have h3:=z0fv p.at_ q.at_;unfold z1h ltP
 split <;> omega
theorem z0rk (p q:Point):z1h p q=0↔p=q:=by
 have h2:=zrp p.tx q.tx;have h3:=zrp p.at_ q.at_;obtain ⟨a,b⟩:=p;obtain ⟨c,d⟩:=q;simp only [Point.mk.injEq];unfold z1h;simp only at *
 split <;> omega
theorem z7m {p q r:Point} (h:ltP p q) (k:ltP q r):ltP p r:=by unfold ltP at *;omega
theorem z4k (p:Point):¬ ltP p p:=by unfold ltP;omega
theorem ziv {p q:Point} (h:ltP p q):¬ ltP q p:=by unfold ltP at *;omega
theorem zrq (p q:Point):ltP p q∨p=q∨ltP q p:=by
 obtain ⟨a,b⟩:=p;obtain ⟨c,d⟩:=q;simp only [Point.mk.injEq];unfold ltP;simp only;omega
def z03 (l:List Coin):Prop:=l.Pairwise fun c d=>ltP c.p d.p
def zq (l:List Coin) (p:Point):Nat:=l.countP fun c=>decide (ltP c.p p)
def z1n (l:List Coin) (p:Point):Bool:=l.any fun c=>decide (c.p=p)
theorem zm5 (l:List Coin) (p:Point):zq l p≤l.length:=List.countP_le_length
theorem z9a {l:List Coin} (h:z03 l) {i j:Nat} (hi:i<j) (hj:j<l.length):ltP (l[i]'(by omega)).p l[j].p:=zY2q.1 h i j (by omega) hj hi
theorem z02i {l:List Coin} {p:Point} {i:Nat} (hi:i≤l.length) (h1:∀ t (ht:t<l.length),t<i→ltP l[t].p p) (h2:∀ t (ht:t<l.length),i≤t→¬ ltP l[t].p p):zq l p=i:=by
 unfold zq
 induction l generalizing i with
 | nil=>simp at hi;simp [hi]
 | cons c l ih =>
  cases i with
  | zero =>
   rw [List.countP_eq_zero];intro x hx;obtain ⟨t,ht,rfl⟩:=zY2g hx;simpa using h2 t ht (Nat.zero_le _)
  | succ i =>
   have h0:=h1 0 (by simp) (by omega);simp only [List.getElem_cons_zero] at h0;rw [List.countP_cons_of_pos (by simpa using h0),ih (i:=i) (by simpa using hi) (fun t ht hti=>h1 (t+1) (by simpa using ht) (by omega)) (fun t ht hti=>h2 (t+1) (by simpa using ht) (by omega))]
theorem zkx {l:List Coin} (h:z03 l) (p:Point):(∀ t (ht:t<l.length),t<zq l p→ltP l[t].p p)∧(∀ t (ht:t<l.length),zq l p≤t→¬ ltP l[t].p p):=by
 induction l with
 | nil=>simp
 | cons c l ih =>
  have hs:z03 l:=(zY1d.1 h).2;have hc:=(zY1d.1 h).1;obtain ⟨i1,i2⟩:=ih hs
  by_cases h0:ltP c.p p
  ·have e:zq (c::l) p=zq l p+1:=by unfold zq;rw [List.countP_cons_of_pos (by simpa using h0)]
   rw [e];refine ⟨fun t ht hti=>?_,fun t ht hti=>?_⟩
   ·cases t with
    | zero=>exact h0
    | succ t=>simpa using i1 t (by simpa using ht) (by omega)
   ·cases t with
    | zero=>omega
    | succ t=>simpa using i2 t (by simpa using ht) (by omega)
  ·have e:zq (c::l) p=0:=by
    unfold zq;rw [List.countP_eq_zero];intro x hx;rcases zY0g.1 hx with rfl|hx
    ·simpa using h0
    ·have:=hc x hx
     simp only [decide_eq_true_eq];exact fun hx'=>h0 (z7m this hx')
   rw [e];refine ⟨fun t ht hti=>by omega,fun t ht hti=>?_⟩
   cases t with
   | zero=>exact h0
   | succ t =>
    have ht':t<l.length:=by simpa using ht
    have:=hc l[t] (zY1w _);simp only [List.getElem_cons_succ];exact fun hx'=>h0 (z7m this hx')
theorem zm6 {l:List Coin} (h:z03 l) (p:Point):z1n l p=true↔∃ ht:zq l p<l.length,(l[zq l p]'ht).p=p:=by
 unfold z1n;rw [zY34];obtain ⟨i1,i2⟩:=zkx h p;constructor
 ·rintro ⟨c,hc,hp⟩
  obtain ⟨t,ht,rfl⟩:=zY2g hc;have hp:=of_decide_eq_true hp;have e:zq l p=t:=by
   refine z02i (by omega) (fun s hs hst=>?_) (fun s hs hst=>?_)
   ·rw [← hp];exact z9a h hst ht
   ·rw [← hp]
    rcases Nat.eq_or_lt_of_le hst with rfl|hlt
    ·exact z4k _
    ·exact ziv (z9a h hlt hs)
  exact ⟨by omega,by simpa [e] using hp⟩
 ·rintro ⟨ht,hp⟩
  exact ⟨_,zY1w ht,by simpa using hp⟩
abbrev z0h5 (x:Int × Int):List Dt:=[I x.1,I x.2]
abbrev e2P (x:Point × Point):List Dt:=z35 x.1++z35 x.2
abbrev eCP (x:Coin × Point):List Dt:=zh x.1++z35 x.2
abbrev z0kz:={ x:List Coin × Point // z03 x.1∧x.1.length≤1000000 }
abbrev eLP (x:z0kz):List Dt:=.l 6 (x.1.1.map zh)::z35 x.1.2
noncomputable def spOr:za:=z01 (fun x:Int × Int=>[.l 1 ([x.1,x.2].map zk)]) fun x=>[I (if x.1≠0 then x.1 else x.2)]
noncomputable def z0h6:za:=z01 z0h5 fun x=>[I (z7l x.1 x.2)]
noncomputable def z0h7:za:=z01 (fun x:Int=>[I x]) fun _=>[.b false]
noncomputable def zrr:za:=z01 e2P fun x=>[I (z1h x.1 x.2)]
noncomputable def zkk:za:=z01 eCP fun x=>[I (z1h x.1.p x.2)]
noncomputable def zp1:za:=z01 eLP fun x=>[I (zq x.1.1 x.1.2),.b (z1n x.1.1 x.1.2)]
theorem z0rl (a b:Int):spOr [.l 1 [[I a],[I b]]]=some [I (if a≠0 then a else b)]:=z7j (e:=fun x:Int × Int=>[.l 1 ([x.1,x.2].map zk)]) (fun x y h=>by
 obtain ⟨a,b⟩:=x;obtain ⟨c,d⟩:=y;simpa [zk] using h) (a,b)
theorem z02j (a b:Int):z0h6 [I a,I b]=some [I (z7l a b)]:=z7j (e:=z0h5) (fun x y h=>by
 obtain ⟨a,b⟩:=x;obtain ⟨c,d⟩:=y;simpa [z0h5] using h) (a,b)
theorem z02k (a:Int):z0h7 [I a]=some [.b false]:=z7j (e:=fun x:Int=>[I x]) (fun x y h=>by simpa using h) a
theorem zp2 (p q:Point):zrr [I p.tx,I p.at_,I q.tx,I q.at_]=some [I (z1h p q)]:=z7j (e:=e2P) (fun x y h=>by
 obtain ⟨h1,h2⟩:=List.append_inj h rfl;exact Prod.ext (z9r _ _ h1) (z9r _ _ h2)) (p,q)
theorem z0h8 (c:Coin) (p:Point):zkk (zh c++z35 p)=some [I (z1h c.p p)]:=z7j (e:=eCP) (fun x y h=>by
 obtain ⟨h1,h2⟩:=List.append_inj h rfl;exact Prod.ext (zee _ _ h1) (z9r _ _ h2)) (c,p)
theorem zum (l:List Coin) (p:Point) (h:z03 l) (hl:l.length≤1000000):zp1 [.l 6 (l.map zh),I p.tx,I p.at_]=some [I (zq l p),.b (z1n l p)]:=z7j (e:=eLP) (fun x y h=>by
 obtain ⟨⟨l,p⟩,_⟩:=x;obtain ⟨⟨m,q⟩,_⟩:=y;simp only [eLP,zY22,Dt.l.injEq,true_and] at h;exact Subtype.ext (Prod.ext (z48 zee h.1) (z9r _ _ h.2))) ⟨(l,p),h,hl⟩
attribute [local irreducible] z01
def zrs:T :=
 .W [.len 0] [] (.loop [zI 0,zI 0] (.W [.B .lss 3 1] [] (.ite 4 (.W [] [.inr 1 0 3] (.W [.idx 0 3 0] []
  (.W [.B .neq 5 (zI 0)] [] (.ite 6 (.ret [5]) (.W [.B .add 3 (zI 1)] [] (.again 0 [2,7])))))) (.ret [zI 0]))))
def zp3:T :=
 .W [.B .neq 0 0] [] (.ret [1])
def ziw:T :=
 .W [.call 2 [0] 0] [] (.W [.call 2 [1] 0] [] (.ite 2 (.ite 3 (.ret [zI 0]) (.ret [.c (.i .i64 (-1))])) (.ite 3 (.ret [zI 1]) (.W
  [.B .lss 0 1] [] (.ite 4 (.ret [.c (.i .i64 (-1))]) (.W [.B .gtr 0 1] [] (.ite 5 (.ret [zI 1]) (.ret [zI 0]))))))))
def zrt:T :=
 .W [.call 1 [0,2] 0] [] (.W [.call 1 [1,3] 0] [] (.W [.mk 1 [[4],[5]]] [] (.W [.call 0 [6] 0] [] (.ret [7]))))
def zru:T :=
 .W [.call 3 [0,1,6,7] 0] [] (.ret [8])
def z7n:T :=
 .W [.len 0] [] (.loop [zI 0,3] (.W [.B .lss 4 5] [] (.ite 6 (.W [.B .add 4 5] [] (.W [.conv .u64 7] [] (.W [.B
  .shr 8 (.c (.i .u64 1))] [] (.W [.conv .i64 9] [] (.W [] [.inr 6 0 10] (.W [.idx 0 10 0,.idx 0 10 1,.idx 0 10 2,.idx
  0 10 3,.idx 0 10 4,.idx 0 10 5] [] (.W [.call 4 [11,12,13,14,15,16,1,2] 0] [] (.W [.B .lss 17 (.c (.i
  .i64 0))] [] (.ite 18 (.W [.B .add 10 (zI 1)] [] (.again 0 [19,5])) (.again 0 [4,10])))))))))) (.W [.B .lss 4 3] [] (.ite (.v
  7) (.W [] [.inr 6 0 4] (.W [.idx 0 4 0,.idx 0 4 1,.idx 0 4 2,.idx 0 4 3,.idx 0 4 4,.idx 0 4 5] []
  (.W [.call 4 [8,9,10,11,12,13,1,2] 0] [] (.W [.B .eql 14 (zI 0)] [] (.ret [4,15]))))) (.ret [4,.c (.b false)]))))))
def z02l:T :=
 .W [.call 5 [0,1,2] 0,.call 5 [0,1,2] 1] [] (.ret [3,4])
theorem mNaN:Meets Tryz.prog z0h7 150 ⟨[.one],[(false,[.scal])],true⟩:=by
 refine z6h (sp:=(fun ci=>[].getD ci fun _=>none)) (sigs:=zgv) (cut:=[]) (hints:=[]) (fn:=Tryz.f150) (t:=zp3) (by kernel_rfl) (by kernel_rfl) (by kernel_rfl) ?_ ?_
 ·exact fun ci f s _=>z0u f s
 ·rintro ds rs - h
  obtain ⟨x,rfl,rfl⟩:=z2x h;refine ⟨⟨1,?_⟩,z04 rfl⟩;unfold zp3;refine z4 (d:=.b false) (z0r8 rfl rfl rfl) ?_;exact z5 rfl rfl
theorem mCmp:Meets Tryz.prog z0h6 127 ⟨[.one,.one],[(false,[.scal])],true⟩:=by
 refine z6h (sp:=(fun ci=>[fun _=>none,fun _=>none,z0h7].getD ci fun _=>none)) (sigs:=zgv) (cut:=[]) (hints:=[]) (fn:=Tryz.f127) (t:=ziw) (by kernel_rfl) (by kernel_rfl) (by kernel_rfl) ?_ ?_
 ·exact (z1v (z0u _ _) (z1v (z0u _ _) (z1v mNaN (fun ci f s _=>z0u f s))))
 ·rintro ds rs - h
  obtain ⟨⟨a,b⟩,rfl,rfl⟩:=z2x h;refine ⟨⟨1,?_⟩,z04 rfl⟩;unfold ziw;refine z4 (d:=.b false) (z3c rfl (z02k a) rfl) ?_;refine z4 (d:=.b false) (z3c rfl (z02k b) rfl) ?_;refine z0l rfl (z0l rfl ?_);refine z4 (d:=.b (decide (a<b))) rfl ?_;unfold z7l;refine z1g rfl (fun h1=>?_) (fun h1=>?_)
  ·exact z5 rfl (by rw [if_pos (of_decide_eq_true h1)];rfl)
  rw [if_neg (of_decide_eq_false h1)];refine z4 (d:=.b (decide (b<a))) rfl ?_;refine z1g rfl (fun h2=>?_) (fun h2=>?_)
  ·exact z5 rfl (by rw [if_pos (of_decide_eq_true h2)];rfl)
  ·exact z5 rfl (by rw [if_neg (of_decide_eq_false h2)];rfl)
theorem mOr:Meets Tryz.prog spOr 126 ⟨[.one],[(false,[.scal])],true⟩:=by
 refine z6h (sp:=(fun ci=>[].getD ci fun _=>none)) (sigs:=zgv) (cut:=[]) (hints:=[⟨3,[.t 2,.t 8]⟩]) (fn:=Tryz.f126) (t:=zrs) (by kernel_rfl) (by kernel_rfl) (by kernel_rfl) ?_ ?_
 ·exact fun ci f s _=>z0u f s
 ·rintro ds rs - h
  obtain ⟨⟨a,b⟩,rfl,rfl⟩:=z2x h;refine ⟨⟨5,?_⟩,z04 rfl⟩
  show den _ 5 zrs [.l 1 [[I a],[I b]]] []=some [I (if a≠0 then a else b)]
  unfold zrs;refine z4 (d:=I 2) rfl ?_;refine zin (fun k:Nat=>[I 0,I k]) (fun k=>k≤2∧(1≤k→a=0)∧(2≤k→b=0)) (fun k=>2 - k) 0 rfl (by simp) (by simp) fun k hk again hag=>?_
  simp only [zY1h,zY17];obtain ⟨k1,k2,k3⟩:=hk
  match k,k1,k2,k3,hag with
  | 0,k1,k2,k3,hag =>
   refine z4 (d:=.b true) rfl (z0a rfl ?_);refine z20 (z17 rfl rfl (by decide) (by simp)) ?_;refine z4 (d:=I a) (z14 (x:=[I a]) rfl rfl (by decide) rfl rfl) ?_;refine z4 (d:=.b (!decide (a=0))) rfl ?_;refine z1g rfl (fun h1=>?_) (fun h1=>?_)
   ·exact z5 rfl (by rw [if_pos (by simpa using h1)])
   ·refine z4 (d:=I 1) rfl ?_
    exact z6 rfl rfl (hag 1 ⟨by omega,fun _=>by simpa using h1,fun h=>by omega⟩ (by omega))
  | 1,k1,k2,k3,hag =>
   refine z4 (d:=.b true) rfl (z0a rfl ?_);refine z20 (z17 rfl rfl (by decide) (by simp)) ?_;refine z4 (d:=I b) (z14 (x:=[I b]) rfl rfl (by decide) rfl rfl) ?_;refine z4 (d:=.b (!decide (b=0))) rfl ?_;have h0:=k2 (by omega);refine z1g rfl (fun h1=>?_) (fun h1=>?_)
   ·exact z5 rfl (by rw [if_neg (by simp [h0])])
   ·refine z4 (d:=I 2) rfl ?_
    exact z6 rfl rfl (hag 2 ⟨by omega,fun _=>h0,fun _=>by simpa using h1⟩ (by omega))
  | 2,k1,k2,k3,hag =>
   refine z4 (d:=.b false) rfl (z0l rfl ?_);exact z5 rfl (by rw [k2 (by omega),k3 (by omega)];rfl)
  | k+3,k1,_,_,_=>exact absurd k1 (by omega)
theorem z0l0:Meets Tryz.prog zrr 92 ⟨[.agg 2,.agg 2],[(false,[.scal])],true⟩:=by
 refine z6h (sp:=(fun ci=>[spOr,z0h6].getD ci fun _=>none)) (sigs:=zgv) (cut:=[]) (hints:=[]) (fn:=Tryz.f92) (t:=zrt) (by kernel_rfl) (by kernel_rfl) (by kernel_rfl) ?_ ?_
 ·exact (z1v mOr (z1v mCmp (fun ci f s _=>z0u f s)))
 ·rintro ds rs - h
  obtain ⟨⟨⟨a,b⟩,⟨c,d⟩⟩,rfl,rfl⟩:=z2x h;refine ⟨⟨1,?_⟩,z04 rfl⟩
  show den _ 1 zrt [I a,I b,I c,I d] []=_
  unfold zrt;refine z4 (d:=I (z7l a c)) (z3c rfl (z02j a c) rfl) ?_;refine z4 (d:=I (z7l b d)) (z3c rfl (z02j b d) rfl) ?_;refine z4 (z1m (r:=[[I (z7l a c)],[I (z7l b d)]]) rfl rfl (by simp)) ?_;refine z4 (d:=I (if z7l a c≠0 then z7l a c else z7l b d)) (z3c rfl (z0rl _ _) rfl) ?_;exact z5 rfl rfl
theorem z0ub:Meets Tryz.prog zkk 146 ⟨[.agg 6,.agg 2],[(false,[.scal])],true⟩:=by
 refine z6h (sp:=(fun ci=>[fun _=>none,fun _=>none,fun _=>none,zrr].getD ci fun _=>none)) (sigs:=zgv) (cut:=[]) (hints:=[]) (fn:=Tryz.f146) (t:=zru) (by kernel_rfl) (by kernel_rfl) (by kernel_rfl) ?_ ?_
 ·exact (z1v (z0u _ _) (z1v (z0u _ _) (z1v (z0u _ _) (z1v z0l0 (fun ci f s _=>z0u f s)))))
 ·rintro ds rs - h
  obtain ⟨⟨c,p⟩,rfl,rfl⟩:=z2x h;refine ⟨⟨1,?_⟩,z04 rfl⟩
  show den _ 1 zru [I c.p.tx,I c.p.at_,I c.o.coin,.l 2 (c.o.lock.map eOp),I c.height,.b c.reward,I p.tx,I p.at_] []=_
  unfold zru;refine z4 (d:=I (z1h c.p p)) (z3c rfl (zp2 c.p p) rfl) ?_;exact z5 rfl rfl
theorem z02m {sp:Nat→za} {E:Env} {a i:Atom} {l:List Coin} {m:Int} {c:Coin} (ha:a.val E=some (.l 6 (l.map zh))) (hi:i.val E=some (I m)) (h0:0≤m) (hx:l[m.toNat]? = some c) :
  z0g sp E [.idx a i 0,.idx a i 1,.idx a i 2,.idx a i 3,.idx a i 4,.idx a i 5]=some [I c.p.tx,I c.p.at_,I c.o.coin,.l 2 (c.o.lock.map eOp),I c.height,.b c.reward]:=by
 have hx':(l.map zh)[m.toNat]? = some (zh c):=by rw [zY0m,hx];rfl
 exact z0k (z14 ha hi h0 hx' rfl) (z0k (z14 ha hi h0 hx' rfl) (z0k (z14 ha hi h0 hx' rfl) (z0k (z14 ha hi h0 hx' rfl) (z0k (z14 ha hi h0 hx' rfl) (z0k (z14 ha hi h0 hx' rfl) z4t)))))
theorem z0oj:Meets Tryz.prog zp1 145 ⟨[.one,.agg 2,.clos 146 []],[(false,[.scal]),(false,[.scal])],true⟩:=by
 refine z6h (sp:=(fun ci=>[fun _=>none,fun _=>none,fun _=>none,fun _=>none,zkk].getD ci fun _=>none)) (sigs:=zgv) (cut:=[]) (hints:=[⟨3,[.t 9,.t 10]⟩]) (fn:=Tryz.f145) (t:=z7n) (by kernel_rfl) (by kernel_rfl) (by kernel_rfl) ?_ ?_
 ·exact (z1v (z0u _ _) (z1v (z0u _ _) (z1v (z0u _ _) (z1v (z0u _ _) (z1v z0ub (fun ci f s _=>z0u f s))))))
 ·rintro ds rs - h
  obtain ⟨⟨⟨l,⟨pt,pa⟩⟩,hs,hl⟩,rfl,rfl⟩:=z2x h;simp only at hs hl;refine ⟨⟨l.length+1,?_⟩,zat rfl rfl⟩
  show den _ (l.length+1) z7n [.l 6 (l.map zh),I pt,I pa] []=some [I (zq l ⟨pt,pa⟩),.b (z1n l ⟨pt,pa⟩)]
  generalize hp:(⟨pt,pa⟩:Point)=p;have hpc:∀ c:Coin,zkk [I c.p.tx,I c.p.at_,I c.o.coin,.l 2 (c.o.lock.map eOp),I c.height,.b c.reward,I pt,I pa]=some [I (z1h c.p p)]:=fun c=>by rw [← hp];exact z0h8 c ⟨pt,pa⟩
  unfold z7n;refine z4 (d:=I l.length) (z23 rfl (by simp)) ?_;refine zin (fun s:Nat × Nat=>[I s.1,I s.2]) (fun s=>s.1≤s.2∧s.2≤l.length∧(∀ t (ht:t<l.length),t<s.1→ltP l[t].p p)∧∀ t (ht:t<l.length),s.2≤t→¬ ltP l[t].p p) (fun s=>s.2 - s.1) (0,l.length) rfl ⟨by omega,by omega,fun t ht h=>by omega,fun t ht h=>by omega⟩ (by simp) ?_;rintro ⟨i,j⟩ ⟨h1,h2,h3,h4⟩ again hag;simp only at h1 h2 h3 h4 hag;simp only [zY1h,zY17]
  by_cases hij:i<j
  ·obtain ⟨m,hm⟩:∃ m:Nat,m=(i+j) / 2:=⟨_,rfl⟩
   have hmi:i≤m:=by omega
   have hmj:m<j:=by omega
   have hml:m<l.length:=by omega
   have hsum:(i:Int)+(j:Int)=((i+j:Nat):Int):=by omega
   have hc1:IntKind.u64.wrap ((i+j:Nat):Int)=((i+j:Nat):Int):=by
    unfold IntKind.wrap;simp only [IntKind.bits,IntKind.signed,zY3k,zY0v,if_false];omega
   have hdiv:(((i+j:Nat):Int)).fdiv (2 ^ (min (1:Int).toNat IntKind.u64.bits))=(m:Int):=by
    show (((i+j:Nat):Int)).fdiv 2=(m:Int)
    rw [Int.fdiv_eq_ediv_of_nonneg _ (by omega)];omega
   have hc2:IntKind.u64.wrap (m:Int)=m:=by
    unfold IntKind.wrap;simp only [IntKind.bits,IntKind.signed,zY3k,zY0v,if_false];omega
   have hc3:IntKind.i64.wrap (m:Int)=m:=wrap_i64 (by omega);have hlm:l[((m:Nat):Int).toNat]? = some l[m]:=by simp [hml]
   have hcall:=hpc l[m];have hlt:=zkj l[m].p p;have hup:ltP l[m].p p→∀ t (ht:t<l.length),t<m+1→ltP l[t].p p:=fun h t ht htm=>by
    rcases zY1x t m with h'|h'
    ·exact z7m (z9a hs h' hml) h
    ·obtain rfl:t=m:=by omega
     exact h
   have hdn:¬ ltP l[m].p p→∀ t (ht:t<l.length),m≤t→¬ ltP l[t].p p:=fun h t ht htm h'=>by
    rcases Nat.eq_or_lt_of_le htm with rfl|htm
    ·exact h h'
    ·exact h (z7m (z9a hs htm ht) h')
   have hm1:((m+1:Nat):Int)=(m:Int)+1:=by omega
   have hag1:ltP l[m].p p→again [I ((m:Int)+1),I (j:Int)]=some [I (zq l p),.b (z1n l p)]:=fun h=>by rw [← hm1];exact hag (m+1,j) ⟨by simp only;omega,h2,hup h,h4⟩ (by simp only;omega)
   have hag2:=fun h=>hag (i,m) ⟨hmi,by simp only;omega,h3,hdn h⟩ (by simp only;omega)
   have hi0:(0:Int)≤m:=by omega
   have hi1:(m:Int)<(l.map zh).length:=by simp;omega
   have hlim:(m:Int)+1≤2000000:=by omega
   have hlim2:(i:Int)+j≤2000000:=by omega
   have hlim3:(i:Int)<j:=by omega
   have hlim4:(0:Int)≤(i:Int)+j:=by omega
   clear hm1;generalize l[m]=c at *;generalize hmm:(m:Int)=mm at *;generalize ((i+j:Nat):Int)=ij at *;generalize (i:Int)=ii at *;generalize (j:Int)=jj at *;refine z4 (d:=.b (decide (ii<jj))) rfl ?_;refine z1g rfl (fun _=>?_) (fun h=>absurd (of_decide_eq_false h) (by omega));refine z4 (d:=I ij) (by rw [← hsum];exact z82 rfl rfl (by omega)) ?_;refine z4 (d:=.i .u64 ij) (by show some (Dt.i .u64 (IntKind.u64.wrap ij))=_;rw [hc1]) ?_;refine z4 (d:=.i .u64 mm) (by
    show (if (1:Int)<0 then none else if IntKind.u64.wrap (ij.fdiv (2 ^ (min (1:Int).toNat IntKind.u64.bits)))=ij.fdiv (2 ^ (min (1:Int).toNat IntKind.u64.bits)) then some (Dt.i .u64 (ij.fdiv (2 ^ (min (1:Int).toNat IntKind.u64.bits)))) else none)=_
    rw [hdiv,if_neg (by decide),if_pos hc2]) ?_
   refine z4 (d:=I mm) (by show some (Dt.i .i64 (IntKind.i64.wrap mm))=_;rw [hc3]) ?_;refine z20 (z17 rfl rfl hi0 hi1) ?_;refine z3p (ds:=[I c.p.tx,I c.p.at_,I c.o.coin,.l 2 (c.o.lock.map eOp),I c.height,.b c.reward]) (z02m rfl rfl hi0 hlm) ?_;refine z4 (d:=I (z1h c.p p)) (z3c rfl hcall rfl) ?_;refine z4 (d:=.b (decide (z1h c.p p<0))) rfl ?_;refine z1g rfl (fun h=>?_) (fun h=>?_)
   ·refine z4 (d:=I (mm+1)) (z82 rfl rfl (by omega)) ?_
    exact z6 rfl rfl (hag1 (hlt.1 (of_decide_eq_true h)))
   ·exact z6 rfl rfl (hag2 fun h'=>of_decide_eq_false h (hlt.2 h'))
  ·obtain rfl:i=j:=by omega
   have hpos:=z02i h2 h3 h4;have hhas:=zm6 hs p;refine z4 (d:=.b (decide ((i:Int)<i))) rfl ?_;refine z1g rfl (fun h=>absurd (of_decide_eq_true h) (by omega)) (fun _=>?_);refine z4 (d:=.b (decide ((i:Int)<(l.length:Int)))) rfl ?_;refine z1g rfl (fun h=>?_) (fun h=>?_)
   ·have h:=of_decide_eq_true h
    have hil:i<l.length:=by omega
    have hlm:l[((i:Nat):Int).toNat]? = some l[i]:=by simp [hil]
    have hcall:=hpc l[i];have heq:=z0rk l[i].p p;have hi0:(0:Int)≤i:=by omega
    have hi1:(i:Int)<(l.map zh).length:=by simp;omega
    have hv:decide (z1h l[i].p p=0)=z1n l p:=by
     rw [Bool.eq_iff_iff,decide_eq_true_iff,heq,hhas,hpos];exact ⟨fun h=>⟨hil,h⟩,fun ⟨_,h⟩=>h⟩
    rw [hpos,← hv];generalize l[i]=c at *;generalize (i:Int)=ii at *;refine z20 (z17 rfl rfl hi0 hi1) ?_;refine z3p (ds:=[I c.p.tx,I c.p.at_,I c.o.coin,.l 2 (c.o.lock.map eOp),I c.height,.b c.reward]) (z02m rfl rfl hi0 hlm) ?_;refine z4 (d:=I (z1h c.p p)) (z3c rfl hcall rfl) ?_;refine z4 (d:=.b (decide (z1h c.p p=0))) rfl ?_;exact z5 rfl rfl
   ·have h:=of_decide_eq_false h
    have hv:z1n l p=false:=by
     rw [← zY31,hhas,hpos];rintro ⟨h',_⟩;omega
    rw [hpos,hv];exact z5 rfl rfl
theorem z0va:Meets Tryz.prog zp1 118 ⟨[.one,.agg 2],[(false,[.scal]),(false,[.scal])],true⟩:=by
 refine z6h (sp:=(fun ci=>[fun _=>none,fun _=>none,fun _=>none,fun _=>none,fun _=>none,zp1].getD ci fun _=>none)) (sigs:=zgv) (cut:=[]) (hints:=[]) (fn:=Tryz.f118) (t:=z02l) (by kernel_rfl) (by kernel_rfl) (by kernel_rfl) ?_ ?_
 ·exact (z1v (z0u _ _) (z1v (z0u _ _) (z1v (z0u _ _) (z1v (z0u _ _) (z1v (z0u _ _) (z1v z0oj (fun ci f s _=>z0u f s)))))))
 ·rintro ds rs - h
  obtain ⟨⟨⟨l,p⟩,hs,hl⟩,rfl,rfl⟩:=z2x h;refine ⟨⟨1,?_⟩,zat rfl rfl⟩
  show den _ 1 z02l [.l 6 (l.map zh),I p.tx,I p.at_] []=_
  unfold z02l;refine z3p (ds:=[I (zq l p),.b (z1n l p)]) (z0h0 (ci:=5) rfl rfl (zum l p hs hl)) ?_;exact z5 rfl rfl
end
section
open Go.RowKit
def Er (n:Int):Prop:=0≤n∧n≤12
theorem Er.i64 {n:Int} (h:Er n) : -9223372036854775808≤n∧n≤9223372036854775807:=⟨by have:=h.1;omega,by have:=h.2;omega⟩
theorem z2e {c:Prop} [Decidable c] {a b:Int} (ha:Er a) (hb:Er b):Er (if c then a else b):=by split <;> assumption
theorem z21 (n:Int) (h:decide (0≤n∧n≤12)=true):Er n:=by unfold Er;exact of_decide_eq_true h
theorem z0vb (o:Op):Er (z4a o):=z2e (z21 _ rfl) (z2e (z21 _ rfl) (z21 _ rfl))
theorem z02o:∀ l:List Op,Er (z5p l)
 | []=>z21 _ rfl
 | o::l=>z2e (z0vb o) (z02o l)
theorem zp4 (l:List Op):Er (z9 l):=z2e (z21 _ rfl) (z02o l)
theorem z0ok (x:In):Er (z4m x):=by unfold z4m;exact z2e (z21 _ rfl) (zp4 _)
theorem z02p:∀ l s:List In,Er (z2n l s)
 | [],_=>z21 _ rfl
 | x::l,s=>z2e (z0ok x) (z2e (z21 _ rfl) (z02p l _))
theorem z0fw:∀ l:List Out,Er (z2c l)
 | []=>z21 _ rfl
 | x::l=>z2e (z2e (z21 _ rfl) (zp4 _)) (z0fw l)
theorem z02q:∀ (l:List Int) (s:Int),Er (z8s l s).2
 | [],_=>z21 _ rfl
 | x::l,s=>by
  unfold z8s
  repeat' split
  all_goals first|exact z21 _ rfl|exact z02q _ _
theorem z0ha (t:Tx):Er (zm t):=z2e (z2e (z21 _ rfl) (z2e (z21 _ rfl) (z2e (z21 _ rfl) (z21 _ rfl)))) (z2e (z02p _ _) (z2e (z0fw _) (z02q _ _)))
theorem z02r (h:Int):∀ (l:List Tx) (i:Nat),Er (z6n h l i)
 | [],_=>z21 _ rfl
 | t::l,i=>z2e (z0ha t) (z2e (z21 _ rfl) (z02r h l _))
theorem z0l1 (b:Block):Er (zb b):=z2e (z2e (z21 _ rfl) (z2e (z21 _ rfl) (z2e (z21 _ rfl) (z21 _ rfl)))) (z02r _ _ _)
end
section
open Go.RowKit
set_option maxRecDepth 100000
set_option maxHeartbeats 4000000
theorem zd0 {W:World} {F:Nat→Prop} {n:Int} {v:Value} (h:Rep W F (I n) v):v = .int .i64 n∧I64 n:=by
 obtain ⟨rfl,h1⟩:=z38 h;exact ⟨rfl,zu7 h1⟩
def z05:List (Nat × Sig):=[(126,⟨[.one],[(false,[.scal])],true⟩),(127,⟨[.one,.one],[(false,[.scal])],true⟩),(150,⟨[.one],[(false,[.scal])],true⟩),(92,⟨[.agg 2,.agg 2],[(false,[.scal])],true⟩),(146,⟨[.agg 6,.agg 2],[(false,[.scal])],true⟩),(145,⟨[.one,.agg 2,.clos 146 []],[(false,[.scal]),(false,[.scal])],true⟩),(118,⟨[.one,.agg 2],[(false,[.scal]),(false,[.scal])],true⟩),(91,⟨[.one],[(false,[.scal])],true⟩),(44,⟨[.one],[(false,[.scal])],true⟩),(93,⟨[.one],[(false,[.fresh 101 6])],false⟩),(64,⟨[.one],[(false,[.fresh 103 2])],false⟩),(45,⟨[.one],[(false,[.fresh 101 6])],false⟩),(74,⟨[.agg 3,.one],[(false,[.scal])],true⟩),(120,⟨[.mine 101 6,.one,.one],[(false,[.fresh 101 6])],false⟩),(119,⟨[.mine 101 6,.one,.one],[(false,[.fresh 101 6])],false⟩),(144,⟨[.one,.one,.one],[(false,[.scal]),(false,[.scal])],true⟩),(111,⟨[.agg 3],[(false,[.scal])],true⟩),(73,⟨[.one,.agg 3,.one,.one],[(false,[.pure]),(true,[.pure]),(false,[.scal])],false⟩),zZr,(57,⟨[.one,.one],[(false,[.scal])],true⟩),zZr,(60,⟨[.one,.one,.clos 61 []],[(false,[.scal])],true⟩),(59,⟨[.agg 2,.agg 2],[(false,[.scal])],true⟩),(67,⟨[.one],[(false,[.scal])],true⟩),(68,⟨[.agg 2,.agg 2],[(false,[.scal])],true⟩),(20,⟨[.one],[(false,[.scal])],true⟩),(16,⟨[.one,.one],[(false,[.scal])],true⟩),(61,⟨[.agg 6,.agg 6],[(false,[.scal])],true⟩),zZr,(165,⟨[.one,.one,.one],[(false,[.fresh 3 1]),(false,[.scal])],false⟩),(210,⟨[.one,.one],[(false,[.scal])],true⟩),(211,⟨[.one,.one],[(false,[.scal])],true⟩),(212,⟨[.one,.one],[(false,[.scal])],true⟩),(214,⟨[.one,.one],[(false,[.scal])],true⟩),(215,⟨[.one,.one],[(false,[.scal])],true⟩),(216,⟨[.one],[(false,[.scal])],true⟩),(213,⟨[.one],[(false,[.scal])],true⟩),(217,⟨[.one],[(false,[.scal])],true⟩),(104,⟨[.one],[(false,[.scal])],true⟩),(143,⟨[.one,.one],[(false,[.scal])],true⟩),(142,⟨[],[(true,[.scal,.scal,.scal,.scal,.scal,.scal,.scal,.scal,.scal,.scal,.scal,.scal,.scal,.scal])],true⟩),zZr,(155,⟨[.one],[(false,[.scal])],true⟩),(134,⟨[.one,.one,.one],[(false,[.fresh 3 1]),(false,[.scal])],false⟩),(108,⟨[.one,.one,.one],[(false,[.scal])],true⟩),(131,⟨[.one],[(false,[.pure])],false⟩),zZr,(66,⟨[.one,.one],[(false,[.scal])],true⟩),(105,⟨[.one],[(false,[.scal])],true⟩),(107,⟨[.one,.agg 2],[(false,[.scal])],true⟩),(110,⟨[.one],[(false,[.fresh 101 6])],false⟩),(56,⟨[.agg 3,.one],[(false,[.scal])],true⟩),(109,⟨[.one],[(false,[.fresh 101 6])],false⟩),(52,⟨[.agg 3],[(false,[.scal])],true⟩),(55,⟨[.one,.agg 3,.one,.one],[(false,[.pure]),(true,[.pure]),(false,[.scal])],false⟩),zZr,(71,⟨[.agg 3],[(false,[.scal]),(false,[.scal])],true⟩),(70,⟨[.agg 5],[(false,[.scal]),(false,[.scal])],true⟩),zZr,zZr,zZr,zZr,(43,⟨[.agg 1],[(false,[.scal])],true⟩),(72,⟨[.agg 1,.one],[(true,[.pure]),(false,[.pure]),(false,[.scal])],false⟩),(65,⟨[.agg 5],[(false,[.scal])],true⟩),(23,⟨[.agg 1,.agg 5],[(true,[.pure]),(false,[.scal]),(false,[.pure]),(false,[.scal])],false⟩),(63,⟨[.one],[(false,[.scal]),(false,[.scal])],true⟩),(24,⟨[.agg 1,.one,.agg 5],[(false,[.pure]),(false,[.pure]),(false,[.scal])],false⟩),zZr,zZr,zZr,(54,⟨[.agg 3],[(false,[.scal])],true⟩),zZr,(46,⟨[.one],[(false,[.fresh 9 1])],false⟩),zZr,(87,⟨[.one],[(false,[.fresh 3 1])],false⟩),(88,⟨[.mine 3 1],[],false⟩),(39,⟨[.one,.one],[(false,[.scal])],true⟩),(84,⟨[.agg 2,.one],[(false,[.pure]),(false,[.scal])],false⟩),(89,⟨[.agg 2,.one],[(true,[.scal,.scal,.scal,.scal,.pure]),(false,[.scal])],false⟩),(86,⟨[.agg 2,.one,.agg 5],[(true,[.pure,.pure]),(false,[.scal])],false⟩),(48,⟨[.agg 3],[(true,[.scal,.pure,.pure])],false⟩),zZr,(82,⟨[.agg 1,.agg 2,.one],[(false,[.pure]),(false,[.scal])],false⟩),(83,⟨[.agg 1,.agg 2,.one,.one],[(false,[.pure]),(false,[.scal])],false⟩),(33,⟨[.agg 1,.agg 2,.one],[(false,[.pure]),(false,[.scal])],false⟩),zZr,zZr,(34,⟨[.agg 2,.one,.one],[(false,[.scal]),(false,[.scal])],true⟩),zZr,zZr,zZr,zZr,(85,⟨[.one,.one,.one,.one],[(true,[.scal,.scal,.scal,.scal,.pure])],false⟩),(36,⟨[],[(false,[.scal])],true⟩),zZr,(26,⟨[.agg 5],[(false,[.scal])],true⟩),zZr,(77,⟨[.agg 5],[(false,[.scal])],true⟩),(124,⟨[.agg 2],[(true,[.fresh 3 1,.fresh 49 5])],false⟩),(62,⟨[.one],[(false,[.fresh 30 3])],false⟩),(38,⟨[.one,.one],[(false,[.scal])],true⟩),(123,⟨[.agg 2,.agg 5,.one],[(false,[.scal])],true⟩),(121,⟨[.agg 2],[(false,[.scal])],true⟩),(122,⟨[.agg 2,.one],[(false,[.fresh 3 1])],false⟩),(149,⟨[.one],[(false,[.fresh 49 5])],false⟩),(125,⟨[.agg 5],[(true,[.scal,.scal,.scal,.scal,.pure])],false⟩),(95,⟨[.one],[(false,[.fresh 105 3])],false⟩),(96,⟨[.one],[(false,[.fresh 99 2])],false⟩),zZr,zZr,(19,⟨[.agg 1],[(false,[.scal])],true⟩),(53,⟨[.one,.one],[(false,[.pure]),(false,[.scal]),(false,[.scal])],false⟩),(78,⟨[.one,.one],[(false,[.pure]),(false,[.pure]),(false,[.scal])],false⟩),(69,⟨[.one],[(false,[.scal])],true⟩),(28,⟨[.one,.agg 5],[(false,[.pure]),(false,[.scal]),(false,[.pure]),(false,[.scal])],false⟩),zZr,zZr,zZr,(30,⟨[.one,.one,.agg 5],[(false,[.pure]),(false,[.pure]),(false,[.scal])],false⟩),zZr,zZr,(35,⟨[.agg 2],[(false,[.scal])],true⟩),(37,⟨[.agg 2,.one],[(false,[.fresh 3 1]),(false,[.scal])],false⟩),(40,⟨[.one,.agg 2,.one],[(false,[.pure]),(false,[.scal])],false⟩),zZr,zZr,zZr,zZr,zZr,zZr,zZr,zZr,zZr,(101,⟨[.one,.agg 2],[(false,[.scal])],true⟩),(102,⟨[.one],[(false,[.scal]),(false,[.scal])],true⟩),(103,⟨[.one],[(false,[.fresh 9 1])],false⟩),(115,⟨[.one,.one],[(false,[.pure]),(false,[.scal]),(false,[.scal])],false⟩)]
def z0vc:List (Nat × Sig):=[(126,⟨[.one],[(false,[.scal])],true⟩),(127,⟨[.one,.one],[(false,[.scal])],true⟩),(150,⟨[.one],[(false,[.scal])],true⟩),(92,⟨[.agg 2,.agg 2],[(false,[.scal])],true⟩),(146,⟨[.agg 6,.agg 2],[(false,[.scal])],true⟩),(145,⟨[.one,.agg 2,.clos 146 []],[(false,[.scal]),(false,[.scal])],true⟩),(118,⟨[.one,.agg 2],[(false,[.scal]),(false,[.scal])],true⟩),(91,⟨[.one],[(false,[.scal])],true⟩),(44,⟨[.one],[(false,[.scal])],true⟩),(93,⟨[.one],[(false,[.fresh 101 6])],false⟩),(64,⟨[.one],[(false,[.fresh 103 2])],false⟩),(45,⟨[.one],[(false,[.fresh 101 6])],false⟩),(74,⟨[.agg 3,.one],[(false,[.scal])],true⟩),(120,⟨[.mine 101 6,.one,.one],[(false,[.fresh 101 6])],false⟩),(119,⟨[.mine 101 6,.one,.one],[(false,[.fresh 101 6])],false⟩),(144,⟨[.one,.one,.one],[(false,[.scal]),(false,[.scal])],true⟩),(111,⟨[.agg 3],[(false,[.scal])],true⟩),(73,⟨[.one,.agg 3,.one,.one],[(false,[.pure]),(true,[.pure]),(false,[.scal])],false⟩),zZr,(57,⟨[.one,.one],[(false,[.scal])],true⟩),zZr,(60,⟨[.one,.one,.clos 61 []],[(false,[.scal])],true⟩),(59,⟨[.agg 2,.agg 2],[(false,[.scal])],true⟩),(67,⟨[.one],[(false,[.scal])],true⟩),(68,⟨[.agg 2,.agg 2],[(false,[.scal])],true⟩),(20,⟨[.one],[(false,[.scal])],true⟩),(16,⟨[.one,.one],[(false,[.scal])],true⟩),(61,⟨[.agg 6,.agg 6],[(false,[.scal])],true⟩),zZr,(165,⟨[.one,.one,.one],[(false,[.fresh 3 1]),(false,[.scal])],false⟩),(210,⟨[.one,.one],[(false,[.scal])],true⟩),(211,⟨[.one,.one],[(false,[.scal])],true⟩),(212,⟨[.one,.one],[(false,[.scal])],true⟩),(214,⟨[.one,.one],[(false,[.scal])],true⟩),(215,⟨[.one,.one],[(false,[.scal])],true⟩),(216,⟨[.one],[(false,[.scal])],true⟩),(213,⟨[.one],[(false,[.scal])],true⟩),(217,⟨[.one],[(false,[.scal])],true⟩),(104,⟨[.one],[(false,[.scal])],true⟩),(143,⟨[.one,.one],[(false,[.scal])],true⟩),(142,⟨[],[(true,[.scal,.scal,.scal,.scal,.scal,.scal,.scal,.scal,.scal,.scal,.scal,.scal,.scal,.scal])],true⟩),zZr,(155,⟨[.one],[(false,[.scal])],true⟩),(134,⟨[.one,.one,.one],[(false,[.fresh 3 1]),(false,[.scal])],false⟩),(108,⟨[.one,.one,.one],[(false,[.scal])],true⟩),(131,⟨[.one],[(false,[.pure])],false⟩),zZr,(66,⟨[.one,.one],[(false,[.scal])],true⟩),(105,⟨[.one],[(false,[.scal])],true⟩),(107,⟨[.one,.agg 2],[(false,[.scal])],false⟩),(110,⟨[.one],[(false,[.fresh 101 6])],false⟩),(56,⟨[.agg 3,.one],[(false,[.scal])],true⟩),(109,⟨[.one],[(false,[.fresh 101 6])],false⟩),(52,⟨[.agg 3],[(false,[.scal])],true⟩),(55,⟨[.one,.agg 3,.one,.one],[(false,[.pure]),(true,[.pure]),(false,[.scal])],false⟩),zZr,(71,⟨[.agg 3],[(false,[.scal]),(false,[.scal])],true⟩),(70,⟨[.agg 5],[(false,[.scal]),(false,[.scal])],true⟩),zZr,zZr,zZr,zZr,(43,⟨[.agg 1],[(false,[.scal])],true⟩),(72,⟨[.agg 1,.one],[(true,[.pure]),(false,[.pure]),(false,[.scal])],false⟩),(65,⟨[.agg 5],[(false,[.scal])],true⟩),(23,⟨[.agg 1,.agg 5],[(true,[.pure]),(false,[.scal]),(false,[.pure]),(false,[.scal])],false⟩),(63,⟨[.one],[(false,[.scal]),(false,[.scal])],true⟩),(24,⟨[.agg 1,.one,.agg 5],[(false,[.pure]),(false,[.pure]),(false,[.scal])],false⟩),zZr,zZr,zZr,(54,⟨[.agg 3],[(false,[.scal])],true⟩),zZr,(46,⟨[.one],[(false,[.fresh 9 1])],false⟩),zZr,(87,⟨[.one],[(false,[.fresh 3 1])],false⟩),(88,⟨[.mine 3 1],[],false⟩),(39,⟨[.one,.one],[(false,[.scal])],true⟩),(84,⟨[.agg 2,.one],[(false,[.pure]),(false,[.scal])],false⟩),(89,⟨[.agg 2,.one],[(true,[.scal,.scal,.scal,.scal,.pure]),(false,[.scal])],false⟩),(86,⟨[.agg 2,.one,.agg 5],[(true,[.pure,.pure]),(false,[.scal])],false⟩),(48,⟨[.agg 3],[(true,[.scal,.pure,.pure])],false⟩),zZr,(82,⟨[.agg 1,.agg 2,.one],[(false,[.pure]),(false,[.scal])],false⟩),(83,⟨[.agg 1,.agg 2,.one,.one],[(false,[.pure]),(false,[.scal])],false⟩),(33,⟨[.agg 1,.agg 2,.one],[(false,[.pure]),(false,[.scal])],false⟩),zZr,zZr,(34,⟨[.agg 2,.one,.one],[(false,[.scal]),(false,[.scal])],true⟩),zZr,zZr,zZr,zZr,(85,⟨[.one,.one,.one,.one],[(true,[.scal,.scal,.scal,.scal,.pure])],false⟩),(36,⟨[],[(false,[.scal])],true⟩),zZr,(26,⟨[.agg 5],[(false,[.scal])],true⟩),zZr,(77,⟨[.agg 5],[(false,[.scal])],true⟩),(124,⟨[.agg 2],[(true,[.fresh 3 1,.fresh 49 5])],false⟩),(62,⟨[.one],[(false,[.fresh 30 3])],false⟩),(38,⟨[.one,.one],[(false,[.scal])],true⟩),(123,⟨[.agg 2,.agg 5,.one],[(false,[.scal])],true⟩),(121,⟨[.agg 2],[(false,[.scal])],true⟩),(122,⟨[.agg 2,.one],[(false,[.fresh 3 1])],false⟩),(149,⟨[.one],[(false,[.fresh 49 5])],false⟩),(125,⟨[.agg 5],[(true,[.scal,.scal,.scal,.scal,.pure])],false⟩),(95,⟨[.one],[(false,[.fresh 105 3])],false⟩),(96,⟨[.one],[(false,[.fresh 99 2])],false⟩),zZr,zZr,(19,⟨[.agg 1],[(false,[.scal])],true⟩),(53,⟨[.one,.one],[(false,[.pure]),(false,[.scal]),(false,[.scal])],false⟩),(78,⟨[.one,.one],[(false,[.pure]),(false,[.pure]),(false,[.scal])],false⟩),(69,⟨[.one],[(false,[.scal])],true⟩),(28,⟨[.one,.agg 5],[(false,[.pure]),(false,[.scal]),(false,[.pure]),(false,[.scal])],false⟩),zZr,zZr,zZr,(30,⟨[.one,.one,.agg 5],[(false,[.pure]),(false,[.pure]),(false,[.scal])],false⟩),zZr,zZr,(35,⟨[.agg 2],[(false,[.scal])],true⟩),(37,⟨[.agg 2,.one],[(false,[.fresh 3 1]),(false,[.scal])],false⟩),(40,⟨[.one,.agg 2,.one],[(false,[.pure]),(false,[.scal])],false⟩),zZr,zZr,zZr,zZr,zZr,zZr,zZr,zZr,zZr,(101,⟨[.one,.agg 2],[(false,[.scal])],true⟩),(102,⟨[.one],[(false,[.scal]),(false,[.scal])],true⟩),(103,⟨[.one],[(false,[.fresh 9 1])],false⟩),(115,⟨[.one,.one],[(false,[.pure]),(false,[.scal]),(false,[.scal])],false⟩)]
def z0vd:List (Nat × Sig):=[(126,⟨[.one],[(false,[.scal])],true⟩),(127,⟨[.one,.one],[(false,[.scal])],true⟩),(150,⟨[.one],[(false,[.scal])],true⟩),(92,⟨[.agg 2,.agg 2],[(false,[.scal])],true⟩),(146,⟨[.agg 6,.agg 2],[(false,[.scal])],true⟩),(145,⟨[.one,.agg 2,.clos 146 []],[(false,[.scal]),(false,[.scal])],true⟩),(118,⟨[.one,.agg 2],[(false,[.scal]),(false,[.scal])],true⟩),(91,⟨[.one],[(false,[.scal])],true⟩),(44,⟨[.one],[(false,[.scal])],true⟩),(93,⟨[.one],[(false,[.fresh 101 6])],false⟩),(64,⟨[.one],[(false,[.fresh 103 2])],false⟩),(45,⟨[.one],[(false,[.pure])],false⟩),(74,⟨[.agg 3,.one],[(false,[.scal])],true⟩),(120,⟨[.mine 101 6,.one,.one],[(false,[.fresh 101 6])],false⟩),(119,⟨[.mine 101 6,.one,.one],[(false,[.fresh 101 6])],false⟩),(144,⟨[.one,.one,.one],[(false,[.scal]),(false,[.scal])],true⟩),(111,⟨[.agg 3],[(false,[.scal])],true⟩),(73,⟨[.one,.agg 3,.one,.one],[(false,[.pure]),(true,[.pure]),(false,[.scal])],false⟩),zZr,(57,⟨[.one,.one],[(false,[.scal])],true⟩),zZr,(60,⟨[.one,.one,.clos 61 []],[(false,[.scal])],true⟩),(59,⟨[.agg 2,.agg 2],[(false,[.scal])],true⟩),(67,⟨[.one],[(false,[.scal])],true⟩),(68,⟨[.agg 2,.agg 2],[(false,[.scal])],true⟩),(20,⟨[.one],[(false,[.scal])],true⟩),(16,⟨[.one,.one],[(false,[.scal])],true⟩),(61,⟨[.agg 6,.agg 6],[(false,[.scal])],true⟩),zZr,(165,⟨[.one,.one,.one],[(false,[.fresh 3 1]),(false,[.scal])],false⟩),(210,⟨[.one,.one],[(false,[.scal])],true⟩),(211,⟨[.one,.one],[(false,[.scal])],true⟩),(212,⟨[.one,.one],[(false,[.scal])],true⟩),(214,⟨[.one,.one],[(false,[.scal])],true⟩),(215,⟨[.one,.one],[(false,[.scal])],true⟩),(216,⟨[.one],[(false,[.scal])],true⟩),(213,⟨[.one],[(false,[.scal])],true⟩),(217,⟨[.one],[(false,[.scal])],true⟩),(104,⟨[.one],[(false,[.scal])],true⟩),(143,⟨[.one,.one],[(false,[.scal])],true⟩),(142,⟨[],[(true,[.scal,.scal,.scal,.scal,.scal,.scal,.scal,.scal,.scal,.scal,.scal,.scal,.scal,.scal])],true⟩),zZr,(155,⟨[.one],[(false,[.scal])],true⟩),(134,⟨[.one,.one,.one],[(false,[.fresh 3 1]),(false,[.scal])],false⟩),(108,⟨[.one,.one,.one],[(false,[.scal])],true⟩),(131,⟨[.one],[(false,[.pure])],false⟩),zZr,(66,⟨[.one,.one],[(false,[.scal])],true⟩),(105,⟨[.one],[(false,[.scal])],true⟩),(107,⟨[.one,.agg 2],[(false,[.scal])],true⟩),(110,⟨[.one],[(false,[.fresh 101 6])],false⟩),(56,⟨[.agg 3,.one],[(false,[.scal])],true⟩),(109,⟨[.one],[(false,[.fresh 101 6])],false⟩),(52,⟨[.agg 3],[(false,[.scal])],true⟩),(55,⟨[.one,.agg 3,.one,.one],[(false,[.pure]),(true,[.pure]),(false,[.scal])],false⟩),zZr,(71,⟨[.agg 3],[(false,[.scal]),(false,[.scal])],true⟩),(70,⟨[.agg 5],[(false,[.scal]),(false,[.scal])],true⟩),zZr,zZr,zZr,zZr,(43,⟨[.agg 1],[(false,[.scal])],true⟩),(72,⟨[.agg 1,.one],[(true,[.pure]),(false,[.pure]),(false,[.scal])],false⟩),(65,⟨[.agg 5],[(false,[.scal])],true⟩),(23,⟨[.agg 1,.agg 5],[(true,[.pure]),(false,[.scal]),(false,[.pure]),(false,[.scal])],false⟩),(63,⟨[.one],[(false,[.scal]),(false,[.scal])],true⟩),(24,⟨[.agg 1,.one,.agg 5],[(false,[.pure]),(false,[.pure]),(false,[.scal])],false⟩),zZr,zZr,zZr,(54,⟨[.agg 3],[(false,[.scal])],true⟩),zZr,(46,⟨[.one],[(false,[.pure])],false⟩),zZr,(87,⟨[.one],[(false,[.fresh 3 1])],false⟩),(88,⟨[.mine 3 1],[],false⟩),(39,⟨[.one,.one],[(false,[.scal])],true⟩),(84,⟨[.agg 2,.one],[(false,[.pure]),(false,[.scal])],false⟩),(89,⟨[.agg 2,.one],[(true,[.scal,.scal,.scal,.scal,.pure]),(false,[.scal])],false⟩),(86,⟨[.agg 2,.one,.agg 5],[(true,[.pure,.pure]),(false,[.scal])],false⟩),(48,⟨[.agg 3],[(true,[.scal,.pure,.pure])],false⟩),zZr,(82,⟨[.agg 1,.agg 2,.one],[(false,[.pure]),(false,[.scal])],false⟩),(83,⟨[.agg 1,.agg 2,.one,.one],[(false,[.pure]),(false,[.scal])],false⟩),(33,⟨[.agg 1,.agg 2,.one],[(false,[.pure]),(false,[.scal])],false⟩),zZr,zZr,(34,⟨[.agg 2,.one,.one],[(false,[.scal]),(false,[.scal])],true⟩),zZr,zZr,zZr,zZr,(85,⟨[.one,.one,.one,.one],[(true,[.scal,.scal,.scal,.scal,.pure])],false⟩),(36,⟨[],[(false,[.scal])],true⟩),zZr,(26,⟨[.agg 5],[(false,[.scal])],true⟩),zZr,(77,⟨[.agg 5],[(false,[.scal])],true⟩),(124,⟨[.agg 2],[(true,[.fresh 3 1,.fresh 49 5])],false⟩),(62,⟨[.one],[(false,[.fresh 30 3])],false⟩),(38,⟨[.one,.one],[(false,[.scal])],true⟩),(123,⟨[.agg 2,.agg 5,.one],[(false,[.scal])],true⟩),(121,⟨[.agg 2],[(false,[.scal])],true⟩),(122,⟨[.agg 2,.one],[(false,[.fresh 3 1])],false⟩),(149,⟨[.one],[(false,[.fresh 49 5])],false⟩),(125,⟨[.agg 5],[(true,[.scal,.scal,.scal,.scal,.pure])],false⟩),(95,⟨[.one],[(false,[.fresh 105 3])],false⟩),(96,⟨[.one],[(false,[.fresh 99 2])],false⟩),zZr,zZr,(19,⟨[.agg 1],[(false,[.scal])],true⟩),(53,⟨[.one,.one],[(false,[.pure]),(false,[.scal]),(false,[.scal])],false⟩),(78,⟨[.one,.one],[(false,[.pure]),(false,[.pure]),(false,[.scal])],false⟩),(69,⟨[.one],[(false,[.scal])],true⟩),(28,⟨[.one,.agg 5],[(false,[.pure]),(false,[.scal]),(false,[.pure]),(false,[.scal])],false⟩),zZr,zZr,zZr,(30,⟨[.one,.one,.agg 5],[(false,[.pure]),(false,[.pure]),(false,[.scal])],false⟩),zZr,zZr,(35,⟨[.agg 2],[(false,[.scal])],true⟩),(37,⟨[.agg 2,.one],[(false,[.fresh 3 1]),(false,[.scal])],false⟩),(40,⟨[.one,.agg 2,.one],[(false,[.pure]),(false,[.scal])],false⟩),zZr,zZr,zZr,zZr,zZr,zZr,zZr,zZr,zZr,(101,⟨[.one,.agg 2],[(false,[.scal])],true⟩),(102,⟨[.one],[(false,[.scal]),(false,[.scal])],true⟩),(103,⟨[.one],[(false,[.fresh 9 1])],false⟩),(115,⟨[.one,.one],[(false,[.pure]),(false,[.scal]),(false,[.scal])],false⟩)]
noncomputable def z2i:za:=spD (fun _:List Op=>True) fun l=>z9 l
noncomputable def zcf:za:=spD (fun _:Tx=>True) fun t=>zm t
noncomputable def z6c:za:=spD (fun l:List Op=>l.length≤8796093022208) fun l=>l
noncomputable def z6j:za:=spD (fun l:List Coin=>l.length≤1000000) fun l=>l
noncomputable def zaw:za:=spD (fun _:List Op × List Op=>True) fun x=>decide (x.1=x.2)
theorem zbe:Meets Tryz.prog z2i 91 ⟨[.one],[(false,[.scal])],true⟩ :=
 zba (e:=fun x:{ x:List Op // True }=>Enc.e x.1) (d:=fun x=>I (z9 x.1)) rfl (z1x (fn:=Tryz.f91) (by kernel_rfl) (by kernel_rfl) (by kernel_rfl)) (fun _=>rfl) fun x W F us hF h=>by
  obtain ⟨v,us,rfl,h1,h⟩:=z1a h;obtain rfl:=z1s h;obtain ⟨A,n,c,rfl,k1⟩:=z2r z9q h1;exact (zby x.1 A n c W F k1 hF).mono fun e w' h=>⟨_,h.1,h.2,.i _ _ (wrap_i64 (zp4 x.1).i64)⟩
theorem z0l2:Meets Tryz.prog zcf 111 ⟨[.agg 3],[(false,[.scal])],true⟩ :=
 zba (e:=fun x:{ x:Tx // True }=>Enc.e x.1) (d:=fun x=>I (zm x.1)) rfl (z1x (fn:=Tryz.f111) (by kernel_rfl) (by kernel_rfl) (by kernel_rfl)) (fun _=>rfl) fun x W F us hF h=>by
  obtain ⟨cs,rfl,hr⟩:=zde h;exact (zf4 x.1 cs W F (she_tx.of hr) hF).mono fun e w' h=>⟨_,h.1,h.2,.i _ _ (wrap_i64 (z0ha x.1).i64)⟩
theorem z02s:Meets Tryz.prog z6c 64 ⟨[.one],[(false,[.fresh 103 2])],false⟩ :=
 z39 (e:=fun x:{ l:List Op // l.length≤8796093022208 }=>Enc.e x.1) (xs:=fun x=>x.1) z9q rfl rfl (by decide) (z1x (fn:=Tryz.f64) (by kernel_rfl) (by kernel_rfl) (by kernel_rfl)) fun x W F us hF h=>by
  obtain ⟨v,us,rfl,h1,h⟩:=z1a h;obtain rfl:=z1s h;obtain ⟨A,n,c,rfl,k1⟩:=z2r z9q h1;have:=x.2;have:=k1.1;exact (z0o4 x.1 A n c W F k1 hF (by omega)).mono fun r W' h=>⟨n,h⟩
theorem z02t:Meets Tryz.prog z6j 93 ⟨[.one],[(false,[.fresh 101 6])],false⟩ :=
 z39 (e:=fun x:{ l:List Coin // l.length≤1000000 }=>Enc.e x.1) (xs:=fun x=>x.1) she_coin rfl rfl (by decide) (z1x (fn:=Tryz.f93) (by kernel_rfl) (by kernel_rfl) (by kernel_rfl)) fun x W F us hF h=>by
  obtain ⟨v,us,rfl,h1,h⟩:=z1a h;obtain rfl:=z1s h;obtain ⟨A,n,c,rfl,k1⟩:=z2r she_coin h1;have:=x.2;have:=k1.1;exact (zop x.1 A n c W F k1 hF (by omega)).mono fun r W' h=>⟨n,h⟩
noncomputable def zcg:za:=spD (fun _:Point × Point=>True) fun x=>z1h x.1 x.2
theorem zvi (p q:Point):zcg [I p.tx,I p.at_,I q.tx,I q.at_]=some [I (z1h p q)]:=ze (f:=fun x:Point × Point=>z1h x.1 x.2) (p,q) trivial
theorem z7d (l:List Op):z2i [.l 2 (l.map eOp)]=some [I (z9 l)]:=ze (f:=fun l:List Op=>z9 l) l trivial
theorem z9x (l:List Op) (h:l.length≤8796093022208):z6c [.l 2 (l.map eOp)]=some [.l 2 (l.map eOp)]:=ze (f:=fun l:List Op=>l) l h
theorem z9y (l:List Coin) (h:l.length≤1000000):z6j [.l 6 (l.map zh)]=some [.l 6 (l.map zh)]:=ze (f:=fun l:List Coin=>l) l h
theorem zp5 {P:Program} {s s':za} {f:Nat} {g:Sig} (h:Meets P s f g) (he:∀ ds rs,s' ds=some rs→s ds=some rs):Meets P s' f g:=by
 refine ⟨fun hm W F ds args rs hF ha hs=>h.1 hm W F ds args rs hF ha (he _ _ hs),fun e sz ps hp W F base v xs vs ds args rs h1 h2 h3 h4 h5 h6 h7 hs=>h.2 e sz ps hp W F base v xs vs ds args rs h1 h2 h3 h4 h5 h6 h7 (he _ _ hs)⟩
theorem z0l3:Meets Tryz.prog zcg 92 ⟨[.agg 2,.agg 2],[(false,[.scal])],true⟩:=zp5 z0l0 fun ds rs h=>by
 obtain ⟨⟨p,q⟩,-,rfl,rfl⟩:=zg h;exact zp2 p q
noncomputable def zch:za:=spD (fun x:List Coin × Point=>z03 x.1∧x.1.length≤1000000) fun x=>((zq x.1 x.2:Int),z1n x.1 x.2)
theorem zc0 (l:List Coin) (p:Point) (h:z03 l) (hl:l.length≤1000000):zch [.l 6 (l.map zh),I p.tx,I p.at_]=some [I (zq l p),.b (z1n l p)]:=ze (p:=fun x:List Coin × Point=>z03 x.1∧x.1.length≤1000000) (f:=fun x:List Coin × Point=>((zq x.1 x.2:Int),z1n x.1 x.2)) (l,p) ⟨h,hl⟩
theorem z0l4:Meets Tryz.prog zch 118 ⟨[.one,.agg 2],[(false,[.scal]),(false,[.scal])],true⟩:=zp5 z0va fun ds rs h=>by
 obtain ⟨⟨l,p⟩,⟨h1,h2⟩,rfl,rfl⟩:=zg h;exact zum l p h1 h2
def z4w (c:Coin):Int:=if c.p.tx<1∨120<c.p.tx∨c.p.at_<0∨6≤c.p.at_∨c.o.coin<1∨1000000000<c.o.coin∨c.height<1∨1000<c.height then 3 else z9 c.o.lock
def zi:List Coin→Int
 | []=>0
 | c::l=>c.o.coin+zi l
theorem z53 (l r:List Coin):zi (l++r)=zi l+zi r:=by
 induction l with
 | nil=>simp [zi]
 | cons c l ih=>simp only [zY1h,zi,ih];omega
def z73:Point→Int→List Coin→Int
 | _,_,[]=>0
 | pv,s,c::r=>if c.p.tx<1∨120<c.p.tx∨c.p.at_<0∨6≤c.p.at_∨c.o.coin<1∨1000000000<c.o.coin∨c.height<1∨1000<c.height then 3
  else if z9 c.o.lock≠0 then z9 c.o.lock else if 0≤z1h pv c.p then 6 else if 1000000000<s+c.o.coin then 12 else z73 c.p (s+c.o.coin) r
def zd (l:List Coin):Int:=if 720<(l.length:Int) then 2 else z73 ⟨0,0⟩ 0 l
noncomputable def z5q:za:=spD (fun _:List Coin=>True) fun l=>zd l
theorem z8t (l:List Coin):z5q [.l 6 (l.map zh)]=some [I (zd l)]:=ze (f:=fun l:List Coin=>zd l) l trivial
attribute [local irreducible] z01 spD z1h
def z0c2:T :=
 .W [.B .gtr 30 (zI 1000000000)] [] (.ite 31 (.ret [zI 12]) (.W [.B .add 6 (zI 1)] [] (.again 0 [30,5,32])))
def z0c3:T :=
 .W [.call 3 [26,27,8,9] 0] [] (.W [.B .geq 28 (zI 0)] [] (.ite 29 (.ret [zI 6]) (.W [.B .add 4 10] []
 z0c2)))
def z0c4:T :=
 .W [.B .gtr 25 (zI 1000000000)] [] (.ite 26 (.ret [zI 12]) (.W [.B .add 6 (zI 1)] [] (.again 0 [25,5,27])))
def z0c5:T :=
 .ite 24 (.W [.B .sub 6 (zI 1)] [] (.W [] [.inr 6 0 25] (.W [.idx 0 25 0,.idx 0 25 1] [] z0c3))) (.W [.B
 .add 4 10] [] z0c4)
def z0c6:T :=
 .W [.call 7 [11] 0] [] (.W [.B .neq 22 (zI 0)] [] (.ite 23 (.ret [22]) (.W [.B .gtr 6 (zI 0)] [] z0c5)))
def z0c7:T :=
 .W [.B .lss 12 (zI 1)] [] (.ite 20 (.ret [zI 3]) (.W [.B .gtr 12 (zI 1000)] [] (.ite 21 (.ret [zI 3])
 z0c6)))
def z0c8:T :=
 .W [.B .lss 10 (zI 1)] [] (.ite 18 (.ret [zI 3]) (.W [.B .gtr 10 (zI 1000000000)] [] (.ite 19 (.ret [zI 3])
 z0c7)))
def z0c9:T :=
 .W [.B .lss 9 (zI 0)] [] (.ite 16 (.ret [zI 3]) (.W [.B .geq 9 (zI 6)] [] (.ite 17 (.ret [zI 3]) z0c8)))
def z0ca:T :=
 .W [.B .lss 8 (zI 1)] [] (.ite 14 (.ret [zI 3]) (.W [.B .gtr 8 (zI 120)] [] (.ite 15 (.ret [zI 3])
 z0c9)))
def z0cb:T :=
 .W [] [.inr 6 0 6] (.W [.idx 0 6 0,.idx 0 6 1,.idx 0 6 2,.idx 0 6 3,.idx 0 6 4,.idx 0 6 5] []
 z0ca)
def z02u:T :=
 .W [.len 0] [] (.loop [zI 0,zI 0,zI 0] (.W [.B .lss 6 3] [] (.ite 7 z0cb (.ret [zI 0]))))
def zix:T :=
 .W [.len 0] [] (.W [.B .gtr 1 (zI 720)] [] (.ite 2 (.ret [zI 2]) z02u))
theorem zun:Meets Tryz.prog z5q 44 ⟨[.one],[(false,[.scal])],true⟩:=by
 refine zf (sp:=(zy [(3,zcg),(7,z2i)])) (sigs:=z05) (cut:=[]) (hints:=[⟨5,[.t 3,.t 2,.t 12]⟩]) (fn:=Tryz.f44) (t:=zix) (by kernel_rfl) (by kernel_rfl) (by kernel_rfl) ?_ ?_
 ·exact (zr (L:=[(3,zcg),(7,z2i)]) ⟨z7 rfl z0l3,z7 rfl zbe,trivial⟩)
 ·rintro ds rs - h
  obtain ⟨l,-,rfl,rfl⟩:=zg h;clear h;refine ⟨⟨l.length+1,?_⟩,z04 rfl⟩
  show den _ _ zix [.l 6 (l.map zh)] []=ret (zd l)
  unfold zix zd
  repeat' (first|refine dq1 ?_|exact z5 rfl rfl|refine tR (fun h=>?_) fun h=>?_|fail)
  (refine zn (fun (st:Point × Int) k=>[I st.2,I 0,I k]) (fun st k r=>z73 st.1 st.2 r) (fun st k=>((k=0∧st.1=⟨0,0⟩)∨(0<k∧∃ d,l[((k:Int) - 1).toNat]? = some d∧d.p=st.1))∧0≤st.2∧st.2≤1000000000) (⟨0,0⟩,0) l ?_ ?_ ?_ ?_ ?_;rfl;exact ⟨.inl ⟨rfl,rfl⟩,by decide,by decide⟩;exact zY29 _)
  ·rintro ⟨pv,s⟩ k c r hx hd hk ⟨hp,hs0,hs1⟩ again hag
   simp only at hp hs0 hs1 ⊢;rw [z73]
   repeat' (first|refine dq1 ?_|refine dqc ?_|refine dqm ?_|refine dqk rfl (z7d _) ?_|exact z5 rfl rfl|((first|refine tR ?_ ?_|refine tO ?_ ?_) <;> intro h)|refine dqT ?_|fail)
   refine z3d rfl (fun h=>?_) (fun h=>?_)
   ·obtain ⟨hk0,-⟩|⟨hk0,d,hd',rfl⟩:=hp
    ·omega
    repeat' (first|refine dq1 ?_|refine dqc ?_|refine dqm ?_|refine dqk rfl (zvi _ _) ?_|exact z5 rfl rfl|refine tR (fun h=>?_) fun h=>?_|fail)
    exact z6 rfl rfl (hag (c.p,s+c.o.coin) ⟨.inr ⟨by omega,c,by simpa using hx,rfl⟩,by simp only;omega,by simp only;omega⟩)
   ·obtain ⟨rfl,rfl⟩|⟨hk0,-⟩:=hp
    ·have ho:¬ 0≤z1h ⟨0,0⟩ c.p:=by
      have:=zkj ⟨0,0⟩ c.p;unfold ltP at this;simp only at this;omega
     rw [if_neg ho]
     repeat' (first|refine dq1 ?_|exact z5 rfl rfl|refine tR (fun h=>?_) fun h=>?_|fail)
     exact z6 rfl rfl (hag (c.p,s+c.o.coin) ⟨.inr ⟨by omega,c,by simpa using hx,rfl⟩,by simp only;omega,by simp only;omega⟩)
    ·omega
  ·intro st hI again
   simp only [z73]
   repeat' (first|refine dq1 ?_|exact z5 rfl rfl|refine dqF ?_|fail)
structure CoinsOK (l:List Coin):Prop where
 len:l.length≤720
 good:∀ c ∈ l,z4w c=0
 sorted:z03 l
 total:zi l≤1000000000
theorem z3v {c:Coin} (h:z4w c=0):1≤c.p.tx∧c.p.tx≤120∧0≤c.p.at_∧c.p.at_≤5∧1≤c.o.coin∧c.o.coin≤1000000000∧1≤c.height∧c.height≤1000∧z9 c.o.lock=0:=by
 unfold z4w at h
 split at h
 ·cases h
 ·omega
theorem zp6:∀ (l:List Coin) (p:Point) (s:Int),0≤s→s≤1000000000→(z73 p s l=0↔(∀ c ∈ l,z4w c=0)∧z03 l∧(∀ c ∈ l,ltP p c.p)∧s+zi l≤1000000000)
 | [],p,s,h0,h1=>by simp [z73,z03,zi];omega
 | c::l,p,s,h0,h1=>by
  have ho:=zkj p c.p;rw [z73]
  by_cases hb:z4w c=0
  ·have hb':=hb
   unfold z4w at hb'
   split at hb'
   ·cases hb'
   rename_i hr;rw [if_neg hr,if_neg (by simp [hb'])];obtain ⟨_,_,_,_,hc1,hc2,_,_,_⟩:=z3v hb
   by_cases hlt:ltP p c.p
   ·rw [if_neg (by have:=ho.2 hlt;omega)]
    by_cases hf:1000000000<s+c.o.coin
    ·rw [if_pos hf]
     constructor
     ·intro h;cases h
     ·rintro ⟨h2,h3,h4,h5⟩
      have:∀ l:List Coin,(∀ c ∈ l,z4w c=0)→0≤zi l:=by
       intro l
       induction l with
       | nil=>intro _;simp [zi]
       | cons d l ih =>
        intro h;have:=z3v (h d (zY0j ..));have:=ih fun x hx=>h x (zY0i _ hx)
        simp only [zi];omega
      have:=this l fun x hx=>h2 x (zY0i _ hx)
      simp only [zi] at h5;omega
    ·rw [if_neg hf,zp6 l c.p (s+c.o.coin) (by omega) (by omega)]
     simp only [z03,zi,zY0g,forall_eq_or_imp,zY1d];constructor
     ·rintro ⟨h2,h3,h4,h5⟩
      exact ⟨⟨hb,h2⟩,⟨h4,h3⟩,⟨hlt,fun x hx=>z7m hlt (h4 x hx)⟩,by omega⟩
     ·rintro ⟨⟨_,h2⟩,⟨h4,h3⟩,_,h5⟩
      exact ⟨h2,h3,h4,by omega⟩
   ·rw [if_pos (by rcases Int.lt_or_le (z1h p c.p) 0 with h|h;exact absurd (ho.1 h) hlt;exact h)]
    constructor
    ·intro h;cases h
    ·rintro ⟨_,_,h4,_⟩
     exact absurd (h4 c (zY0j ..)) hlt
  ·constructor
   ·intro h
    exfalso
    apply hb;unfold z4w
    split
    ·rename_i hr
     rw [if_pos hr] at h;cases h
    ·rename_i hr
     rw [if_neg hr] at h
     by_cases hc:z9 c.o.lock=0
     ·exact hc
     ·rw [if_pos hc] at h;exact absurd h hc
   ·rintro ⟨h2,_⟩
    exact absurd (h2 c (zY0j ..)) hb
theorem zdh {l:List Coin} (h:∀ c ∈ l,z4w c=0):0≤zi l:=by
 induction l with
 | nil=>simp [zi]
 | cons d l ih =>
  have:=z3v (h d (zY0j ..));have:=ih fun x hx=>h x (zY0i _ hx)
  simp only [zi];omega
theorem z12 (l:List Coin):zd l=0↔CoinsOK l:=by
 unfold zd
 by_cases h:(720:Int)<l.length
 ·rw [if_pos h]
  constructor
  ·intro h;cases h
  ·intro ok;have:=ok.len;omega
 ·rw [if_neg h,zp6 l ⟨0,0⟩ 0 (by decide) (by decide)]
  constructor
  ·rintro ⟨h1,h2,_,h4⟩;exact ⟨by omega,h1,h2,by omega⟩
  ·intro ok
   refine ⟨ok.good,ok.sorted,fun c hc=>?_,by have:=ok.total;omega⟩;have:=z3v (ok.good c hc);unfold ltP;simp only;omega
theorem z9z {l:List Op} (h:z9 l=0):l.length≤16:=by
 unfold z9 at h
 split at h
 ·cases h
 ·omega
end
section
open Go.RowKit Go.Shelf
open Go.Lib (itoa atoiAll atoiSat)
set_option maxRecDepth 100000
structure GoErr where
 is:Bool
instance:Enc GoErr:=⟨fun x=>[.e x.is],1,fun _=>rfl,fun x y h=>by cases x;cases y;simpa using h⟩
section
variable {P:Program} {W:World} {F:Nat→Prop}
theorem zfu {x:List UInt8} {v:Value} (h:Rep W F (.s x) v):v = .string ⟨x.toArray⟩∧x.length≤9223372036854775807:=by
 cases h
 exact ⟨rfl,by assumption⟩
theorem z0ol {l:List (List UInt8)} {v:Value} (h:Rep W F (.l 1 (l.map z0c)) v):∃ A c b o,v = .slice A l.length c∧l.length≤c∧c≤9223372036854775807∧(0<l.length→A=some ⟨b,o,none⟩∧F b)∧∀ (j:Nat) x,l[j]? = some x→W.cell? ⟨b,o+j,none⟩=some (.string ⟨x.toArray⟩):=by
 cases h with
 | l _ _ A n c b o vs h0 h1 h2 h3 h4 h5 h6 =>
  subst h0;refine ⟨A,c,b,o,by rw [zY0y],by simpa using h1,h2,by simpa using h4,fun j x hx=>?_⟩;have e1:=h5 j 0 (z0c x) (.s x) (by rw [zY0m,hx];rfl) rfl;have e2:=h6 j 0 (z0c x) (.s x) (by rw [zY0m,hx];rfl) rfl;rw [(zfu e2).1] at e1;simpa using e1
theorem z9c {α β:Type} [Enc α] [Enc β] {p:α→Prop} {f:α→β} {s:Sig} {fnum:Nat} (hpk:z4h s.args=false) (hen:En P fnum)
  (h:∀ x,p x→∀ W F us,zbw F W→PKRs W F s.args (Enc.e x) us→Calls P fnum us.toArray W fun r W'=>∃ v,r = .returned v∧Below W.heap.size W W'∧∃ us F',ResR W F W' s (Enc.e (f x)) v us F'):Meets P (spD p f) fnum s :=
 .mk hpk fun W F ds args rs hF ha hs=>by
  obtain ⟨x,hx,rfl,rfl⟩:=zg hs;exact .inl ⟨hen.run _ _,(h x hx W F args hF ha).mono fun r W' ⟨v,h1,h2,h3⟩=>⟨v,h1,h2,h3⟩⟩
theorem zp7 {α:Type} [Enc α] {p:α→Prop} {f:α→List UInt8} {pk:List PK} {fnum:Nat} (hpk:z4h pk=false) (hen:En P fnum)
  (h:∀ x,p x→∀ W F us,zbw F W→PKRs W F pk (Enc.e x) us→(f x).length≤9223372036854775807∧Calls P fnum us.toArray W fun r W'=>r = .returned (.string ⟨(f x).toArray⟩)∧Below W.heap.size W W'):Meets P (spD p f) fnum ⟨pk,[(false,[.scal])],true⟩ :=
 z9c hpk hen fun x hx W F us hF ha=>(h x hx W F us hF ha).2.mono fun r W' ⟨h1,h2⟩=>⟨_,h1,h2,zlx rfl (.s _ (h x hx W F us hF ha).1)⟩
theorem za0 {α:Type} [Enc α] {p:α→Prop} {f:α→Int} {pk:List PK} {fnum:Nat} (hpk:z4h pk=false) (hen:En P fnum)
  (h:∀ x,p x→∀ W F us,zbw F W→PKRs W F pk (Enc.e x) us→I64 (f x)∧Calls P fnum us.toArray W fun r W'=>r = .returned (.int .i64 (f x))∧Below W.heap.size W W'):Meets P (spD p f) fnum ⟨pk,[(false,[.scal])],true⟩ :=
 z9c hpk hen fun x hx W F us hF ha=>(h x hx W F us hF ha).2.mono fun r W' ⟨h1,h2⟩=>⟨_,h1,h2,zlx rfl (.i _ _ (wrap_i64 (h x hx W F us hF ha).1))⟩
theorem zrw {s:List PK} {l:Bool} {W':World} {d1 d2:Dt} {v1 v2:Value} (h1:d1.scal=true) (h2:d2.scal=true) (r1:Rep W' F d1 v1) (r2:Rep W' F d2 v2):∃ us F',ResR W F W' ⟨s,[(false,[.scal]),(false,[.scal])],l⟩ [d1,d2] (.tuple #[v1,v2]) us F':=by
 refine ⟨[v1,v2],F,zm1 ⟨[v1,v2],rfl,v1,[v2],[v1],[v2],rfl,rfl,⟨rfl,rfl⟩,v2,[],[v2],[],rfl,rfl,⟨rfl,rfl⟩,rfl,rfl⟩ ?_ ?_ rfl ⟨r1,r2,trivial⟩ fun b hb=>.inl hb⟩
 ·intro c hc
  simp only [zu,zY1v,zY2o,zY1e,zY1h,zY17,zY0g,zY1g,or_false] at hc;rcases hc with rfl|rfl <;> exact .inl rfl
 ·intro j d hj hd
  match j,hd with
  | 0,hd=>simp only [zY05,zY00] at hd;subst hd;exact h1
  | 1,hd=>simp only [zY05,zY2k,zY00] at hd;subst hd;exact h2
  | j+2,hd=>simp at hd
end
theorem z6o (n:Int) (h:I64 n):(itoa n).length≤20:=by
 obtain ⟨h0,h1⟩:=h
 by_cases hn:n<0
 ·rw [zm2 hn,zY0a]
  have:=z5g 18 n.natAbs (by omega);omega
 ·rw [zm3 hn]
  have:=z5g 18 n.toNat (by omega);omega
noncomputable def z4x:za:=spD (fun _:Int=>True) fun n=>itoa n
theorem z6p (n:Int):z4x [I n]=some [.s (itoa n)]:=ze (f:=fun n:Int=>itoa n) n trivial
theorem zp8:Meets Tryz.prog z4x 104 ⟨[.one],[(false,[.scal])],true⟩ :=
 zp7 rfl (z1x (fn:=Tryz.f104) (by kernel_rfl) (by kernel_rfl) (by kernel_rfl)) fun n _ W F us hF h=>by
  obtain ⟨v,us,rfl,h1,h⟩:=z1a h;obtain rfl:=z1s h;obtain ⟨rfl,hn⟩:=zd0 h1;refine ⟨by have:=z6o n hn;omega,(Any.strconv_Itoa Tryz.lays171 n hn.1 hn.2 W hF.2.1).mono ?_⟩;rintro e w' ⟨rfl,k,os,rfl⟩;exact ⟨rfl,Go.Lib.below_grow _ _ (zY0k _) k os⟩
noncomputable def zci:za:=spD (fun x:List (List UInt8) × List UInt8=>x.1.length≤1000000∧(Go.Lib.join x.1 x.2).length≤1000000000) fun x=>Go.Lib.join x.1 x.2
theorem zvj (l:List (List UInt8)) (s:List UInt8) (h:l.length≤1000000∧(Go.Lib.join l s).length≤1000000000):zci [.l 1 (l.map z0c),.s s]=some [.s (Go.Lib.join l s)] :=
 ze (p:=fun x:List (List UInt8) × List UInt8=>x.1.length≤1000000∧(Go.Lib.join x.1 x.2).length≤1000000000) (f:=fun x:List (List UInt8) × List UInt8=>Go.Lib.join x.1 x.2) (l,s) h
theorem z0l5:Meets Tryz.prog zci 143 ⟨[.one,.one],[(false,[.scal])],true⟩ :=
 zp7 rfl (z1x (fn:=Tryz.f143) (by kernel_rfl) (by kernel_rfl) (by kernel_rfl)) fun ⟨l,s⟩ ⟨hl,hj⟩ W F us hF h=>by
  obtain ⟨v,us,rfl,h1,h⟩:=z1a h;obtain ⟨v2,us,rfl,h2,h⟩:=z1a h;obtain rfl:=z1s h;obtain ⟨A,c,b,o,rfl,hc,hcm,hp,hcell⟩:=z0ol h1;obtain ⟨rfl,-⟩:=zfu h2;simp only at hl hj hc hp hcell;refine ⟨by simp only;omega,?_⟩
  by_cases h0:l.length=0
  ·obtain rfl:l=[]:=zY0c h0
   exact (Any.strings_Join_none Tryz.lays156 Tryz.Builder_Extra_156 A c ⟨s.toArray⟩ W).mono fun e w' ⟨h1,h2⟩=>⟨h1,h2 ▸ Below.refl _ _⟩
  ·obtain ⟨rfl,hb⟩:=hp (by omega)
   have hd:∀ l:List (List UInt8),(l.map fun x=>(⟨x.toArray⟩:ByteArray)).map (·.data.toList)=l:=fun l=>by rw [zY3p];exact (List.map_congr_left fun x _=>rfl).trans (List.map_id l)
   have key:=Any.strings_Join Tryz.lays156 Tryz.Builder_Extra_156 b o c (l.map fun x=>(⟨x.toArray⟩:ByteArray)) ⟨s.toArray⟩ W (fun j x hx=>by
    rw [zY0m] at hx;obtain ⟨y,hy,rfl⟩:=zY0s.1 hx;exact hcell j y hy) (hF.1 b hb) (by rw [zY0y];omega) (by rw [zY0y];omega) (by rw [hd];simp only;omega)
   rw [hd,zY0y] at key;exact key
end
section
open Go.RowKit Go.Shelf
open Go.Lib (itoa atoiAll atoiSat)
set_option maxRecDepth 100000
theorem z0uc (x:List UInt8):(⟨x.toArray⟩:ByteArray).size=x.length:=by
 show x.toArray.size=x.length
 simp
section
variable {P:Program} {W:World} {F:Nat→Prop}
theorem z02v (t:Nat) (L:List (List UInt8)) (hx:∀ x ∈ L,x.length≤9223372036854775807) (hL:L.length≤9223372036854775807) :
  Rep (W.alloc (.cells (L.map fun x=>Value.string ⟨x.toArray⟩).toArray t)) (fun b=>F b∨b=W.heap.size) (.l 1 (L.map z0c)) (.slice (some ⟨W.heap.size,0,none⟩) L.length L.length):=by
 refine .l 1 _ _ _ _ W.heap.size 0 (fun i _=>.string ⟨((L[i]?).getD []).toArray⟩) (by rw [zY0y]) (by rw [zY0y];exact zY0k _) hL (fun x hx=>?_) (fun _=>⟨rfl,.inr rfl⟩) (fun i j x d hi hj=>?_) (fun i j x d hi hj=>?_)
 ·obtain ⟨y,_,rfl⟩:=zY2w.1 hx;rfl
 ·rw [zY0m] at hi
  obtain ⟨y,hy,rfl⟩:=zY0s.1 hi
  match j,hj with
  | 0,hj =>
   have hc:(W.alloc (.cells (L.map fun x=>Value.string ⟨x.toArray⟩).toArray t)).heap[W.heap.size]? = some (.cells (L.map fun x=>Value.string ⟨x.toArray⟩).toArray t):=heap_alloc_new W _;rw [hy];simp only [World.cell?,hc,zY0x,Nat.mul_one,zY2c,List.getElem?_toArray,zY0m,hy,zY1a,zY1o];rfl
 ·rw [zY0m] at hi
  obtain ⟨y,hy,rfl⟩:=zY0s.1 hi
  match j,hj with
  | 0,hj =>
   simp only [z0c,zY05,zY00] at hj;subst hj;rw [hy];exact .s y (hx y (zY07 hy))
theorem z0om {s:List PK} {l:Bool} {t:Nat} {L:List (List UInt8)} (hx:∀ x ∈ L,x.length≤9223372036854775807) (hL:L.length≤9223372036854775807) :
  ∃ us F',ResR W F (W.alloc (.cells (L.map fun x=>Value.string ⟨x.toArray⟩).toArray t)) ⟨s,[(false,[.pure])],l⟩ (Enc.e L) (.slice (some ⟨W.heap.size,0,none⟩) L.length L.length) us F':=by
 refine ⟨[_],fun b=>F b∨b=W.heap.size,zm1 ⟨rfl,rfl⟩ ?_ ?_ rfl ⟨z02v t L hx hL,trivial⟩ fun b hb=>?_⟩
 ·intro c hc
  simp only [zu,zY1v,zY2o,zY1e,zY0g,zY1g,or_false] at hc;exact .inr hc
 ·intro j d hj hd
  match j,hj with
  | 0,hj=>cases hj
  | j+1,hj=>simp [zu] at hj
 ·rcases hb with hb|rfl
  ·exact .inl hb
  ·exact .inr ⟨zY0k _,by simp⟩
end
noncomputable def z6d:za:=spD (fun x:List UInt8=>x.length≤1000000∧(∀ b ∈ x,b.toNat<128)∧(Go.Lib.fields x).length≤1000000∧∀ y ∈ Go.Lib.fields x,y.length≤1000000) fun x=>Go.Lib.fields x
theorem zp9 (x:List UInt8) (h:x.length≤1000000∧(∀ b ∈ x,b.toNat<128)∧(Go.Lib.fields x).length≤1000000∧∀ y ∈ Go.Lib.fields x,y.length≤1000000):z6d [.s x]=some [.l 1 ((Go.Lib.fields x).map z0c)] :=
 ze (p:=fun x:List UInt8=>x.length≤1000000∧(∀ b ∈ x,b.toNat<128)∧(Go.Lib.fields x).length≤1000000∧∀ y ∈ Go.Lib.fields x,y.length≤1000000) (f:=fun x:List UInt8=>Go.Lib.fields x) x h
theorem z0cc:Meets Tryz.prog z6d 131 ⟨[.one],[(false,[.pure])],false⟩ :=
 z9c rfl (z1x (fn:=Tryz.f131) (by kernel_rfl) (by kernel_rfl) (by kernel_rfl)) fun s ⟨hs,ha,hn,hy⟩ W F us hF h=>by
  obtain ⟨v,us,rfl,h1,h⟩:=z1a h;obtain rfl:=z1s h;obtain ⟨rfl,-⟩:=zfu h1;refine (Any.strings_Fields_laid Tryz.lays157 ⟨s.toArray⟩ W (by rw [z0uc];omega) (fun j b hb=>ha b (zY07 hb)) hF.2.2.2.2).mono ?_;rintro e w' ⟨rfl,rfl⟩;refine ⟨_,rfl,(Below.refl _ _).alloc (zY0k _) _,?_⟩;have e:Go.Lib.fields (⟨s.toArray⟩:ByteArray).data.toList=Go.Lib.fields s:=rfl;rw [e];exact z0om (fun x hx=>by have:=hy x hx;omega) (by omega)
def zdi (s:List UInt8):Int × GoErr:=match atoiAll s with
 | .ok v=>(v,⟨false⟩)
 | .range=>(atoiSat s,⟨true⟩)
 | _=>(0,⟨true⟩)
end
section
open Go.RowKit Go.Shelf
open Go.Lib (itoa atoiAll atoiSat)
set_option maxRecDepth 100000
end
section
open Go.RowKit
theorem zuo:∀ {l:List Out},z2c l=0→∀ o ∈ l,z6b o=0
 | [],_,o,ho=>by cases ho
 | x::l,h,o,ho=>by
  rw [z2c] at h
  split at h
  ·rename_i hb;exact absurd h hb
  ·rename_i hb
   rcases zY0g.1 ho with rfl|ho
   ·exact zY0u.1 hb
   ·exact zuo h o ho
theorem z0l6 {o:Out} (h:z6b o=0):1≤o.coin∧z9 o.lock=0:=by
 unfold z6b at h
 split at h
 ·cases h
 ·exact ⟨by omega,h⟩
theorem z02w:∀ (l:List Int) (s:Int),(z8s l s).2=0→∀ x ∈ l,0≤x∧x≤1000000000
 | [],_,_,x,hx=>by cases hx
 | y::l,s,h,x,hx=>by
  unfold z8s at h
  by_cases hb:0≤y∧y≤1000000000
  ·rw [if_pos hb] at h
   by_cases hf:1000000000<s+y
   ·rw [if_pos hf] at h;cases h
   ·rw [if_neg hf] at h
    rcases zY0g.1 hx with rfl|hx
    ·exact hb
    ·exact z02w l _ h x hx
  ·rw [if_neg hb] at h;cases h
structure TxOK (t:Tx):Prop where
 ins:t.ins.length≤6
 outs:t.outs.length≤6
 some:0<t.outs.length
 head:z2d t=0
 insOk:z2n t.ins []=0
 good:∀ o ∈ t.outs,1≤o.coin∧o.coin≤1000000000∧z9 o.lock=0
theorem z4n {t:Tx} (h:zm t=0):TxOK t:=by
 unfold zm at h
 split at h
 ·rename_i hb;exact absurd h hb
 rename_i h1
 split at h
 ·rename_i hb;exact absurd h hb
 rename_i h2
 split at h
 ·rename_i hb;exact absurd h hb
 rename_i h3;have h1:z2d t=0:=zY0u.1 h1;have h3:z2c t.outs=0:=zY0u.1 h3;have h1':=h1;unfold z2d at h1'
 split at h1'
 ·cases h1'
 split at h1'
 ·cases h1'
 refine ⟨by omega,by omega,by omega,h1,zY0u.1 h2,fun o ho=>?_⟩;have a:=z0l6 (zuo h3 o ho);have b:=z02w _ _ h o.coin (zY2w.2 ⟨o,ho,rfl⟩);exact ⟨a.1,b.2,a.2⟩
theorem z02x {x:In} (h:z4m x=0):1≤x.p.tx∧x.p.tx≤120∧0≤x.p.at_∧x.p.at_<6∧z9 x.key=0:=by
 unfold z4m at h
 split at h
 ·cases h
 ·exact ⟨by omega,by omega,by omega,by omega,h⟩
theorem zm7:∀ {l seen:List In},z2n l seen=0→∀ x ∈ l,z4m x=0
 | [],_,_,_,h=>by cases h
 | y::l,seen,h,x,hx=>by
  rw [z2n] at h
  split at h
  ·rename_i hb;exact absurd h hb
  ·rename_i hb
   split at h
   ·cases h
   ·rcases zY0g.1 hx with rfl|hx
    ·exact zY0u.1 hb
    ·exact zm7 h x hx
theorem zky {h:Int}:∀ {l:List Tx} {i:Nat},z6n h l i=0→∀ t ∈ l,zm t=0
 | [],_,_,t,ht=>by cases ht
 | y::l,i,e,t,ht=>by
  rw [z6n] at e
  by_cases h1:zm y≠0
  ·rw [if_pos h1] at e;exact absurd e h1
  ·rw [if_neg h1] at e
   split at e
   ·cases e
   ·rcases zY0g.1 ht with rfl|ht
    ·simpa using h1
    ·exact zky e t ht
structure BlkOK (b:Block):Prop where
 range:¬ z2q b
 len:b.txs.length≤4
 some:0<b.txs.length
 go:z6n b.height b.txs 0=0
 each:∀ t ∈ b.txs,zm t=0
theorem z1p {b:Block} (h:zb b=0):BlkOK b:=by
 unfold zb at h
 by_cases h0:z5h b=0
 ·rw [if_neg (fun k=>k h0)] at h
  unfold z5h at h0
  split at h0
  ·cases h0
  split at h0
  ·cases h0
  split at h0
  ·cases h0
  exact ⟨by assumption,by omega,by omega,h,zky h⟩
 ·rw [if_pos h0] at h;exact absurd h h0
end
section
open Go.Lib (itoa)
def z3l (x:In):List UInt8:=[105,110,32]++itoa x.p.tx++[32]++itoa x.p.at_++[58]++(z3g x.key).1++[10]
def z2s (x:Out):List UInt8:=[111,117,116,32]++itoa x.coin++[58]++(z3g x.lock).1++[10]
def z4y (t:Tx):List UInt8:=[116,120,32]++itoa t.height++[10]
def z0m (t:Tx):List UInt8:=z4y t++t.ins.flatMap z3l++t.outs.flatMap z2s
def z0j (t:Tx):List UInt8 × Int:=if zm t≠0 then ([],zm t) else (z0m t,0)
theorem zcj (l:List Op):(z3g l).1.length≤144:=by
 unfold z3g
 by_cases h:z9 l=0
 ·rw [if_neg (fun k=>k h)];exact zbd h
 ·rw [if_pos h];simp
def z54 (b:Block):List UInt8:=[98,108,111,99,107,32]++itoa b.parent++[32]++itoa b.height++[32]++itoa b.work++[32]++itoa b.nonce++[10]
def z1e (b:Block):List UInt8:=z54 b++b.txs.flatMap z0m
def z0v (b:Block):List UInt8 × Int:=if zb b≠0 then ([],zb b) else (z1e b,0)
theorem zck {α:Type} (f:α→List UInt8) (m:Nat):∀ l:List α,(∀ x ∈ l,(f x).length≤m)→(l.flatMap f).length≤m * l.length
 | [],_=>by simp
 | x::r,h=>by
  have h1:=h x (by simp);have h2:=zck f m r fun y hy=>h y (zY0i _ hy)
  simp only [zY1v,zY04,zY0a,Nat.mul_add,Nat.mul_one];omega
theorem z4z {n:Int} (h0 : -1000000000≤n) (h1:n≤1000000000):(itoa n).length≤20:=by
 by_cases hn:n<0
 ·rw [zm2 hn,zY0a]
  have:=z5g 18 n.natAbs (by omega);omega
 ·rw [zm3 hn]
  have:=z5g 18 n.toNat (by omega);omega
theorem zup {x:In} (h:z4m x=0):(z3l x).length≤200:=by
 obtain ⟨h1,h2,h3,h4,h5⟩:=z02x h;have:=z4z (n:=x.p.tx) (by omega) (by omega);have:=z4z (n:=x.p.at_) (by omega) (by omega);have:=zcj x.key;simp [z3l];omega
theorem zpa {x:Out} (h1:1≤x.coin) (h2:x.coin≤1000000000):(z2s x).length≤200:=by
 have:=z4z (n:=x.coin) (by omega) (by omega);have:=zcj x.lock;simp [z2s];omega
theorem zhn {t:Tx} (h:z2d t=0):0≤t.height∧t.height≤1000:=by
 unfold z2d at h
 split at h
 ·cases h
 split at h
 ·cases h
 split at h
 ·cases h
 omega
theorem ziy {t:Tx} (h:zm t=0):(z0m t).length≤2500:=by
 have ok:=z4n h;have h0:=zhn ok.head;have h1:=z4z (n:=t.height) (by omega) (by omega);have h2:=zck z3l 200 t.ins fun x hx=>zup (zm7 ok.insOk x hx)
 have h3:=zck z2s 200 t.outs fun x hx=>zpa (ok.good x hx).1 (ok.good x hx).2.1
 have h4:=ok.ins;have h5:=ok.outs;simp only [z0m,z4y,zY04,zY0a,zY0q];omega
theorem zpb (t:Tx):(z0j t).1.length≤2500:=by
 unfold z0j
 by_cases h:zm t=0
 ·rw [if_neg (fun k=>k h)];exact ziy h
 ·rw [if_pos h];simp
theorem zpc {t:Tx} (h:zm t=0):z0j t=(z0m t,0):=by
 unfold z0j;rw [if_neg (fun k=>k h)]
theorem z0cd {b:Block} (h:zb b=0):z0v b=(z1e b,0):=by
 unfold z0v;rw [if_neg (fun k=>k h)]
theorem z0hb {b:Block} (h:zb b=0):(z1e b).length≤20000:=by
 have ok:=z1p h;have hr:=ok.range;unfold z2q at hr;have h1:=z4z (n:=b.parent) (by omega) (by omega);have h2:=z4z (n:=b.height) (by omega) (by omega);have h3:=z4z (n:=b.work) (by omega) (by omega);have h4:=z4z (n:=b.nonce) (by omega) (by omega);have h5:=zck z0m 2500 b.txs fun x hx=>ziy (ok.each x hx)
 have h6:=ok.len;simp only [z1e,z54,zY04,zY0a,zY0q];omega
theorem z0ce (b:Block):(z0v b).1.length≤20000:=by
 unfold z0v
 by_cases h:zb b=0
 ·rw [if_neg (fun k=>k h)];exact z0hb h
 ·rw [if_pos h];simp
end
section
open Go.Lib (itoa atoiAll)
open Go.RowKit
def z0l7:List (List UInt8)→Option (List Int)
 | []=>some []
 | w::r=>match zrn w with
  | none=>none
  | some n=>(z0l7 r).map fun l=>n::l
def tIn:List UInt8:=[105,110]
def tOut:List UInt8:=[111,117,116]
def tTx:List UInt8:=[116,120,32]
def z0rn (o:List Out) (i:List In) (x:List UInt8) (n:List Int):Option (List Out × List In) :=
 if (zoz (Go.Lib.cut x [58]).2.1).2≠0 then none else if Go.Lib.contains x [58]=false then none else
 if (z7b 32 (Go.Lib.cut x [58]).1).headD []=tIn∧n.length=2∧o.length=0 then some (o,i++[⟨⟨n.getD 0 0,n.getD 1 0⟩,(zoz (Go.Lib.cut x [58]).2.1).1⟩]) else
 if (z7b 32 (Go.Lib.cut x [58]).1).headD []=tOut∧n.length=1 then some (o++[⟨n.getD 0 0,(zoz (Go.Lib.cut x [58]).2.1).1⟩],i) else none
def z0on (o:List Out) (i:List In) (x:List UInt8):Option (List Out × List In):=match z0l7 ((z7b 32 (Go.Lib.cut x [58]).1).drop 1) with
 | none=>none
 | some n=>z0rn o i x n
def zTx:Tx:=⟨0,[],[]⟩
def z0fx (n:Int) (o:List Out) (i:List In):List (List UInt8)→Tx × Int
 | []=>if zm ⟨n,i,o⟩≠0 then (zTx,zm ⟨n,i,o⟩) else (⟨n,i,o⟩,0)
 | x::r=>match z0on o i x with
  | none=>(zTx,1)
  | some p=>z0fx n p.1 p.2 r
def z0l8 (s:List UInt8):Tx × Int:=if 4000<(s.length:Int) then (zTx,2) else
 if Go.Lib.hasSuffix s [10]=false then (zTx,1) else
 if Go.Lib.hasPrefix ((z7b 10 (Go.Lib.trimSuffix s [10])).headD []) tTx=false then (zTx,1) else
 match zrn (Go.Lib.trimPrefix ((z7b 10 (Go.Lib.trimSuffix s [10])).headD []) tTx) with
 | none=>(zTx,1)
 | some n=>z0fx n [] [] ((z7b 10 (Go.Lib.trimSuffix s [10])).drop 1)
end
section
open Go.Lib (itoa atoiAll)
open Go.RowKit
end
section
open Go.RowKit
def z3r (n:Int):Prop:=-1000000≤n∧n≤1000000
def z1f (b:Bool):Int:=if b=true then 1 else 0
def z1b (x:Int):Int:=(x * 7919+104729).tmod 1000003
def za1 (n:Int):Int:=(z1b (z1b (z1b (n+1000000)))).tmod 1000001
def z8u (s:List Int) (n:Int):Option (List Int):=if (s.length:Int)=16∨n < -1000000∨1000000<n then none else some (s++[n])
def z5e (s:List Int):Option (Int × List Int):=match s.getLast? with
 | none=>none
 | some a=>some (a,s.dropLast)
def z1q (s:List Int) (f:Int→Int):Option (List Int):=(z5e s).bind fun p=>z8u p.2 (f p.1)
def z1i (s:List Int) (f:Int→Int→Int):Option (List Int):=(z5e s).bind fun p=>(z5e p.2).bind fun q=>z8u q.2 (f q.1 p.1)
def z30 (h:Int) (s:List Int) (o:Op):Option (List Int) :=
 if o.kind=1 then z8u s o.n
 else if o.kind=2 then (z5e s).bind fun p=>(z8u p.2 p.1).bind fun s=>z8u s p.1
 else if o.kind=3 then (z5e s).bind fun p=>(z5e p.2).bind fun q=>(z8u q.2 p.1).bind fun s=>z8u s q.1
 else if o.kind=4 then (z5e s).bind fun p=>some p.2
 else if o.kind=5 then z1i s fun a b=>a+b
 else if o.kind=6 then z1i s fun a b=>a - b
 else if o.kind=7 then z1i s fun a b=>z1f (decide (a=b))
 else if o.kind=8 then z1i s fun a b=>z1f (decide (a<b))
 else if o.kind=10 then z1i s fun a b=>z1f (decide (a≠0) && decide (b≠0))
 else if o.kind=9 then z1q s fun a=>z1f (decide (a=0))
 else if o.kind=13 then z1q s za1
 else if o.kind=11 then (z5e s).bind fun p=>if p.1=0 then none else some p.2
 else if o.kind=12 then z8u s h
 else some s
def z2y (h:Int):List Int→List Op→Option (List Int)
 | s,[]=>some s
 | s,o::r=>match z30 h s o with
  | none=>none
  | some s'=>z2y h s' r
def z1k (s:List Int):Prop:=s.length≤16∧∀ x ∈ s,z3r x
instance (n:Int):Decidable (z3r n):=by unfold z3r;infer_instance
def z4c (l:List Op) (s:List Int) (h:Int):List Int × Int :=
 if z9 l≠0 then ([],z9 l)
 else if h<0∨1000<h∨16<(s.length:Int) then ([],3)
 else if ∀ x ∈ s,z3r x then (match z2y h s l with|none=>([],8)|some s'=>(s',0)) else ([],3)
theorem zej {s:List Int} (h:s.length=0):z5e s=none:=by
 rw [zY0c h];rfl
theorem zek {s:List Int} (h:s.length≠0):∃ a t,z5e s=some (a,t)∧s=t++[a]∧(s.length:Int)=t.length+1∧s[((s.length:Int) - 1).toNat]? = some a∧s.take ((s.length:Int) - 1).toNat=t:=by
 rcases List.eq_nil_or_concat s with rfl|⟨t,a,rfl⟩
 ·exact absurd rfl h
 ·refine ⟨a,t,by simp [z5e],by simp,by simp,?_,?_⟩
  ·rw [show (((t.concat a).length:Int) - 1).toNat=t.length by simp];simp
  ·rw [show (((t.concat a).length:Int) - 1).toNat=t.length by simp];simp
theorem z2f {s:List Int} {n:Int} (h:(s.length:Int)=16∨n < -1000000∨1000000<n):z8u s n=none:=if_pos h
theorem z0e {s:List Int} {n:Int} (h1:¬ (s.length:Int)=16) (h2:¬ n < -1000000) (h3:¬ 1000000<n):z8u s n=some (s++[n]):=if_neg (by omega)
theorem z7o {s s':List Int} {n:Int} (hs:z1k s) (h:z8u s n=some s'):z1k s':=by
 unfold z8u at h
 split at h
 ·cases h
 ·rename_i hc
  cases h
  obtain ⟨h1,h2⟩:=hs;refine ⟨by simp;omega,fun x hx=>?_⟩;rcases zY12.1 hx with hx|hx
  ·exact h2 x hx
  ·simp only [zY13] at hx;subst hx;exact ⟨by omega,by omega⟩
theorem z5i {s t:List Int} {a:Int} (hs:z1k s) (h:z5e s=some (a,t)):z3r a∧z1k t:=by
 rcases List.eq_nil_or_concat s with rfl|⟨u,b,rfl⟩
 ·cases h
 ·have:z5e (u.concat b)=some (b,u):=by simp [z5e]
  rw [this] at h
  cases h
  obtain ⟨h1,h2⟩:=hs;exact ⟨h2 _ (by simp),by simp at h1;omega,fun x hx=>h2 x (by simp [hx])⟩
theorem z74 {α:Type} {x:Option α} {f:α→Option (List Int)} {s':List Int} (h:x.bind f=some s'):∃ y,x=some y∧f y=some s':=zY01.1 h
theorem zfv {s s':List Int} {f:Int→Int→Int} (hs:z1k s) (h:z1i s f=some s'):z1k s':=by
 obtain ⟨⟨a,t⟩,h1,h⟩:=z74 h;obtain ⟨⟨b,u⟩,h2,h⟩:=z74 h;exact z7o (z5i (z5i hs h1).2 h2).2 h
theorem z0fy {s s':List Int} {f:Int→Int} (hs:z1k s) (h:z1q s f=some s'):z1k s':=by
 obtain ⟨⟨a,t⟩,h1,h⟩:=z74 h;exact z7o (z5i hs h1).2 h
theorem zgx {h:Int} {s s':List Int} {o:Op} (hs:z1k s) (he:z30 h s o=some s'):z1k s':=by
 unfold z30 at he
 by_cases k1:o.kind=1
 ·rw [if_pos k1] at he
  exact z7o hs he
 rw [if_neg k1] at he
 by_cases k2:o.kind=2
 ·rw [if_pos k2] at he
  obtain ⟨⟨a,t⟩,h1,he⟩:=z74 he;obtain ⟨u,h2,he⟩:=z74 he;exact z7o (z7o (z5i hs h1).2 h2) he
 rw [if_neg k2] at he
 by_cases k3:o.kind=3
 ·rw [if_pos k3] at he
  obtain ⟨⟨a,t⟩,h1,he⟩:=z74 he;obtain ⟨⟨b,u⟩,h2,he⟩:=z74 he;obtain ⟨v,h3,he⟩:=z74 he;exact z7o (z7o (z5i (z5i hs h1).2 h2).2 h3) he
 rw [if_neg k3] at he
 by_cases k4:o.kind=4
 ·rw [if_pos k4] at he
  obtain ⟨⟨a,t⟩,h1,he⟩:=z74 he
  cases he
  exact (z5i hs h1).2
 rw [if_neg k4] at he
 by_cases k5:o.kind=5
 ·rw [if_pos k5] at he
  exact zfv hs he
 rw [if_neg k5] at he
 by_cases k6:o.kind=6
 ·rw [if_pos k6] at he
  exact zfv hs he
 rw [if_neg k6] at he
 by_cases k7:o.kind=7
 ·rw [if_pos k7] at he
  exact zfv hs he
 rw [if_neg k7] at he
 by_cases k8:o.kind=8
 ·rw [if_pos k8] at he
  exact zfv hs he
 rw [if_neg k8] at he
 by_cases k10:o.kind=10
 ·rw [if_pos k10] at he
  exact zfv hs he
 rw [if_neg k10] at he
 by_cases k9:o.kind=9
 ·rw [if_pos k9] at he
  exact z0fy hs he
 rw [if_neg k9] at he
 by_cases k13:o.kind=13
 ·rw [if_pos k13] at he
  exact z0fy hs he
 rw [if_neg k13] at he
 by_cases k11:o.kind=11
 ·rw [if_pos k11] at he
  obtain ⟨⟨a,t⟩,h1,he⟩:=z74 he
  by_cases ha:a=0
  ·have he:(if a=0 then none else some t)=some s':=he
   rw [if_pos ha] at he;cases he
  ·have he:(if a=0 then none else some t)=some s':=he
   rw [if_neg ha] at he;cases he;exact (z5i hs h1).2
 rw [if_neg k11] at he
 by_cases k12:o.kind=12
 ·rw [if_pos k12] at he
  exact z7o hs he
 rw [if_neg k12] at he
 cases he;exact hs
def zfw (r:List Int × Int):Bool × Int:=if r.2=3 then (false,r.2) else if r.2=0 then (if (r.1.length:Int)=1 then (decide (r.1.headD 0≠0),0) else (false,0)) else (false,0)
def z22 (l k:List Op) (h:Int):Bool × Int :=
 if z9 l≠0 then (false,z9 l) else if z9 k≠0 then (false,z9 k) else
  if (z4c k [] h).2=0 then zfw (z4c l (z4c k [] h).1 h) else zfw (z4c k [] h)
end
section
open Go.RowKit
set_option maxRecDepth 100000
set_option maxHeartbeats 4000000
attribute [local irreducible] z01 spD z1h
noncomputable def z3w:za:=spD (fun _:Bool=>True) fun b=>z1f b
noncomputable def za2:za:=spD z3r za1
noncomputable def zfx:za:=spD (fun x:Int × Int=>z3r x.1∧z3r x.2) fun x=>x.1+x.2
noncomputable def zfy:za:=spD (fun x:Int × Int=>z3r x.1∧z3r x.2) fun x=>x.1 - x.2
noncomputable def zdj:za:=spD (fun _:Int × Int=>True) fun x=>z1f (decide (x.1=x.2))
noncomputable def zdk:za:=spD (fun _:Int × Int=>True) fun x=>z1f (decide (x.1<x.2))
noncomputable def zfz:za:=spD (fun _:Int × Int=>True) fun x=>z1f (decide (x.1≠0) && decide (x.2≠0))
noncomputable def zg0:za:=spD (fun _:Int=>True) fun x=>z1f (decide (x=0))
theorem z6w (b:Bool):z3w [.b b]=some [I (z1f b)]:=ze (f:=fun b=>z1f b) b trivial
theorem zho (n:Int) (h:z3r n):za2 [I n]=some [I (za1 n)]:=ze (f:=za1) n h
theorem z0hc (a b:Int) (h:z3r a∧z3r b):zfx [I a,I b]=some [I (a+b)]:=ze (p:=fun x:Int × Int=>z3r x.1∧z3r x.2) (f:=fun x:Int × Int=>x.1+x.2) (a,b) h
theorem z0hd (a b:Int) (h:z3r a∧z3r b):zfy [I a,I b]=some [I (a - b)]:=ze (p:=fun x:Int × Int=>z3r x.1∧z3r x.2) (f:=fun x:Int × Int=>x.1 - x.2) (a,b) h
theorem z0cf (a b:Int):zdj [I a,I b]=some [I (z1f (decide (a=b)))]:=ze (f:=fun x:Int × Int=>z1f (decide (x.1=x.2))) (a,b) trivial
theorem z0cg (a b:Int):zdk [I a,I b]=some [I (z1f (decide (a<b)))]:=ze (f:=fun x:Int × Int=>z1f (decide (x.1<x.2))) (a,b) trivial
theorem z0he (a b:Int):zfz [I a,I b]=some [I (z1f (decide (a≠0) && decide (b≠0)))]:=ze (f:=fun x:Int × Int=>z1f (decide (x.1≠0) && decide (x.2≠0))) (a,b) trivial
theorem zpd (a:Int):zg0 [I a]=some [I (z1f (decide (a=0)))]:=ze (f:=fun x:Int=>z1f (decide (x=0))) a trivial
def z02y:T :=
 .W [.B .add 0 1] [] (.ret [2])
def z02z:T :=
 .W [.B .sub 0 1] [] (.ret [2])
def zrx:T :=
 .W [.B .eql 0 1] [] (.W [.call 36 [2] 0] [] (.ret [3]))
def zry:T :=
 .W [.B .lss 0 1] [] (.W [.call 36 [2] 0] [] (.ret [3]))
def z030:T :=
 .W [.B .neq 0 (zI 0)] [] (.ite 2 (.W [.B .neq 1 (zI 0)] [] (.W [.call 36 [3] 0] [] (.ret [4]))) (.W [.call 36 [.c (.b
 false)] 0] [] (.ret [3])))
def z031:T :=
 .W [.B .eql 0 (zI 0)] [] (.W [.call 36 [1] 0] [] (.ret [2]))
def ziz:T :=
 .ite 0 (.ret [zI 1]) (.ret [zI 0])
def z0ch:T :=
 .W [.B .add 5 (zI 104729)] [] (.W [.B .rem 6 (zI 1000003)] [] (.W [.B .add 3 (zI 1)] [] (.again 0 [7,8])))
def z0ci:T :=
 .W [.B .lss 3 (zI 3)] [] (.ite 4 (.W [.B .mul 2 (zI 7919)] [] z0ch) (.W [.B .rem 2 (zI 1000001)] [] (.ret [.v
 5])))
def zbq:T :=
 .W [.B .add 0 (zI 1000000)] [] (.loop [1,zI 0] z0ci)
theorem zel:Meets Tryz.prog z3w 213 ⟨[.one],[(false,[.scal])],true⟩:=by
 refine zf (sp:=(zy [])) (sigs:=z05) (cut:=[]) (hints:=[]) (fn:=Tryz.f213) (t:=ziz) (by kernel_rfl) (by kernel_rfl) (by kernel_rfl) ?_ ?_
 ·exact (zr (L:=[]) trivial)
 ·rintro ds rs - h
  obtain ⟨b,-,rfl,rfl⟩:=zg h;clear h;refine ⟨⟨1,?_⟩,z04 rfl⟩
  show den _ _ ziz [.b b] []=ret (z1f b)
  unfold ziz z1f
  repeat' (first|exact z5 rfl rfl|refine tB (fun h=>?_) fun h=>?_|fail)
theorem z0ud:Meets Tryz.prog zfx 210 ⟨[.one,.one],[(false,[.scal])],true⟩:=by
 refine zf (sp:=(zy [])) (sigs:=z05) (cut:=[]) (hints:=[]) (fn:=Tryz.f210) (t:=z02y) (by kernel_rfl) (by kernel_rfl) (by kernel_rfl) ?_ ?_
 ·exact (zr (L:=[]) trivial)
 ·rintro ds rs - h
  obtain ⟨⟨a,b⟩,⟨⟨h1,h2⟩,h3,h4⟩,rfl,rfl⟩:=zg h;clear h;simp only at h1 h2 h3 h4;refine ⟨⟨1,?_⟩,z04 rfl⟩
  show den _ _ z02y [I a,I b] []=ret (a+b)
  unfold z02y
  repeat' (first|refine dq1 ?_|exact z5 rfl rfl|fail)
theorem z0ue:Meets Tryz.prog zfy 211 ⟨[.one,.one],[(false,[.scal])],true⟩:=by
 refine zf (sp:=(zy [])) (sigs:=z05) (cut:=[]) (hints:=[]) (fn:=Tryz.f211) (t:=z02z) (by kernel_rfl) (by kernel_rfl) (by kernel_rfl) ?_ ?_
 ·exact (zr (L:=[]) trivial)
 ·rintro ds rs - h
  obtain ⟨⟨a,b⟩,⟨⟨h1,h2⟩,h3,h4⟩,rfl,rfl⟩:=zg h;clear h;simp only at h1 h2 h3 h4;refine ⟨⟨1,?_⟩,z04 rfl⟩
  show den _ _ z02z [I a,I b] []=ret (a - b)
  unfold z02z
  repeat' (first|refine dq1 ?_|exact z5 rfl rfl|fail)
theorem z0ro:Meets Tryz.prog zdj 212 ⟨[.one,.one],[(false,[.scal])],true⟩:=by
 refine zf (sp:=(zy [(36,z3w)])) (sigs:=z05) (cut:=[]) (hints:=[]) (fn:=Tryz.f212) (t:=zrx) (by kernel_rfl) (by kernel_rfl) (by kernel_rfl) ?_ ?_
 ·exact (zr (L:=[(36,z3w)]) ⟨z7 rfl zel,trivial⟩)
 ·rintro ds rs - h
  obtain ⟨⟨a,b⟩,-,rfl,rfl⟩:=zg h;clear h;refine ⟨⟨1,?_⟩,z04 rfl⟩
  show den _ _ zrx [I a,I b] []=ret (z1f (decide (a=b)))
  unfold zrx
  repeat' (first|refine dq1 ?_|refine dqk rfl (z6w _) ?_|exact z5 rfl rfl|fail)
theorem z0rp:Meets Tryz.prog zdk 214 ⟨[.one,.one],[(false,[.scal])],true⟩:=by
 refine zf (sp:=(zy [(36,z3w)])) (sigs:=z05) (cut:=[]) (hints:=[]) (fn:=Tryz.f214) (t:=zry) (by kernel_rfl) (by kernel_rfl) (by kernel_rfl) ?_ ?_
 ·exact (zr (L:=[(36,z3w)]) ⟨z7 rfl zel,trivial⟩)
 ·rintro ds rs - h
  obtain ⟨⟨a,b⟩,-,rfl,rfl⟩:=zg h;clear h;refine ⟨⟨1,?_⟩,z04 rfl⟩
  show den _ _ zry [I a,I b] []=ret (z1f (decide (a<b)))
  unfold zry
  repeat' (first|refine dq1 ?_|refine dqk rfl (z6w _) ?_|exact z5 rfl rfl|fail)
theorem z0uf:Meets Tryz.prog zg0 216 ⟨[.one],[(false,[.scal])],true⟩:=by
 refine zf (sp:=(zy [(36,z3w)])) (sigs:=z05) (cut:=[]) (hints:=[]) (fn:=Tryz.f216) (t:=z031) (by kernel_rfl) (by kernel_rfl) (by kernel_rfl) ?_ ?_
 ·exact (zr (L:=[(36,z3w)]) ⟨z7 rfl zel,trivial⟩)
 ·rintro ds rs - h
  obtain ⟨a,-,rfl,rfl⟩:=zg h;clear h;refine ⟨⟨1,?_⟩,z04 rfl⟩
  show den _ _ z031 [I a] []=ret (z1f (decide (a=0)))
  unfold z031
  repeat' (first|refine dq1 ?_|refine dqk rfl (z6w _) ?_|exact z5 rfl rfl|fail)
theorem z0ug:Meets Tryz.prog zfz 215 ⟨[.one,.one],[(false,[.scal])],true⟩:=by
 refine zf (sp:=(zy [(36,z3w)])) (sigs:=z05) (cut:=[]) (hints:=[]) (fn:=Tryz.f215) (t:=z030) (by kernel_rfl) (by kernel_rfl) (by kernel_rfl) ?_ ?_
 ·exact (zr (L:=[(36,z3w)]) ⟨z7 rfl zel,trivial⟩)
 ·rintro ds rs - h
  obtain ⟨⟨a,b⟩,-,rfl,rfl⟩:=zg h;clear h;refine ⟨⟨1,?_⟩,z04 rfl⟩
  show den _ _ z030 [I a,I b] []=ret (z1f (decide (a≠0) && decide (b≠0)))
  unfold z030
  repeat' (first|refine dq1 ?_|fail)
  refine z3d rfl (fun h=>?_) (fun h=>?_)
  ·rw [decide_eq_true h,zY36]
   repeat' (first|refine dq1 ?_|refine dqk rfl (z6w _) ?_|exact z5 rfl rfl|fail)
  ·rw [decide_eq_false h,zY3k]
   repeat' (first|refine dqk rfl (z6w _) ?_|exact z5 rfl rfl|fail)
theorem zgy {x:Int} (h0:0≤x):0≤z1b x∧z1b x<1000003:=by
 unfold z1b;exact ⟨zY3q _ (by omega),Int.tmod_lt_of_pos _ (by omega)⟩
theorem z0l9:Meets Tryz.prog za2 217 ⟨[.one],[(false,[.scal])],true⟩:=by
 refine zf (sp:=(zy [])) (sigs:=z05) (cut:=[]) (hints:=[⟨3,[.t 0,.t 5]⟩]) (fn:=Tryz.f217) (t:=zbq) (by kernel_rfl) (by kernel_rfl) (by kernel_rfl) ?_ ?_
 ·exact (zr (L:=[]) trivial)
 ·rintro ds rs - h
  obtain ⟨n,⟨h1,h2⟩,rfl,rfl⟩:=zg h;clear h;refine ⟨⟨5,?_⟩,z04 rfl⟩
  show den _ _ zbq [I n] []=ret (za1 n)
  have b1:=zgy (x:=n+1000000) (by omega);have b2:=zgy b1.1;have b3:=zgy b2.1;unfold zbq
  repeat' (first|refine dq1 ?_|fail)
  refine zin (fun (s:Nat × Int)=>[I s.2,I s.1]) (fun s=>(s=(0,n+1000000)∨s=(1,z1b (n+1000000))∨s=(2,z1b (z1b (n+1000000)))∨s=(3,z1b (z1b (z1b (n+1000000)))))) (fun s=>3 - s.1) (0,n+1000000) rfl (.inl rfl) (by omega) ?_;have go:∀ (again:List Dt→Option (List Dt)) (i:Int) (x:Int) (nx:Int),0≤x→x≤3000000→nx=z1b x→i<3→0≤i→again [I nx,I (i+1)]=ret (za1 n)→den (fun ci=>([]:List za).getD ci fun _=>none) 5 (match zbq with | .W _ _ (.loop _ b)=>b|_=>.ret []) [I n,I (n+1000000),I x,I i] [again]=ret (za1 n):=by
   intro again i x nx hx0 hx1 hnx hi hi0 hag;subst hnx;unfold z1b at hag
   show den _ _ _ _ _=_
   simp only [zbq]
   repeat' (first|refine dq1 ?_|refine dqT ?_|refine z4 (zfn rfl rfl (by omega)) ?_|refine z4 (zrj rfl rfl (by decide)) ?_|exact z6 rfl rfl hag|fail)
  rintro s hs again hag;rcases hs with rfl|rfl|rfl|rfl
  ·exact go again 0 _ _ (by omega) (by omega) rfl (by omega) (by omega) (hag (1,z1b (n+1000000)) (.inr (.inl rfl)) (by simp))
  ·exact go again 1 _ _ (by omega) (by omega) rfl (by omega) (by omega) (hag (2,z1b (z1b (n+1000000))) (.inr (.inr (.inl rfl))) (by simp))
  ·exact go again 2 _ _ (by omega) (by omega) rfl (by omega) (by omega) (hag (3,z1b (z1b (z1b (n+1000000)))) (.inr (.inr (.inr rfl))) (by simp))
  ·unfold za1
   repeat' (first|refine dq1 ?_|refine dqF ?_|refine z4 (zrj rfl rfl (by decide)) ?_|exact z5 rfl rfl|fail)
end
section
open Go.RowKit
set_option maxRecDepth 100000
set_option maxHeartbeats 8000000
attribute [local irreducible] z01 spD z1h za1 z1f
attribute [local irreducible] den denX z0g z0o
noncomputable def za3:za:=spD (fun x:List Op × List Int × Int=>True) fun x=>z4c x.1 x.2.1 x.2.2
theorem zrz (l:List Op) (s:List Int) (h:Int):za3 [.l 2 (l.map eOp),.l 1 (s.map zk),I h]=some [.l 1 ((z4c l s h).1.map zk),I (z4c l s h).2]:=ze (f:=fun x:List Op × List Int × Int=>z4c x.1 x.2.1 x.2.2) (l,s,h) trivial
theorem zhp (l:List Op) (s:List Int) (h:Int) (hs:s.length≤1000000):za3 [.l 2 (l.map eOp),.l 1 (s.map zk),I h]=some [.l 1 ((z4c l s h).1.map zk),I (z4c l s h).2]:=zrz l s h
def z0cj:T :=
 .W [.B .gtr 16 (zI 1000000)] [] (.ite 18 (.ret [.c (.nil 1),zI 3]) (.W [.B .add 14 (zI 1)] [] (.again 0 [12,13,.v
 19])))
def z0ck:T :=
 .W [] [.inr 1 1 14] (.W [.idx 1 14 0] [] (.W [.B .lss 16 (.c (.i .i64 (-1000000)))] [] (.ite 17 (.ret [.c (.nil 1),zI 3])
 z0cj)))
def z0cl:T :=
 .ite 28 (.ret [.c (.nil 1),zI 8]) (.W [.mk 1 [[23]]] [] (.W [.app 1 17 29] [] (.W [.B .add 20 (zI 1)] [] (.again 1 [30,.v
 18,19,31]))))
def z0cm:T :=
 .W [.B .lss 23 (.c (.i .i64 (-1000000)))] [] (.ite 27 (.ret [.c (.nil 1),zI 8]) (.W [.B .gtr 23 (zI 1000000)] [] z0cl))
def z0cn:T :=
 .W [.B .gtr 30 (zI 1000000)] [] (.ite 39 (.ret [.c (.nil 1),zI 8]) (.W [.mk 1 [[30]]] [] (.W [.app 1 33 40] [] (.ret [.c (.nil
 1),zI 8]))))
def z0co:T :=
 .ite 37 (.ret [.c (.nil 1),zI 8]) (.W [.B .lss 30 (.c (.i .i64 (-1000000)))] [] (.ite 38 (.ret [.c (.nil 1),zI 8]) z0cn))
def z0cp:T :=
 .W [.B .gtr 30 (zI 1000000)] [] (.ite 40 (.ret [.c (.nil 1),zI 8]) (.W [.mk 1 [[30]]] [] (.W [.app 1 33 41] [] (.ret [.c (.nil
 1),zI 8]))))
def z0cq:T :=
 .ite 38 (.ret [.c (.nil 1),zI 8]) (.W [.B .lss 30 (.c (.i .i64 (-1000000)))] [] (.ite 39 (.ret [.c (.nil 1),zI 8]) z0cp))
def z0cr:T :=
 .W [.B .gtr 30 (zI 1000000)] [] (.ite 41 (.ret [.c (.nil 1),zI 8]) (.W [.mk 1 [[30]]] [] (.W [.app 1 33 42] [] (.ret [.c (.nil
 1),zI 8]))))
def z0cs:T :=
 .ite 39 (.ret [.c (.nil 1),zI 8]) (.W [.B .lss 30 (.c (.i .i64 (-1000000)))] [] (.ite 40 (.ret [.c (.nil 1),zI 8]) z0cr))
def z032:T :=
 .ite 43 (.ret [.c (.nil 1),zI 8]) (.W [.mk 1 [[30]]] [] (.W [.app 1 39 44] [] (.W [.B .add 20 (zI 1)] [] (.again 1 [45,.v
 18,19,46]))))
def z033:T :=
 .W [.B .lss 30 (.c (.i .i64 (-1000000)))] [] (.ite 42 (.ret [.c (.nil 1),zI 8]) (.W [.B .gtr 30 (zI 1000000)] [] z032))
def z034:T :=
 .W [.app 1 33 38] [] (.W [.len 39] [] (.W [.B .eql 40 (zI 16)] [] (.ite 41 (.ret [.c (.nil 1),zI 8]) z033)))
def z035:T :=
 .W [.B .gtr 30 (zI 1000000)] [] (.ite 37 (.W [.len 33] [] (.W [.B .eql 38 (zI 16)] [] z0cs)) (.W [.mk 1 [[30]]] []
 z034))
def z036:T :=
 .W [.B .lss 30 (.c (.i .i64 (-1000000)))] [] (.ite 36 (.W [.len 33] [] (.W [.B .eql 37 (zI 16)] [] z0cq)) z035)
def z037:T :=
 .W [.B .eql 34 (zI 16)] [] (.ite 35 (.W [.len 33] [] (.W [.B .eql 36 (zI 16)] [] z0co)) z036)
def z038:T :=
 .W [.idx 17 29 0] [] (.W [.len 17] [] (.W [.B .sub 31 (zI 1)] [] (.W [.sub 1 17 none (some 32)] [] (.W [.len 33] []
 z037))))
def z039:T :=
 .ite 27 (.ret [.c (.nil 1),zI 8]) (.W [.len 17] [] (.W [.B .sub 28 (zI 1)] [] (.W [] [.inr 1 17 29] z038)))
def z03a:T :=
 .W [.idx 17 32 0] [] (.W [.len 17] [] (.W [.B .sub 34 (zI 1)] [] (.W [.sub 1 17 none (some 35)] [] (.ret [.c (.nil 1),.c (.i
 .i64 8)]))))
def z03b:T :=
 .ite 30 (.ret [.c (.nil 1),zI 8]) (.W [.len 17] [] (.W [.B .sub 31 (zI 1)] [] (.W [] [.inr 1 17 32] z03a)))
def z03c:T :=
 .W [.B .gtr 39 (zI 1000000)] [] (.ite 48 (.ret [.c (.nil 1),zI 8]) (.W [.mk 1 [[39]]] [] (.W [.app 1 42 49] [] (.ret [.c (.nil
 1),zI 8]))))
def z03d:T :=
 .ite 46 (.ret [.c (.nil 1),zI 8]) (.W [.B .lss 39 (.c (.i .i64 (-1000000)))] [] (.ite 47 (.ret [.c (.nil 1),zI 8]) z03c))
def z03e:T :=
 .W [.B .gtr 39 (zI 1000000)] [] (.ite 49 (.ret [.c (.nil 1),zI 8]) (.W [.mk 1 [[39]]] [] (.W [.app 1 42 50] [] (.ret [.c (.nil
 1),zI 8]))))
def z03f:T :=
 .ite 47 (.ret [.c (.nil 1),zI 8]) (.W [.B .lss 39 (.c (.i .i64 (-1000000)))] [] (.ite 48 (.ret [.c (.nil 1),zI 8]) z03e))
def z03g:T :=
 .W [.B .gtr 39 (zI 1000000)] [] (.ite 50 (.ret [.c (.nil 1),zI 8]) (.W [.mk 1 [[39]]] [] (.W [.app 1 42 51] [] (.ret [.c (.nil
 1),zI 8]))))
def z03h:T :=
 .ite 48 (.ret [.c (.nil 1),zI 8]) (.W [.B .lss 39 (.c (.i .i64 (-1000000)))] [] (.ite 49 (.ret [.c (.nil 1),zI 8]) z03g))
def z03i:T :=
 .ite 52 (.ret [.c (.nil 1),zI 8]) (.W [.mk 1 [[39]]] [] (.W [.app 1 48 53] [] (.W [.B .add 20 (zI 1)] [] (.again 1 [54,.v
 18,19,55]))))
def z03j:T :=
 .W [.B .lss 39 (.c (.i .i64 (-1000000)))] [] (.ite 51 (.ret [.c (.nil 1),zI 8]) (.W [.B .gtr 39 (zI 1000000)] [] z03i))
def z03k:T :=
 .W [.app 1 42 47] [] (.W [.len 48] [] (.W [.B .eql 49 (zI 16)] [] (.ite 50 (.ret [.c (.nil 1),zI 8]) z03j)))
def z03l:T :=
 .W [.B .gtr 31 (zI 1000000)] [] (.ite 46 (.W [.len 42] [] (.W [.B .eql 47 (zI 16)] [] z03h)) (.W [.mk 1 [[31]]] []
 z03k))
def z03m:T :=
 .W [.B .lss 31 (.c (.i .i64 (-1000000)))] [] (.ite 45 (.W [.len 42] [] (.W [.B .eql 46 (zI 16)] [] z03f)) z03l)
def z03n:T :=
 .W [.B .eql 43 (zI 16)] [] (.ite 44 (.W [.len 42] [] (.W [.B .eql 45 (zI 16)] [] z03d)) z03m)
def z03o:T :=
 .W [.idx 34 38 0] [] (.W [.len 34] [] (.W [.B .sub 40 (zI 1)] [] (.W [.sub 1 34 none (some 41)] [] (.W [.len 42] []
 z03n))))
def z03p:T :=
 .ite 36 (.ret [.c (.nil 1),zI 8]) (.W [.len 34] [] (.W [.B .sub 37 (zI 1)] [] (.W [] [.inr 1 34 38] z03o)))
def z03q:T :=
 .W [.B .sub 32 (zI 1)] [] (.W [.sub 1 17 none (some 33)] [] (.W [.len 34] [] (.W [.B .eql 35 (zI 0)] [] z03p)))
def z03r:T :=
 .W [.len 17] [] (.W [.B .sub 29 (zI 1)] [] (.W [] [.inr 1 17 30] (.W [.idx 17 30 0] [] (.W [.len 17] []
 z03q))))
def z03s:T :=
 .W [.len 17] [] (.W [.B .eql 27 (zI 0)] [] (.ite 28 (.W [.len 17] [] (.W [.B .eql 29 (zI 0)] [] z03b))
 z03r))
def z03t:T :=
 .W [.B .sub 33 (zI 1)] [] (.W [.sub 1 17 none (some 34)] [] (.W [.B .add 20 (zI 1)] [] (.again 1 [35,18,19,36])))
def z03u:T :=
 .W [.len 17] [] (.W [.B .sub 30 (zI 1)] [] (.W [] [.inr 1 17 31] (.W [.idx 17 31 0] [] (.W [.len 17] []
 z03t))))
def z03v:T :=
 .W [.idx 17 34 0] [] (.W [.len 17] [] (.W [.B .sub 36 (zI 1)] [] (.W [.sub 1 17 none (some 37)] [] (.ret [.c (.nil 1),.c (.i
 .i64 8)]))))
def z03w:T :=
 .ite 32 (.ret [.c (.nil 1),zI 8]) (.W [.len 17] [] (.W [.B .sub 33 (zI 1)] [] (.W [] [.inr 1 17 34] z03v)))
def z03x:T :=
 .ite 49 (.ret [.c (.nil 1),zI 8]) (.W [.mk 1 [[45]]] [] (.W [.app 1 44 50] [] (.W [.B .add 20 (zI 1)] [] (.again 1 [51,.v
 18,19,52]))))
def z03y:T :=
 .W [.B .lss 45 (.c (.i .i64 (-1000000)))] [] (.ite 48 (.ret [.c (.nil 1),zI 8]) (.W [.B .gtr 45 (zI 1000000)] [] z03x))
def z03z:T :=
 .W [.call 30 [41,33] 0] [] (.W [.len 44] [] (.W [.B .eql 46 (zI 16)] [] (.ite 47 (.ret [.c (.nil 1),zI 8]) z03y)))
def z040:T :=
 .W [.idx 36 40 0] [] (.W [.len 36] [] (.W [.B .sub 42 (zI 1)] [] (.W [.sub 1 36 none (some 43)] [] z03z)))
def z041:T :=
 .ite 38 (.ret [.c (.nil 1),zI 8]) (.W [.len 36] [] (.W [.B .sub 39 (zI 1)] [] (.W [] [.inr 1 36 40] z040)))
def z042:T :=
 .W [.B .sub 34 (zI 1)] [] (.W [.sub 1 17 none (some 35)] [] (.W [.len 36] [] (.W [.B .eql 37 (zI 0)] [] z041)))
def z043:T :=
 .W [.len 17] [] (.W [.B .sub 31 (zI 1)] [] (.W [] [.inr 1 17 32] (.W [.idx 17 32 0] [] (.W [.len 17] []
 z042))))
def z044:T :=
 .W [.len 17] [] (.W [.B .eql 29 (zI 0)] [] (.ite 30 (.W [.len 17] [] (.W [.B .eql 31 (zI 0)] [] z03w))
 z043))
def z045:T :=
 .W [.idx 17 35 0] [] (.W [.len 17] [] (.W [.B .sub 37 (zI 1)] [] (.W [.sub 1 17 none (some 38)] [] (.ret [.c (.nil 1),.c (.i
 .i64 8)]))))
def z046:T :=
 .ite 33 (.ret [.c (.nil 1),zI 8]) (.W [.len 17] [] (.W [.B .sub 34 (zI 1)] [] (.W [] [.inr 1 17 35] z045)))
def z047:T :=
 .ite 50 (.ret [.c (.nil 1),zI 8]) (.W [.mk 1 [[46]]] [] (.W [.app 1 45 51] [] (.W [.B .add 20 (zI 1)] [] (.again 1 [52,.v
 18,19,53]))))
def z048:T :=
 .W [.B .lss 46 (.c (.i .i64 (-1000000)))] [] (.ite 49 (.ret [.c (.nil 1),zI 8]) (.W [.B .gtr 46 (zI 1000000)] [] z047))
def z049:T :=
 .W [.call 31 [42,34] 0] [] (.W [.len 45] [] (.W [.B .eql 47 (zI 16)] [] (.ite 48 (.ret [.c (.nil 1),zI 8]) z048)))
def z04a:T :=
 .W [.idx 37 41 0] [] (.W [.len 37] [] (.W [.B .sub 43 (zI 1)] [] (.W [.sub 1 37 none (some 44)] [] z049)))
def z04b:T :=
 .ite 39 (.ret [.c (.nil 1),zI 8]) (.W [.len 37] [] (.W [.B .sub 40 (zI 1)] [] (.W [] [.inr 1 37 41] z04a)))
def z04c:T :=
 .W [.B .sub 35 (zI 1)] [] (.W [.sub 1 17 none (some 36)] [] (.W [.len 37] [] (.W [.B .eql 38 (zI 0)] [] z04b)))
def z04d:T :=
 .W [.len 17] [] (.W [.B .sub 32 (zI 1)] [] (.W [] [.inr 1 17 33] (.W [.idx 17 33 0] [] (.W [.len 17] []
 z04c))))
def z04e:T :=
 .W [.len 17] [] (.W [.B .eql 30 (zI 0)] [] (.ite 31 (.W [.len 17] [] (.W [.B .eql 32 (zI 0)] [] z046))
 z04d))
def z04f:T :=
 .W [.idx 17 36 0] [] (.W [.len 17] [] (.W [.B .sub 38 (zI 1)] [] (.W [.sub 1 17 none (some 39)] [] (.ret [.c (.nil 1),.c (.i
 .i64 8)]))))
def z04g:T :=
 .ite 34 (.ret [.c (.nil 1),zI 8]) (.W [.len 17] [] (.W [.B .sub 35 (zI 1)] [] (.W [] [.inr 1 17 36] z04f)))
def z04h:T :=
 .ite 51 (.ret [.c (.nil 1),zI 8]) (.W [.mk 1 [[47]]] [] (.W [.app 1 46 52] [] (.W [.B .add 20 (zI 1)] [] (.again 1 [53,.v
 18,19,54]))))
def z04i:T :=
 .W [.B .lss 47 (.c (.i .i64 (-1000000)))] [] (.ite 50 (.ret [.c (.nil 1),zI 8]) (.W [.B .gtr 47 (zI 1000000)] [] z04h))
def z04j:T :=
 .W [.call 32 [43,35] 0] [] (.W [.len 46] [] (.W [.B .eql 48 (zI 16)] [] (.ite 49 (.ret [.c (.nil 1),zI 8]) z04i)))
def z04k:T :=
 .W [.idx 38 42 0] [] (.W [.len 38] [] (.W [.B .sub 44 (zI 1)] [] (.W [.sub 1 38 none (some 45)] [] z04j)))
def z04l:T :=
 .ite 40 (.ret [.c (.nil 1),zI 8]) (.W [.len 38] [] (.W [.B .sub 41 (zI 1)] [] (.W [] [.inr 1 38 42] z04k)))
def z04m:T :=
 .W [.B .sub 36 (zI 1)] [] (.W [.sub 1 17 none (some 37)] [] (.W [.len 38] [] (.W [.B .eql 39 (zI 0)] [] z04l)))
def z04n:T :=
 .W [.len 17] [] (.W [.B .sub 33 (zI 1)] [] (.W [] [.inr 1 17 34] (.W [.idx 17 34 0] [] (.W [.len 17] []
 z04m))))
def z04o:T :=
 .W [.len 17] [] (.W [.B .eql 31 (zI 0)] [] (.ite 32 (.W [.len 17] [] (.W [.B .eql 33 (zI 0)] [] z04g))
 z04n))
def z04p:T :=
 .W [.idx 17 37 0] [] (.W [.len 17] [] (.W [.B .sub 39 (zI 1)] [] (.W [.sub 1 17 none (some 40)] [] (.ret [.c (.nil 1),.c (.i
 .i64 8)]))))
def z04q:T :=
 .ite 35 (.ret [.c (.nil 1),zI 8]) (.W [.len 17] [] (.W [.B .sub 36 (zI 1)] [] (.W [] [.inr 1 17 37] z04p)))
def z04r:T :=
 .ite 52 (.ret [.c (.nil 1),zI 8]) (.W [.mk 1 [[48]]] [] (.W [.app 1 47 53] [] (.W [.B .add 20 (zI 1)] [] (.again 1 [54,.v
 18,19,55]))))
def z04s:T :=
 .W [.B .lss 48 (.c (.i .i64 (-1000000)))] [] (.ite 51 (.ret [.c (.nil 1),zI 8]) (.W [.B .gtr 48 (zI 1000000)] [] z04r))
def z04t:T :=
 .W [.call 33 [44,36] 0] [] (.W [.len 47] [] (.W [.B .eql 49 (zI 16)] [] (.ite 50 (.ret [.c (.nil 1),zI 8]) z04s)))
def z04u:T :=
 .W [.idx 39 43 0] [] (.W [.len 39] [] (.W [.B .sub 45 (zI 1)] [] (.W [.sub 1 39 none (some 46)] [] z04t)))
def z04v:T :=
 .ite 41 (.ret [.c (.nil 1),zI 8]) (.W [.len 39] [] (.W [.B .sub 42 (zI 1)] [] (.W [] [.inr 1 39 43] z04u)))
def z04w:T :=
 .W [.B .sub 37 (zI 1)] [] (.W [.sub 1 17 none (some 38)] [] (.W [.len 39] [] (.W [.B .eql 40 (zI 0)] [] z04v)))
def z04x:T :=
 .W [.len 17] [] (.W [.B .sub 34 (zI 1)] [] (.W [] [.inr 1 17 35] (.W [.idx 17 35 0] [] (.W [.len 17] []
 z04w))))
def z04y:T :=
 .W [.len 17] [] (.W [.B .eql 32 (zI 0)] [] (.ite 33 (.W [.len 17] [] (.W [.B .eql 34 (zI 0)] [] z04q))
 z04x))
def z04z:T :=
 .W [.idx 17 38 0] [] (.W [.len 17] [] (.W [.B .sub 40 (zI 1)] [] (.W [.sub 1 17 none (some 41)] [] (.ret [.c (.nil 1),.c (.i
 .i64 8)]))))
def z050:T :=
 .ite 36 (.ret [.c (.nil 1),zI 8]) (.W [.len 17] [] (.W [.B .sub 37 (zI 1)] [] (.W [] [.inr 1 17 38] z04z)))
def z051:T :=
 .ite 53 (.ret [.c (.nil 1),zI 8]) (.W [.mk 1 [[49]]] [] (.W [.app 1 48 54] [] (.W [.B .add 20 (zI 1)] [] (.again 1 [55,.v
 18,19,56]))))
def z052:T :=
 .W [.B .lss 49 (.c (.i .i64 (-1000000)))] [] (.ite 52 (.ret [.c (.nil 1),zI 8]) (.W [.B .gtr 49 (zI 1000000)] [] z051))
def z053:T :=
 .W [.call 34 [45,37] 0] [] (.W [.len 48] [] (.W [.B .eql 50 (zI 16)] [] (.ite 51 (.ret [.c (.nil 1),zI 8]) z052)))
def z054:T :=
 .W [.idx 40 44 0] [] (.W [.len 40] [] (.W [.B .sub 46 (zI 1)] [] (.W [.sub 1 40 none (some 47)] [] z053)))
def z055:T :=
 .ite 42 (.ret [.c (.nil 1),zI 8]) (.W [.len 40] [] (.W [.B .sub 43 (zI 1)] [] (.W [] [.inr 1 40 44] z054)))
def z056:T :=
 .W [.B .sub 38 (zI 1)] [] (.W [.sub 1 17 none (some 39)] [] (.W [.len 40] [] (.W [.B .eql 41 (zI 0)] [] z055)))
def z057:T :=
 .W [.len 17] [] (.W [.B .sub 35 (zI 1)] [] (.W [] [.inr 1 17 36] (.W [.idx 17 36 0] [] (.W [.len 17] []
 z056))))
def z058:T :=
 .W [.len 17] [] (.W [.B .eql 33 (zI 0)] [] (.ite 34 (.W [.len 17] [] (.W [.B .eql 35 (zI 0)] [] z050))
 z057))
def z059:T :=
 .ite 46 (.ret [.c (.nil 1),zI 8]) (.W [.mk 1 [[42]]] [] (.W [.app 1 41 47] [] (.W [.B .add 20 (zI 1)] [] (.again 1 [48,.v
 18,19,49]))))
def z05a:T :=
 .W [.B .lss 42 (.c (.i .i64 (-1000000)))] [] (.ite 45 (.ret [.c (.nil 1),zI 8]) (.W [.B .gtr 42 (zI 1000000)] [] z059))
def z05b:T :=
 .W [.call 35 [38] 0] [] (.W [.len 41] [] (.W [.B .eql 43 (zI 16)] [] (.ite 44 (.ret [.c (.nil 1),zI 8]) z05a)))
def z05c:T :=
 .W [.idx 17 37 0] [] (.W [.len 17] [] (.W [.B .sub 39 (zI 1)] [] (.W [.sub 1 17 none (some 40)] [] z05b)))
def z05d:T :=
 .ite 35 (.ret [.c (.nil 1),zI 8]) (.W [.len 17] [] (.W [.B .sub 36 (zI 1)] [] (.W [] [.inr 1 17 37] z05c)))
def z05e:T :=
 .ite 47 (.ret [.c (.nil 1),zI 8]) (.W [.mk 1 [[43]]] [] (.W [.app 1 42 48] [] (.W [.B .add 20 (zI 1)] [] (.again 1 [49,.v
 18,19,50]))))
def z05f:T :=
 .W [.B .lss 43 (.c (.i .i64 (-1000000)))] [] (.ite 46 (.ret [.c (.nil 1),zI 8]) (.W [.B .gtr 43 (zI 1000000)] [] z05e))
def z05g:T :=
 .W [.call 37 [39] 0] [] (.W [.len 42] [] (.W [.B .eql 44 (zI 16)] [] (.ite 45 (.ret [.c (.nil 1),zI 8]) z05f)))
def z05h:T :=
 .W [.idx 17 38 0] [] (.W [.len 17] [] (.W [.B .sub 40 (zI 1)] [] (.W [.sub 1 17 none (some 41)] [] z05g)))
def z05i:T :=
 .ite 36 (.ret [.c (.nil 1),zI 8]) (.W [.len 17] [] (.W [.B .sub 37 (zI 1)] [] (.W [] [.inr 1 17 38] z05h)))
def z05j:T :=
 .W [.B .eql 40 (zI 0)] [] (.ite 44 (.ret [.c (.nil 1),zI 8]) (.W [.B .add 20 (zI 1)] [] (.again 1 [43,18,19,.v
 45])))
def zvk:T :=
 .W [.idx 17 39 0] [] (.W [.len 17] [] (.W [.B .sub 41 (zI 1)] [] (.W [.sub 1 17 none (some 42)] [] z05j)))
def zvl:T :=
 .ite 37 (.ret [.c (.nil 1),zI 8]) (.W [.len 17] [] (.W [.B .sub 38 (zI 1)] [] (.W [] [.inr 1 17 39] zvk)))
def zvm:T :=
 .ite 40 (.ret [.c (.nil 1),zI 8]) (.W [.mk 1 [[2]]] [] (.W [.app 1 17 41] [] (.W [.B .add 20 (zI 1)] [] (.again 1 [42,.v
 18,19,43]))))
def zvn:T :=
 .W [.B .lss 2 (.c (.i .i64 (-1000000)))] [] (.ite 39 (.ret [.c (.nil 1),zI 8]) (.W [.B .gtr 2 (zI 1000000)] [] zvm))
def zvo:T :=
 .ite 36 (.W [.len 17] [] (.W [.B .eql 37 (zI 16)] [] (.ite 38 (.ret [.c (.nil 1),zI 8]) zvn))) (.W [.B .add 20
 (zI 1)] [] (.again 1 [17,18,19,37]))
def zvp:T :=
 .ite 35 (.W [.len 17] [] (.W [.B .eql 36 (zI 0)] [] zvl)) (.W [.B .eql 22 (zI 12)] [] zvo)
def zvq:T :=
 .ite 34 (.W [.len 17] [] (.W [.B .eql 35 (zI 0)] [] z05i)) (.W [.B .eql 22 (zI 11)] [] zvp)
def zvr:T :=
 .ite 33 (.W [.len 17] [] (.W [.B .eql 34 (zI 0)] [] z05d)) (.W [.B .eql 22 (zI 13)] [] zvq)
def zvs:T :=
 .ite 31 z04y (.W [.B .eql 22 (zI 10)] [] (.ite 32 z058 (.W [.B .eql 22 (zI 9)] [] zvr)))
def zvt:T :=
 .ite 29 z04e (.W [.B .eql 22 (zI 7)] [] (.ite 30 z04o (.W [.B .eql 22 (zI 8)] [] zvs)))
def zvu:T :=
 .ite 27 (.W [.len 17] [] (.W [.B .eql 28 (zI 0)] [] (.ite 29 (.ret [.c (.nil 1),zI 8]) z03u))) (.W [.B .eql 22 (.c
 (.i .i64 5))] [] (.ite 28 z044 (.W [.B .eql 22 (zI 6)] [] zvt)))
def zvv:T :=
 .ite 25 (.W [.len 17] [] (.W [.B .eql 26 (zI 0)] [] z039)) (.W [.B .eql 22 (zI 3)] [] (.ite 26 z03s (.W
 [.B .eql 22 (zI 4)] [] zvu)))
def zvw:T :=
 .ite 24 (.W [.len 17] [] (.W [.B .eql 25 (zI 16)] [] (.ite 26 (.ret [.c (.nil 1),zI 8]) z0cm))) (.W [.B .eql 22 (.c
 (.i .i64 2))] [] zvv)
def zvx:T :=
 .ite 21 (.W [] [.inr 2 0 20] (.W [.idx 0 20 0,.idx 0 20 1] [] (.W [.B .eql 22 (zI 1)] [] zvw))) (.ret [17,
 .c (.i .i64 0)])
def zvy:T :=
 .W [.B .lss 14 11] [] (.ite 15 z0ck (.W [.len 0] [] (.loop [10,12,13,zI 0] (.W [.B .lss 20 16] []
 zvx))))
def zvz:T :=
 .ite 8 (.ret [.c (.nil 1),zI 3]) (.W [.mk 1 []] [] (.W [.app 1 9 1] [] (.W [.len 1] [] (.loop [.c (.nil 1),zI 0,zI 0]
 zvy))))
def zw0:T :=
 .W [.B .gtr 2 (zI 1000)] [] (.ite 6 (.ret [.c (.nil 1),zI 3]) (.W [.len 1] [] (.W [.B .gtr 7 (zI 16)] []
 zvz)))
def zw1:T :=
 .W [.B .neq 3 (zI 0)] [] (.ite 4 (.ret [.c (.nil 1),3]) (.W [.B .lss 2 (zI 0)] [] (.ite 5 (.ret [.c (.nil 1),zI 3])
 zw0)))
def zj0:T :=
 .W [.call 7 [0] 0] [] zw1
attribute [local irreducible] z2i za2 zfx zfz zdk zg0 zdj zfy
theorem z0la:Meets Tryz.prog za3 165 ⟨[.one,.one,.one],[(false,[.fresh 3 1]),(false,[.scal])],false⟩:=by
 refine z6i (sp:=(zy [(7,z2i),(30,zfx),(31,zfy),(32,zdj),(33,zdk),(34,zfz),(35,zg0),(37,za2)])) (sigs:=z05) (cut:=[]) (hints:=[⟨8,[.r 6 3 1,.t 7,.t 38]⟩,⟨14,[.c 35 0 360,.r 6 3 1,.t 7,.t 51,.o 32,.z 34,.z 32]⟩]) (fns:=[z8x 192 Tryz.f192 [] [],z8x 207 Tryz.f207 [] [35],z8x 208 Tryz.f208 [] [],z8x 218 Tryz.f218 [] [],z8x 206 Tryz.f206 [] [],z8x 209 Tryz.f209 [] []]) (dep:=6) (pool:=300) (fn:=Tryz.f165) (t:=zj0) (by kernel_rfl) (by kernel_rfl) (by kernel_rfl) ?_ ?_ ?_
 ·exact (z2h (fn:=Tryz.f192) (by kernel_rfl) (by kernel_rfl) (by kernel_rfl) (by kernel_rfl) (by kernel_rfl) (z2h (fn:=Tryz.f207) (by kernel_rfl) (by kernel_rfl) (by kernel_rfl) (by kernel_rfl) (by kernel_rfl) (z2h (fn:=Tryz.f208) (by kernel_rfl) (by kernel_rfl) (by kernel_rfl) (by kernel_rfl) (by kernel_rfl) (z2h (fn:=Tryz.f218) (by kernel_rfl) (by kernel_rfl) (by kernel_rfl) (by kernel_rfl) (by kernel_rfl) (z2h (fn:=Tryz.f206) (by kernel_rfl) (by kernel_rfl) (by kernel_rfl) (by kernel_rfl) (by kernel_rfl) (z2h (fn:=Tryz.f209) (by kernel_rfl) (by kernel_rfl) (by kernel_rfl) (by kernel_rfl) (by kernel_rfl) z7k))))))
 ·exact (zr (L:=[(7,z2i),(30,zfx),(31,zfy),(32,zdj),(33,zdk),(34,zfz),(35,zg0),(37,za2)]) ⟨z7 rfl zbe,z7 rfl z0ud,z7 rfl z0ue,z7 rfl z0ro,z7 rfl z0rp,z7 rfl z0ug,z7 rfl z0uf,z7 rfl z0l9,trivial⟩)
 ·rintro ds rs - h
  obtain ⟨⟨l,s0,ht⟩,-,rfl,rfl⟩:=zg h;clear h;refine ⟨⟨l.length+s0.length+1,?_⟩,?_⟩
  ·show den _ _ zj0 [.l 2 (l.map eOp),.l 1 (s0.map zk),I ht] []=ret (z4c l s0 ht)
   unfold zj0 z4c
   repeat' (first|refine dq1 ?_|refine dqk rfl (z7d _) ?_|exact z5 rfl rfl|((first|refine tR ?_ ?_|refine tO ?_ ?_) <;> intro h)|fail)
   have hc0:z9 l=0:=zY0u.1 (by assumption);refine z4 (z1m (r:=[]) rfl rfl (by simp)) ?_;refine z4 (zir (l:=([]:List Int)) (l':=s0) (f:=zk) rfl rfl (by simp;omega)) ?_
   repeat' (first|refine dq1 ?_|fail)
   (refine zn (fun (_:Unit) k=>[.l 1 (([]:List Int).map zk),I 0,I k]) (fun (_:Unit) _ (r:List Int)=>if ∀ x ∈ r,z3r x then (match z2y ht s0 l with|none=>(([]:List Int),(8:Int))|some s'=>(s',0)) else (([]:List Int),(3:Int))) (fun _ k=>∀ x ∈ s0.take k,z3r x) () s0 ?_ ?_ ?_ ?_ ?_;rfl;exact (fun x hx=>by simp at hx);omega)
   ·rintro _ k x r hx hd hk hp again hag
    repeat' (first|refine dq1 ?_|refine dqc ?_|refine dqT ?_|fail)
    refine z3d rfl (fun h=>?_) (fun h=>?_)
    ·rw [if_neg (fun hh=>by have:=(hh x (zY0j ..)).1;omega)]
     repeat' (first|exact z5 rfl rfl|fail)
    repeat' (first|refine dq1 ?_|fail)
    refine z3d rfl (fun h=>?_) (fun h=>?_)
    ·rw [if_neg (fun hh=>by have:=(hh x (zY0j ..)).2;omega)]
     repeat' (first|exact z5 rfl rfl|fail)
    repeat' (first|refine dq1 ?_|fail)
    refine z6 rfl rfl ((hag () ?_).trans ?_)
    ·intro y hy
     rw [List.take_add_one,hx] at hy;rcases zY12.1 hy with hy|hy
     ·exact hp y hy
     ·simp only [Option.toList_some,zY13] at hy;subst hy;exact ⟨by omega,by omega⟩
    ·have:(∀ y ∈ x::r,z3r y)↔∀ y ∈ r,z3r y:=by
      simp only [zY0g,forall_eq_or_imp];exact ⟨fun h=>h.2,fun h=>⟨⟨by omega,by omega⟩,h⟩⟩
     simp only [this]
   ·rintro _ hp again
    rw [zY1j] at hp;rw [if_pos (by simp)]
    repeat' (first|refine dq1 ?_|refine dqF ?_|fail)
    (refine zn (fun (s:List Int) k=>[.l 1 (s.map zk),.l 1 (([]:List Int).map zk),I 0,I k]) (fun (s:List Int) _ (r:List Op)=>(match z2y ht s r with|none=>(([]:List Int),(8:Int))|some s'=>(s',0))) (fun s _=>z1k s) s0 l ?_ ?_ ?_ ?_ ?_;rfl;exact ⟨by omega,hp⟩;omega)
    ·rintro s k o r hx hd hk hs again' hag
     have hF:z30 ht s o=none→(match z2y ht s (o::r) with|none=>(([]:List Int),(8:Int))|some s'=>(s',0))=([],8):=fun e=>by rw [z2y,e]
     have hO:∀ s',z30 ht s o=some s'→again' [.l 1 (s'.map zk),.l 1 (([]:List Int).map zk),I 0,I ((k:Int)+1)]=ret (match z2y ht s (o::r) with|none=>(([]:List Int),(8:Int))|some s'=>(s',0)):=fun s' e=>by rw [z2y,e];exact hag s' (zgx hs e)
     generalize (match z2y ht s (o::r) with|none=>(([]:List Int),(8:Int))|some s'=>(s',0))=R at hF hO ⊢;have hsl:=hs.1;have hfit:=hs;have hll:l.length≤16:=z9z hc0;clear hag hd hp hs;have hk13:o.kind=1∨o.kind=2∨o.kind=3∨o.kind=4∨o.kind=5∨o.kind=6∨o.kind=7∨o.kind=8∨o.kind=9∨o.kind=10∨o.kind=11∨o.kind=12∨o.kind=13∨(o.kind≠1∧o.kind≠2∧o.kind≠3∧o.kind≠4∧o.kind≠5∧o.kind≠6∧o.kind≠7∧o.kind≠8∧o.kind≠9∧o.kind≠10∧o.kind≠11∧o.kind≠12∧o.kind≠13):=by omega
     have hcase:(s.length=0∧z5e s=none)∨(∃ a t,z3r a∧z5e s=some (a,t)∧(s.length:Int)=t.length+1∧s[((s.length:Int) - 1).toNat]? = some a∧s.take ((s.length:Int) - 1).toNat=t∧((t.length=0∧z5e t=none)∨∃ b u,z3r b∧z5e t=some (b,u)∧(t.length:Int)=u.length+1∧t[((t.length:Int) - 1).toNat]? = some b∧t.take ((t.length:Int) - 1).toNat=u)):=by
      by_cases h0:s.length=0
      ·exact .inl ⟨h0,zej h0⟩
      ·obtain ⟨a,t,p1,p2,p3,p4,p5⟩:=zek h0
       have f1:=z5i hfit p1;refine .inr ⟨a,t,f1.1,p1,p3,p4,p5,?_⟩
       by_cases h1:t.length=0
       ·exact .inl ⟨h1,zej h1⟩
       ·obtain ⟨b,u,q1,q2,q3,q4,q5⟩:=zek h1
        exact .inr ⟨b,u,(z5i f1.2 q1).1,q1,q3,q4,q5⟩
     rcases hk13 with hk|hk|hk|hk|hk|hk|hk|hk|hk|hk|hk|hk|hk|hk
     all_goals
      try simp only [z30,hk,Int.reduceEq,if_true,if_false] at hF hO
      rcases hcase with ⟨c1,c2⟩|⟨a,t,fa,p1,p3,p4,p5,⟨c1,c2⟩|⟨b,u,fb,q1,q3,q4,q5⟩⟩
      ·try simp only [c2,z1i,z1q,zY0b] at hF hO
       repeat' (first|refine dq1 ?_|refine dqc ?_|refine dqm ?_|refine dqT ?_|refine dqF ?_|exact z5 rfl (by rw [hF (by (repeat' (first|rw [z2f (by omega)]|simp only [zY06,zY0b]|fail)))];rfl)|exact z6 rfl rfl (hO _ (by (repeat' (first|rfl|rw [z0e (by omega) (by omega) (by omega)]|fail))))|refine z3d rfl (fun h=>?_) (fun h=>?_)|fail)
      ·try simp only [p1,c2,z1i,z1q,zY0b,zY06] at hF hO
       obtain ⟨fa1,fa2⟩:=id fa
       repeat' (first|refine dq1 ?_|refine dqc ?_|refine dqm ?_|refine dqk rfl (zho _ (by assumption)) ?_|refine dqk rfl (zpd _) ?_|refine dqT ?_|refine dqF ?_|exact z5 rfl (by rw [hF (by (repeat' (first|rw [z2f (by omega)]|rw [z0e (by omega) (by omega) (by omega)]|rw [if_pos (by omega)]|simp only [zY06,zY0b]|fail)))];rfl)|exact z6 rfl rfl (hO _ (by (repeat' (first|rfl|rw [z0e (by omega) (by omega) (by omega)]|rw [if_neg (by omega)]|simp only [zY06,zY0b]|fail))))|refine z3d rfl (fun h=>?_) (fun h=>?_)|fail)
      ·try simp only [p1,q1,z1i,z1q,zY0b,zY06] at hF hO
       obtain ⟨fa1,fa2⟩:=id fa;obtain ⟨fb1,fb2⟩:=id fb
       repeat' (first|refine dq1 ?_|refine dqc ?_|refine dqm ?_|refine dqk rfl (zho _ (by assumption)) ?_|refine dqk rfl (z0hc _ _ ⟨by assumption,by assumption⟩) ?_|refine dqk rfl (z0hd _ _ ⟨by assumption,by assumption⟩) ?_|refine dqk rfl (z0cf _ _) ?_|refine dqk rfl (z0cg _ _) ?_|refine dqk rfl (z0he _ _) ?_|refine dqk rfl (zpd _) ?_|refine dqT ?_|refine dqF ?_|exact z5 rfl (by rw [hF (by (repeat' (first|rw [z2f (by omega)]|rw [z0e (by omega) (by omega) (by omega)]|rw [if_pos (by omega)]|simp only [zY06,zY0b]|fail)))];rfl)|exact z6 rfl rfl (hO _ (by (repeat' (first|rfl|rw [z0e (by omega) (by omega) (by omega)]|rw [if_neg (by omega)]|simp only [zY06,zY0b]|fail))))|refine z3d rfl (fun h=>?_) (fun h=>?_)|fail)
    ·rintro s hs again'
     repeat' (first|refine dq1 ?_|exact z5 rfl rfl|refine dqF ?_|fail)
  ·intro i d hi hd
   match i,hi,hd with
   | 0,hi,_=>simp [zu] at hi
   | 1,_,hd=>simp only [Enc.e,zk,zY1h,zY17,zY05,zY2k,zY00] at hd;subst hd;rfl
   | i+2,hi,hd=>simp [zu] at hi
end
section
open Go.RowKit
set_option maxRecDepth 100000
set_option maxHeartbeats 4000000
attribute [local irreducible] z01 spD z1h z4c
noncomputable def za4:za:=spD (fun _:List Op × List Op × Int=>True) fun x=>z22 x.1 x.2.1 x.2.2
theorem zpe (l k:List Op) (h:Int):za4 [.l 2 (l.map eOp),.l 2 (k.map eOp),I h]=some [.b (z22 l k h).1,I (z22 l k h).2]:=ze (f:=fun x:List Op × List Op × Int=>z22 x.1 x.2.1 x.2.2) (l,k,h) trivial
theorem z0fz {h:Int}:∀ {l:List Op} {s s':List Int},z1k s→z2y h s l=some s'→z1k s'
 | [],s,s',hs,he=>by cases he;exact hs
 | o::l,s,s',hs,he=>by
  rw [z2y] at he
  cases hm:z30 h s o with
  | none=>rw [hm] at he;cases he
  | some t=>rw [hm] at he;exact z0fz (zgx hs hm) he
theorem zuq (l:List Op) (s:List Int) (h:Int):(z4c l s h).1.length≤16:=by
 unfold z4c
 split
 ·simp
 split
 ·simp
 rename_i h2
 split
 ·rename_i h3
  have hs:z1k s:=⟨by omega,h3⟩
  cases hm:z2y h s l with
  | none=>simp
  | some t=>exact (z0fz hs hm).1
 ·simp
theorem z0rq {l:List Int} (h:(l.length:Int)=1):l[(0:Int).toNat]? = some (l.headD 0):=by
 match l,h with
 | [x],_=>rfl
def zw2:T :=
 .W [.B .neq 8 (zI 0)] [] (.ite 9 (.ret [.c (.b false),8]) (.W [.B .add 5 (zI 1)] [] (.again 0 [3,4,10])))
def zw3:T :=
 .W [] [.inr 1 10 (zI 0)] (.W [.idx 10 (zI 0) 0] [] (.W [.B .neq 16 (zI 0)] [] (.ret [17,zI 0])))
def zw4:T :=
 .ite 13 (.W [.len 10] [] (.W [.B .eql 14 (zI 1)] [] (.ite 15 zw3 (.ret [.c (.b false),zI 0])))) (.ret [.c (.b false),.c
 (.i .i64 0)])
def zw5:T :=
 .W [.call 29 [0,7,2] 0,.call 29 [0,7,2] 1] [] (.W [.B .eql 11 (zI 3)] [] (.ite 12 (.ret [.c (.b false),11]) (.W [.B .eql
 11 (zI 0)] [] zw4)))
def zw6:T :=
 .W [] [.inr 1 7 (zI 0)] (.W [.idx 7 (zI 0) 0] [] (.W [.B .neq 14 (zI 0)] [] (.ret [15,zI 0])))
def zw7:T :=
 .ite 11 (.W [.len 7] [] (.W [.B .eql 12 (zI 1)] [] (.ite 13 zw6 (.ret [.c (.b false),zI 0])))) (.ret [.c (.b false),.c
 (.i .i64 0)])
def zw8:T :=
 .ite 9 zw5 (.W [.B .eql 8 (zI 3)] [] (.ite 10 (.ret [.c (.b false),8]) (.W [.B .eql 8 (zI 0)] [] zw7)))
def zw9:T :=
 .ite 6 (.W [.sel [0,1] 5] [] (.W [.call 7 [7] 0] [] zw2)) (.W [.call 29 [1,.c (.nil 1),2] 0,.call 29 [1,.c (.nil 1),2] 1] []
 (.W [.B .eql 8 (zI 0)] [] zw8))
def zf5:T :=
 .loop [.c (.b false),zI 0,zI 0] (.W [.B .lss 5 (zI 2)] [] zw9)
theorem z0ct:Meets Tryz.prog za4 144 ⟨[.one,.one,.one],[(false,[.scal]),(false,[.scal])],true⟩:=by
 refine zf (sp:=(zy [(7,z2i),(29,za3)])) (sigs:=z05) (cut:=[]) (hints:=[⟨2,[.t 6,.t 7,.t 16]⟩]) (fn:=Tryz.f144) (t:=zf5) (by kernel_rfl) (by kernel_rfl) (by kernel_rfl) ?_ ?_
 ·exact (zr (L:=[(7,z2i),(29,za3)]) ⟨z7 rfl zbe,z7 rfl z0la,trivial⟩)
 ·rintro ds rs - h
  obtain ⟨⟨l,k,ht⟩,-,rfl,rfl⟩:=zg h;clear h;refine ⟨⟨3,?_⟩,zat rfl rfl⟩
  show den _ _ zf5 [.l 2 (l.map eOp),.l 2 (k.map eOp),I ht] []=ret (z22 l k ht)
  unfold zf5 z22;refine z0t rfl ?_;rw [z06]
  repeat' (first|refine dq1 ?_|refine dqk rfl (z7d _) ?_|exact z5 rfl rfl|refine tR (fun h=>?_) fun h=>?_|fail)
  refine z6 rfl rfl ?_;rw [z06];have hr1:=zuq k [] ht;have hr2:=zuq l (z4c k [] ht).1 ht;unfold zfw
  repeat' (first|refine dq1 ?_|refine dqc ?_|refine dqK rfl (zhp k [] ht (by simp)) ?_|refine dqK rfl (zhp l _ ht (by omega)) ?_|exact z5 rfl rfl|refine tR (fun h=>?_) fun h=>?_|fail)
  all_goals
   have hx:=z0rq (by assumption)
   repeat' (first|refine dq1 ?_|exact z5 rfl rfl|fail)
end
section
open Go.RowKit
def zpf (r:Option (List Int)):List Int × Int:=match r with
 | none=>([],8)
 | some s=>(s,0)
theorem zur {l:List Op} {s:List Int} {h:Int} (hl:z9 l=0) (h0:0≤h) (h1:h≤1000) (hs:z1k s):z4c l s h=zpf (z2y h s l):=by
 unfold z4c;rw [if_neg (fun e=>e hl),if_neg (by have:=hs.1;omega),if_pos hs.2];rfl
theorem zbf:z1k []:=⟨by simp,by simp⟩
theorem zm8 {h:Int}:∀ {l:List Op} {s s':List Int},z1k s→z2y h s l=some s'→z1k s'
 | [],s,s',hs,he=>by cases he;exact hs
 | o::l,s,s',hs,he=>by
  rw [z2y] at he
  cases hm:z30 h s o with
  | none=>rw [hm] at he;cases he
  | some t=>rw [hm] at he;exact zm8 (zgx hs hm) he
def zpg (r:Option (List Int)):Bool:=match r with
 | some [x]=>decide (x≠0)
 | _=>false
theorem z0cu (r:Option (List Int)):zfw (zpf r)=(zpg r,0):=by
 match r with
 | none=>rfl
 | some []=>rfl
 | some [x]=>simp [zfw,zpf,zpg]
 | some (x::y::t) =>
  show (if (0:Int)=3 then (false,0) else if (0:Int)=0 then (if ((x::y::t).length:Int)=1 then (decide ((x::y::t).headD 0≠0),0) else (false,0)) else (false,0))=(false,0)
  rw [if_neg (by decide),if_pos rfl,if_neg (by simp only [zY0a];omega)]
theorem z0hf {l k:List Op} {h:Int} (hl:z9 l=0) (hk:z9 k=0) (h0:0≤h) (h1:h≤1000):z22 l k h=(zpg ((z2y h [] k).bind fun s=>z2y h s l),0):=by
 unfold z22;rw [if_neg (fun e=>e hl),if_neg (fun e=>e hk),zur hk h0 h1 zbf]
 cases hm:z2y h [] k with
 | none=>rfl
 | some s =>
  have hs:=zm8 zbf hm;rw [if_pos (show (zpf (some s)).2=0 from rfl),show (zpf (some s)).1=s from rfl,zur hl h0 h1 hs,z0cu];rfl
end
section
open Go.RowKit
open Go.Lib (itoa)
set_option maxRecDepth 100000
set_option maxHeartbeats 4000000
def z42:za:=fun ds=>match ds with
 | []=>some (opNames.map Dt.s)
 | _::_=>none
theorem zph:z42 []=some [.s [],.s [],.s [100,117,112],.s [115,119,97,112],.s [100,114,111,112],.s [97,100,100],.s [115,117,98],.s [115,97,109,101],.s [108,101,115,115],.s [110,111,116],.s [97,110,100],.s [118,101,114,105,102,121],.s [104,101,105,103,104,116],.s [109,105,120]]:=rfl
def z0cv:T :=
 .ret [.c (.s []),.c (.s []),.c (.s [100,117,112]),.c (.s [115,119,97,112]),.c (.s [100,114,111,112]),.c (.s [97,100,100]),.c (.s [115,117,98]),.c (.s [115,97,
 109,101]),.c (.s [108,101,115,115]),.c (.s [110,111,116]),.c (.s [97,110,100]),.c (.s [118,101,114,105,102,121]),.c (.s [104,101,105,103,104,116]),.c (.s
 [109,105,120])]
def zwa:T :=
 .W [.call 38 [8] 0] [] (.W [.mk 1 [[25]]] [] (.W [.app 1 4 26] [] (.W [.B .add 5 (zI 1)] [] (.again 0 [27,28]))))
def zwb:T :=
 .ite 24 zwa (.W [.mk 1 [[23]]] [] (.W [.app 1 4 25] [] (.W [.B .add 5 (zI 1)] [] (.again 0 [26,27]))))
def zwc:T :=
 .W [.sel [9,10,11,12,13,14,15,16,17,18,19,20,21,22] 7] [] (.W [.B .eql 7 (zI 1)] [] zwb)
def zwd:T :=
 .W [.call 40 [] 0,.call 40 [] 1,.call 40 [] 2,.call 40 [] 3,.call 40 [] 4,.call 40 [] 5,.call 40 [] 6,.call 40 [] 7,.call 40 [] 8,.call 40 [] 9,.call 40 [] 10,.call 40
 [] 11,.call 40 [] 12,.call 40 [] 13] [] zwc
def zwe:T :=
 .ite 6 (.W [] [.inr 2 0 5] (.W [.idx 0 5 0,.idx 0 5 1] [] zwd)) (.W [.call 39 [4,.c (.s [32])] 0] [] (.ret [7,.c (.i
 .i64 0)]))
def zwf:T :=
 .W [.B .neq 1 (zI 0)] [] (.ite 2 (.ret [.c (.s []),1]) (.W [.len 0] [] (.loop [.c (.nil 1),zI 0] (.W [.B .lss 5 3] []
 zwe))))
def zf6:T :=
 .W [.call 7 [0] 0] [] zwf
theorem z0cw:Meets Tryz.prog z42 142 ⟨[],[(true,[.scal,.scal,.scal,.scal,.scal,.scal,.scal,.scal,.scal,.scal,.scal,.scal,.scal,.scal])],true⟩:=by
 refine zf (sp:=(zy [])) (sigs:=z05) (cut:=[]) (hints:=[]) (fn:=Tryz.f142) (t:=z0cv) (by kernel_rfl) (by kernel_rfl) (by kernel_rfl) ?_ ?_
 ·exact (zr (L:=[]) trivial)
 ·rintro ds rs - h
  cases ds with
  | cons d ds=>cases h
  | nil =>
   cases h
   refine ⟨⟨1,rfl⟩,fun i d hi hd=>?_⟩;rw [zY0m] at hd;obtain ⟨x,_,rfl⟩:=zY0s.1 hd;rfl
noncomputable def zj1:za:=spD (fun _:List Op=>True) fun l=>z3g l
theorem zpi (l:List Op):zj1 [.l 2 (l.map eOp)]=some [.s (z3g l).1,I (z3g l).2]:=ze (f:=fun l:List Op=>z3g l) l trivial
theorem z0ve {k:Int} (h0:1≤k) (h1:k≤13):(opNames.map Dt.s)[k.toNat]? = some (.s ((opNames[k.toNat]?).getD [])):=by
 rcases z0h4 h0 h1 with rfl|rfl|rfl|rfl|rfl|rfl|rfl|rfl|rfl|rfl|rfl|rfl|rfl <;> rfl
attribute [local irreducible] z01 spD z1h itoa z9 z22 z49 z42
theorem z0cx:Meets Tryz.prog zj1 114 ⟨[.one],[(false,[.scal]),(false,[.scal])],true⟩:=by
 refine zf (sp:=(zy [(7,z2i),(38,z4x),(39,zci),(40,z42)])) (sigs:=z05) (cut:=[]) (hints:=[⟨6,[.r 5 9 1,.t 16]⟩]) (fn:=Tryz.f114) (t:=zf6) (by kernel_rfl) (by kernel_rfl) (by kernel_rfl) ?_ ?_
 ·exact (zr (L:=[(7,z2i),(38,z4x),(39,zci),(40,z42)]) ⟨z7 rfl zbe,z7 rfl zp8,z7 rfl z0l5,z7 rfl z0cw,trivial⟩)
 ·rintro ds rs - h
  obtain ⟨l,-,rfl,rfl⟩:=zg h;clear h;refine ⟨⟨l.length+1,?_⟩,zat rfl rfl⟩
  show den _ _ zf6 [.l 2 (l.map eOp)] []=ret (z3g l)
  unfold zf6 z3g
  repeat' (first|refine dq1 ?_|refine dqk rfl (z7d _) ?_|exact z5 rfl rfl|refine tR (fun h=>?_) fun h=>?_|fail)
  have hc0:z9 l=0:=zY0u.1 (by assumption);obtain ⟨hl16,hall⟩:=zdg hc0
  (refine zn (fun (s:List (List UInt8)) k=>[.l 1 (s.map z0c),I k]) (fun (s:List (List UInt8)) _ (r:List Op)=>(z49 32 (s++r.map z1w),(0:Int))) (fun s k=>s=(l.take k).map z1w) [] l ?_ ?_ ?_ ?_ ?_;rfl;exact rfl;omega)
  ·rintro s k o r hx hd hk hs again hag
   have hsl:s.length≤16:=by rw [hs,zY0y,zY0f];omega
   have ho:=zm4 (hall o (zY07 hx));obtain ⟨ho1,ho2,-⟩:=ho;have hn:=z0ve ho1 ho2;have hnext:s++[z1w o]=(l.take (k+1)).map z1w:=by rw [hs,List.take_add_one,hx,zY23];rfl
   have hag:=hag (s++[z1w o]) hnext;rw [← List.append_cons] at hag;rw [zY1q]
   repeat' (first|refine dq1 ?_|refine dqc ?_|refine dqm ?_|refine dqK rfl (zph) ?_|refine dqT ?_|fail)
   refine z4 (z0ks rfl rfl (by omega) hn) ?_
   repeat' (first|refine dq1 ?_|fail)
   refine z3d rfl (fun h=>?_) (fun h=>?_)
   ·have ht:z1w o=itoa o.n:=if_pos h
    rw [ht] at hag ⊢
    repeat' (first|refine dq1 ?_|refine dqk rfl (z6p _) ?_|refine z4 (z1m rfl rfl (by simp)) ?_|fail)
    exact z6 rfl rfl hag
   ·have ht:z1w o=(opNames[o.kind.toNat]?).getD []:=if_neg h
    rw [ht] at hag ⊢
    repeat' (first|refine dq1 ?_|refine z4 (z1m rfl rfl (by simp)) ?_|fail)
    exact z6 rfl rfl hag
  ·rintro s hs again
   rw [zY1j] at hs;subst hs;have hln:=zbd hc0;have hj:=zox 32 (l.map z1w);have ht:z49 32 (l.map z1w)=z6a l:=rfl;simp only [zY2u,zY1e];rw [← hj]
   repeat' (first|refine dq1 ?_|refine dqk rfl (zvj (l.map z1w) [32] ⟨by rw [zY0y];omega,by rw [hj,ht];omega⟩) ?_|exact z5 rfl rfl|refine dqF ?_|fail)
end
section
open Go.RowKit Go.Shelf
open Go.Lib (itoa)
set_option maxRecDepth 100000
def FactsW (w:World) (F:Nat→Prop) (Δ:List Res):Prop:=∀ r ∈ Δ,r.block=none∧r.holds w.heap.size F w
theorem FactsW.nil {w:World} {F:Nat→Prop}:FactsW w F []:=fun _ h=>by cases h
theorem FactsW.cons {w:World} {F:Nat→Prop} {Δ:List Res} {r:Res} (h1:r.block=none) (h2:r.holds w.heap.size F w) (h:FactsW w F Δ):FactsW w F (r::Δ):=fun q hq=>by
 rcases zY0g.1 hq with rfl|hq
 ·exact ⟨h1,h2⟩
 ·exact h q hq
theorem z0lf {α:Type} {S:Sh α} {xs:List α} {A:Option Addr} {n c:Nat}:(rds xs A n c S).block=none:=by unfold rds zm0;rfl
theorem z0lg {α:Type} {S:Sh α} {xs:List α} {A:Option Addr} {n c h0:Nat} {w:World} {F:Nat→Prop} (h:Rds S w F xs A n c):(rds xs A n c S).holds h0 F w:=by unfold rds zm0;exact h
theorem FactsW.rds {w:World} {F:Nat→Prop} {Δ:List Res} {α:Type} {S:Sh α} {xs:List α} {A:Option Addr} {n c:Nat} (h:Rds S w F xs A n c) (hΔ:FactsW w F Δ):FactsW w F (rds xs A n c S::Δ):=.cons z0lf (z0lg h) hΔ
def sb (gb:Nat) (l:List UInt8):Res:={
 block:=some gb
 holds h0 F W:=h0≤gb∧∃ v p,W.heap[gb]? = some (.cells #[p,v] 177 (0,0))∧W.ownsRow gb 5 1 v l.length (Lib.byteCells l)∧v.ownBlock≠some gb∧(∀ g,v.ownBlock=some g→F g)∧(p = .pointer none∨p = .pointer (some ⟨gb,0,none⟩))
 keep:=fun ha hF hb ⟨h0,v,p,h1,h2,h3,h4,h5⟩=>⟨h0,v,p,(hb _ rfl).trans h1,zim h2 (fun g hg=>ha g (h4 g hg)),h3,fun g hg=>hF g (h4 g hg),h5⟩
 lt:=fun ⟨h0,v,p,h1,_⟩ e=>by injection e with e;subst e;exact ⟨h0,(zY15.1 h1).1⟩ }
section
variable {w0 W:World} {F0:Nat→Prop} {Γ Δ:List Res} {gb:Nat} {l:List UInt8}
theorem FactsW.sep {r:Res} (hΔ:FactsW w0 F0 Δ) (hb:Below w0.heap.size w0 W) (hF:∀ b,F0 b→b<w0.heap.size) (hr:r.holds w0.heap.size (Free w0.heap.size F0 (r::Δ) W) W) (hg:∀ g,r.block=some g→w0.heap.size≤g):Sep w0 F0 (r::Δ) W:=by
 refine ⟨hb,hF,?_,?_⟩
 ·intro q hq
  rcases zY0g.1 hq with rfl|hq
  ·exact hr
  ·refine q.keep (fun b hb'=>hb.block b (hF b hb')) (fun b hb'=>⟨.inl hb',fun p hp e=>?_⟩) (fun g hg'=>by rw [(hΔ q hq).1] at hg';cases hg') (hΔ q hq).2
   rcases zY0g.1 hp with rfl|hp
   ·have:=hg b e;have:=hF b hb';omega
   ·rw [(hΔ p hp).1] at e;cases e
 ·refine zY1d.2 ⟨fun q hq g _ h2=>(by rw [(hΔ q hq).1] at h2;cases h2),?_⟩
  exact List.pairwise_of_forall_mem_list fun q hq p hp g h1 _=>by rw [(hΔ q hq).1] at h1;cases h1
theorem Sep.sbStart {w:World} {F:Nat→Prop} (hF:∀ b,F b→b<w.heap.size) (hΔ:FactsW w F Δ):Sep w F (sb w.heap.size []::Δ) (w.alloc (.cells #[.pointer none,.slice none 0 0] 177)) :=
 hΔ.sep ((Below.refl _ _).alloc (zY0k _) _) hF ⟨zY0k _,.slice none 0 0,.pointer none,heap_alloc_new w _,World.ownsRow_nil _ _ _ _,by simp [Value.ownBlock],fun g hg=>by simp [Value.ownBlock] at hg,.inl rfl⟩ (fun g hg=>by injection hg with hg;omega)
theorem Sep.sbIs (hS:Sep w0 F0 Γ W) (hm:At Γ (sb gb l)):Lib.IsBuilder 177 5 gb gb (Lib.byteCells l) W:=by
 obtain ⟨h0,v,p,h1,h2,h3,-,h5⟩:=hS.get hm;have e:(Lib.byteCells l).length=l.length:=Lib.byteCells_length l;rcases h5 with rfl|rfl
 ·exact .inl ⟨zY0k _,v,h1,by rw [e];exact h2,h3⟩
 ·exact .inr ⟨zY0k _,v,h1,by rw [e];exact h2,h3⟩
theorem Sep.write (hS:Sep w0 F0 Γ W) (hm:At Γ (sb w0.heap.size l)) (hΔ:FactsW w0 F0 Δ) (s:ByteArray) (hl:l.length+s.size≤1000000) :
  Calls Tryz.prog 112 #[.pointer (some ⟨w0.heap.size,0,none⟩),.string s] W fun e W'=>(∃ v,e = .returned v)∧Sep w0 F0 (sb w0.heap.size (l++s.data.toList)::Δ) W':=by
 have hB:=hS.sbIs hm;have e:(Lib.byteCells l).length=l.length:=Lib.byteCells_length l;refine (Any.Builder_WriteString { Tryz.lays156 with } Tryz.Builder_Extra_156 w0.heap.size w0.heap.size (Lib.byteCells l) s W hB (by rw [e];omega) hS.size).mono ?_;rintro e w' ⟨rfl,⟨-,v,h1,h2,h3⟩,h4⟩;refine ⟨⟨_,rfl⟩,?_⟩;have hb:Below w0.heap.size w0 w':=hS.below.trans h4;rw [Lib.strCells_eq,← Lib.byteCells_append] at h2;rw [Lib.byteCells_length] at h2;refine hΔ.sep hb hS.low ⟨zY0k _,v,_,h1,h2,h3,fun g hg=>⟨.inr ?_,?_⟩,.inr rfl⟩ (fun g hg=>by injection hg with hg;omega)
 ·exact h2.lt g hg
 ·intro q hq e
  rcases zY0g.1 hq with rfl|hq
  ·exact h3 (hg.trans e.symm)
  ·rw [(hΔ q hq).1] at e;cases e
theorem Sep.text (hS:Sep w0 F0 Γ W) (hm:At Γ (sb w0.heap.size l)) :
  Calls Tryz.prog 113 #[.pointer (some ⟨w0.heap.size,0,none⟩)] W fun e W'=>e = .returned (.string ⟨l.toArray⟩)∧Below w0.heap.size w0 W' :=
 (Any.Builder_String_any Tryz.lays169 Tryz.Builder_Extra_169 w0.heap.size w0.heap.size l W (hS.sbIs hm) hS.size).mono fun e w' ⟨h1,h2⟩=>⟨h1,hS.below.trans h2⟩
section
variable {P:Program} {ops:Array Oper} {Q:Exit→Act→World→Prop} {a:Act} {rest:List Oper} {o:Oper}
theorem wsb (hgd:Region.wanted o (yielded ops a.tmps)=true) (ho:o.op = .alloc 177) (hz:z5n P 177 [.pointer none,.slice none 0 0]) (hΔ:FactsW W (Lt W.heap.size) Δ)
  (k:∀ W',Sep W (Lt W.heap.size) (sb W.heap.size []::Δ) W'→wpList P ops Q rest (a.put o.dst (.pointer (some ⟨W.heap.size,0,none⟩))) W'):wpList P ops Q (o::rest) a W :=
 BigFrame.wpList_want hgd fun K hK=>by
  obtain ⟨z,hz1,hz2⟩:=hz;unfold Oper.wp execOp;simp only [ho,Instr.alloc,newVar,newRow,Sem.run_bind,run_newObj_alloc,Result.andThen_ok,Sem.run_pure,hz2,hz1];exact hK _ _ (k _ (Sep.sbStart (fun _ h=>h) hΔ))
end
end
attribute [irreducible] sb
theorem Yl.cat {P:Program} {w0:World} {F0:Nat→Prop} {Γ:List Res} {o:Oper} {a:Act} {t t':TypeId} {x y:Operand} {s r:List UInt8} (ho:o.op = .binOp .add t x y t') (hx:a.eval x = .string ⟨s.toArray⟩) (hy:a.eval y = .string ⟨r.toArray⟩) (hl:s.length+r.length≤1000000):Yl P w0 F0 Γ o a (.string ⟨(s++r).toArray⟩) :=
 Yl.pure fun W=>by
  have e3:(⟨s.toArray⟩++⟨r.toArray⟩:ByteArray)=⟨(s++r).toArray⟩:=by
   apply ByteArray.ext;simp
  have hn:¬ ((((⟨s.toArray⟩:ByteArray).size+(⟨r.toArray⟩:ByteArray).size:Nat):Int) > IntKind.i64.max):=by
   simp only [ByteArray.size,zY2j,IntKind.max,IntKind.bits,IntKind.signed];omega
  unfold execOp;simp only [ho,hx,hy,binOp,Op.stringOp,if_neg hn,e3];rfl
theorem z_sb:z5n Tryz.prog 177 [.pointer none,.slice none 0 0]:=⟨.agg #[.pointer none,.slice none 0 0],rfl,Tryz.zeroValue177⟩
section
variable {P:Program} {W:World} {F:Nat→Prop}
theorem z05m {spec:za} {f:Nat} {pk:List PK} {d1 d2:Dt} (hpk:z4h pk=false) (hen:En P f) (hM:Meets P spec f ⟨pk,[(false,[.scal]),(false,[.scal])],true⟩) {ds:List Dt} {us:List Value} (hF:zbw F W) (hs:spec ds=some [d1,d2]) (hargs:PKRs W F pk ds us) :
  Calls P f us.toArray W fun e w'=>(∃ v1 v2 F',e = .returned (.tuple #[v1,v2])∧Rep w' F' d1 v1∧Rep w' F' d2 v2)∧Below W.heap.size W w':=by
 rcases hM.1 hpk W F ds us _ hF hargs hs with ⟨_,h⟩|⟨v,W',h1,_⟩
 ·refine h.mono fun e w' ⟨v,h1,h2,us,F',hR⟩=>⟨?_,h2⟩
  obtain ⟨vs,rfl,v1,vs1,u1,u2,rfl,rfl,⟨rfl,-⟩,v2,vs2,u3,u4,rfl,rfl,⟨rfl,-⟩,rfl,rfl⟩:=hR.val;exact ⟨v1,v2,F',h1,(hR.cells 0 .scal d1 v1 rfl rfl rfl).2,(hR.cells 1 .scal d2 v2 rfl rfl rfl).2⟩
 ·rw [hen.run] at h1;cases h1
end
theorem zbr (n:Int) (hn:I64 n) {W:World} (hG:Glob W):Calls Tryz.prog 104 #[.int .i64 n] W fun e w'=>e = .returned (.string ⟨(itoa n).toArray⟩)∧Below W.heap.size W w':=by
 refine (Any.strconv_Itoa Tryz.lays171 n hn.1 hn.2 W hG.1).mono ?_;rintro e w' ⟨rfl,k,os,rfl⟩;exact ⟨rfl,Go.Lib.below_grow _ _ (zY0k _) k os⟩
theorem zl0 (l:List Op) {A:Option Addr} {n c:Nat} {W:World} {F:Nat→Prop} (hF:zbw F W) (h:Rds shOp W F l A n c) :
  Calls Tryz.prog 114 #[.slice A n c] W fun e w'=>e = .returned (.tuple #[.string ⟨(z3g l).1.toArray⟩,.int .i64 (z3g l).2])∧Below W.heap.size W w':=by
 refine (z05m (us:=[.slice A n c]) rfl (z1x (fn:=Tryz.f114) (by kernel_rfl) (by kernel_rfl) (by kernel_rfl)) z0cx hF (zpi l) (zgq (z0fq z9q h) zom)).mono ?_;rintro e w' ⟨⟨v1,v2,F',rfl,h1,h2⟩,h3⟩;obtain ⟨rfl,-⟩:=zfu h1;obtain ⟨rfl,-⟩:=zd0 h2;exact ⟨rfl,h3⟩
end
section
open Go.RowKit Go.Shelf
open Go.Lib (itoa)
set_option maxRecDepth 100000
set_option maxHeartbeats 4000000 in
theorem zus (t:Tx) (cs:List Value) {w0 W:World} {F0:Nat→Prop} {Γ:List Res} (hS:Sep w0 F0 Γ W) (ht:At Γ (rep t cs shTx)) (hG:Glob w0) :
  Calls Tryz.prog 71 #[.agg cs.toArray] W (RV w0 F0 Γ (.tuple #[.string ⟨(z0j t).1.toArray⟩,.int .i64 (z0j t).2])):=by
 (have hO:=hS.open_tx ht;clear hS;obtain ⟨A,n,c,A2,n2,c2,rfl,i1,hS⟩:=hO)
 obtain ⟨hl1,hn1,hc1⟩:=hS.len (xs:=t.ins) (by repeat (with_reducible exact At.z))
 obtain ⟨hl2,hn2,hc2⟩:=hS.len (xs:=t.outs) (by repeat (first|with_reducible exact At.z|apply At.s))
 have HP:=Lib.hid (show z0j t=if zm t≠0 then ([],zm t) else (z0m t,0) from rfl)
 generalize z0j t=R at *
 have L1:=Lib.hid hl1
 have L2:=Lib.hid hl2
 clear hl1 hl2
 go_enter Tryz.func71,Tryz.ntmps71
 (go_wp2_with ((refine Sep.wbox hS (by rfl) rfl rfl ?_;clear hS;intro gt W hS;refine Stop.go ?_));refine Stop.mk ?_)
 go_wp2_with (((refine Sep.wloadNb hS (by rfl) rfl rfl (by repeat (with_reducible exact At.z)) (za5 rfl) ?_)))
 refine (hS.old (zf4 t [_,_,_] _ _ (hS.ltsRep (At.s (At.s (At.s ht)))) (fun b hb=>hb))).mono ?_;clear hS;rintro e W ⟨rfl,hS⟩
 rcases Classical.em (zm t=0) with h0|h0
 ·rw [h0]
  have HR:Hid (R=(z0m t,0)):=Lib.hid (by rw [HP.out,if_neg (fun h=>h h0)])
  have H0:=Lib.hid h0
  have hlen:n≤6∧n2≤6:=by
   have q:=h0
   unfold zm z2d at q
   have:=L1.out
   have:=L2.out
   by_cases h6:6<t.ins.length∨6<t.outs.length
   ·rw [if_pos h6] at q;simp at q
   ·omega
  clear h0 HP
  have b0:=hS.boxCell (g:=gt) At.z 0 _ rfl
  have b1:=hS.boxCell (g:=gt) At.z 1 _ rfl
  have b2:=hS.boxCell (g:=gt) At.z 2 _ rfl
  have gl:gt<W.heap.size:=(zY15.1 (hS.getBox (g:=gt) At.z).2).1
  have hΔ:FactsW W (Lt W.heap.size) [rds t.ins A n c shIn,rds t.outs A2 n2 c2 shOut]:=.rds (hS.ltsRds (by repeat (first|with_reducible exact At.z|apply At.s))) (.rds (hS.ltsRds (by repeat (first|with_reducible exact At.z|apply At.s))) .nil)
  have hG1:Glob W:=hG.on hS.below
  obtain ⟨h,ins,outs⟩:=t
  simp only at *
  rename World=>Wb
  have hSo:=hS
  clear hS
  (go_wp2_with (first|(refine wsb (by rfl) rfl z_sb hΔ ?_;intro W1 hS;refine Stop.go ?_));refine Stop.mk ?_)
  have c0:=(hS.below.cell (p:=⟨gt,0,none⟩) gl).trans b0
  go_wp2_with fail
  refine (hS.old (zbr h i1 (hG1.on hS.below))).mono ?_;clear hS;rintro e W ⟨rfl,hS⟩
  have li:=z6o h i1
  go_wp2_with fail
  refine (hS.write (l:=[]) (by repeat (with_reducible exact At.z)) hΔ _ (by simp [ByteArray.size];omega)).mono ?_
  clear hS
  rintro e W2 ⟨⟨v,rfl⟩,hS⟩
  have c1:=(hS.below.cell (p:=⟨gt,1,none⟩) gl).trans b1
  go_wp2_with fail
  have e0:[]++((⟨#[116,120,32]⟩:ByteArray)++⟨(itoa h).toArray⟩++⟨#[10]⟩).data.toList=z4y ⟨h,ins,outs⟩:=by simp [ByteArray.data_append,z4y]
  rw [e0] at hS
  clear e0
  have lh:(z4y ⟨h,ins,outs⟩).length≤24:=by simp [z4y];omega
  go_loopw [7,8,9,28] (fun _ _ _ i wr=>∃ k:Nat,k≤n∧i = .int .i64 k∧∃ l:List UInt8,l.length≤24+200 * k∧Hid (l=z4y ⟨h,ins,outs⟩++(ins.take k).flatMap z3l)∧Sep Wb (Lt Wb.heap.size) (sb Wb.heap.size l::rds ins A n c shIn::rds outs A2 n2 c2 shOut::[]) wr) (fun _ _ _ i _=>n - (intOf i).toNat)
  case atStart=>exact ⟨0,by omega,rfl,z4y ⟨h,ins,outs⟩,by omega,Lib.hid (by simp),hS.sub (by repeat (with_reducible exact Sub.refl))⟩
  case round =>
   clear hS c1 c0
   obtain ⟨k,hk,rfl,l,hl,HL,hS⟩:=hrel
   rcases Classical.em (k<n) with hlt|hlt
   ·(have hO:=hS.elemIn (xs:=ins) (by repeat (first|with_reducible exact At.z|apply At.s)) hlt;clear hS;obtain ⟨b,off,x,A1,n1,c1,rfl,hx,j1,j2,hS⟩:=hO)
    have HX:=Lib.hid hx
    have k1:(0:Int)≤(k:Int):=by omega
    have k2:(k:Int)<(n:Int):=by omega
    clear hx
    obtain ⟨⟨ptx,pat⟩,key⟩:=x
    simp only at j1 j2 hS
    (go_wp2_with (first|(refine Sep.wloadNz hS (by rfl) rfl rfl (by repeat (first|with_reducible exact At.z|apply At.s)) (za5 rfl) ?_)|(refine Sep.walloc hS (by rfl) rfl (by first|exact z_op|exact z_in) ?_;clear hS;intro g W hS)|(refine Sep.wstoreNb hS (by rfl) rfl rfl rfl (za5 rfl) (by simp [zlz,Value.oneCell']) (by repeat (first|with_reducible exact At.z|apply At.s)) (by rfl) (by repeat (first|with_reducible exact Put.z|apply Put.s)) ?_;clear hS;intro W hS;refine Stop.go ?_));refine Stop.mk ?_)
    have x2:=hS.boxCell (g:=g) (cs:=[.int .i64 ptx,.int .i64 pat,.slice A1 n1 c1]) (by repeat (with_reducible exact At.z)) 2 _ rfl
    go_wp2_with fail
    refine (hS.old (zl0 key ⟨fun b hb=>hb,hG1.on hS.below⟩ (hS.ltsRds (by repeat (first|with_reducible exact At.z|apply At.s))))).mono ?_;clear hS;rintro e W ⟨rfl,hS⟩
    clear x2
    have lp:=zcj key
    have l1:=z6o ptx j1
    have l2:=z6o pat j2
    go_wp2_with fail
    (refine Sep.regionT hS [15] (by kernel_rfl) ?_;clear hS;intro W hS)
    (refine z2g 0 rfl rfl (by ((apply Yl.pure;intro W;go_simp;with_reducible rfl))) (hS.sub (by repeat (with_reducible exact Sub.refl))) (by kernel_rfl) (fun _ _ _ h=>h) ?_;simp only [Act.put,zY08,zY0n,zY0o])
    (refine z2g 1 rfl rfl (by ((apply Yl.pure;intro W;go_simp;with_reducible rfl))) (hS.sub (by repeat (with_reducible exact Sub.refl))) (by kernel_rfl) (fun _ _ _ h=>h) ?_;simp only [Act.put,zY08,zY0n,zY0o])
    (refine z2g 2 rfl rfl (by (exact Yl.load1b rfl rfl (zg2 rfl) (by repeat (with_reducible exact At.z)) rfl)) (hS.sub (by repeat (with_reducible exact Sub.refl))) (by kernel_rfl) (fun _ _ _ h=>h) ?_;simp only [Act.put,zY08,zY0n,zY0o])
    (refine z2g 6 rfl rfl (by ((apply Yl.pure;intro W;go_simp;with_reducible rfl))) (hS.sub (by repeat (with_reducible exact Sub.refl))) (by kernel_rfl) (fun _ _ _ h=>h) ?_;simp only [Act.put,zY08,zY0n,zY0o])
    (refine z2g 7 rfl rfl (by ((apply Yl.pure;intro W;go_simp;with_reducible rfl))) (hS.sub (by repeat (with_reducible exact Sub.refl))) (by kernel_rfl) (fun _ _ _ h=>h) ?_;simp only [Act.put,zY08,zY0n,zY0o])
    (refine z2g 8 rfl rfl (by (exact Yl.load1b rfl rfl (zg2 rfl) (by repeat (with_reducible exact At.z)) rfl)) (hS.sub (by repeat (with_reducible exact Sub.refl))) (by kernel_rfl) (fun _ _ _ h=>h) ?_;simp only [Act.put,zY08,zY0n,zY0o])
    (refine z2g 12 rfl rfl (by (exact Yl.move rfl)) (hS.sub (by repeat (with_reducible exact Sub.refl))) (by kernel_rfl) (fun _ _ _ h=>h) ?_;simp only [Act.put,zY08,zY0n,zY0o])
    refine zj4 3 (by kernel_rfl) rfl ?_
    go_wp2_with fail
    refine (hS.old (zbr ptx j1 (hG1.on hS.below))).mono ?_;clear hS;rintro e W ⟨rfl,hS⟩
    go_wp2_with fail
    (refine ⟨fun _=>hS.sub (by repeat (with_reducible exact Sub.refl)),?_⟩;try simp only [Act.put,zY08,zY0n,zY0o])
    (refine z2g 4 rfl rfl (Yl.cat rfl rfl rfl (by simp only [zY04,zY0a,zY0q];omega)) (hS.sub (by repeat (with_reducible exact Sub.refl))) (by kernel_rfl) (fun _ _ _ h=>h) ?_;simp only [Act.put,zY08,zY0n,zY0o])
    (refine z2g 5 rfl rfl (Yl.cat rfl rfl rfl (by simp only [zY04,zY0a,zY0q];omega)) (hS.sub (by repeat (with_reducible exact Sub.refl))) (by kernel_rfl) (fun _ _ _ h=>h) ?_;simp only [Act.put,zY08,zY0n,zY0o])
    refine zj4 9 (by kernel_rfl) rfl ?_
    go_wp2_with fail
    refine (hS.old (zbr pat j2 (hG1.on hS.below))).mono ?_;clear hS;rintro e W ⟨rfl,hS⟩
    go_wp2_with fail
    (refine ⟨fun _=>hS.sub (by repeat (with_reducible exact Sub.refl)),?_⟩;try simp only [Act.put,zY08,zY0n,zY0o])
    (refine z2g 10 rfl rfl (Yl.cat rfl rfl rfl (by simp only [zY04,zY0a,zY0q];omega)) (hS.sub (by repeat (with_reducible exact Sub.refl))) (by kernel_rfl) (fun _ _ _ h=>h) ?_;simp only [Act.put,zY08,zY0n,zY0o])
    (refine z2g 11 rfl rfl (Yl.cat rfl rfl rfl (by simp only [zY04,zY0a,zY0q];omega)) (hS.sub (by repeat (with_reducible exact Sub.refl))) (by kernel_rfl) (fun _ _ _ h=>h) ?_;simp only [Act.put,zY08,zY0n,zY0o])
    (refine z2g 13 rfl rfl (Yl.cat rfl rfl rfl (by simp only [zY04,zY0a,zY0q];omega)) (hS.sub (by repeat (with_reducible exact Sub.refl))) (by kernel_rfl) (fun _ _ _ h=>h) ?_;simp only [Act.put,zY08,zY0n,zY0o])
    (refine z2g 14 rfl rfl (Yl.cat rfl rfl rfl (by simp only [zY04,zY0a,zY0q];omega)) (hS.sub (by repeat (with_reducible exact Sub.refl))) (by kernel_rfl) (fun _ _ _ h=>h) ?_;simp only [Act.put,zY08,zY0n,zY0o])
    refine zj4 15 (by kernel_rfl) rfl ?_
    go_wp2_with fail
    refine (hS.write (l:=l) (by repeat (first|with_reducible exact At.z|apply At.s)) hΔ _ (by simp [ByteArray.size];omega)).mono ?_
    clear hS
    rintro e W2 ⟨⟨v,rfl⟩,hS⟩
    go_wp2_with fail
    (refine ⟨fun h=>z0g0 (by kernel_rfl) h,?_⟩;try simp only [Act.put,zY08,zY0n,zY0o])
    refine zkz (by kernel_rfl) ?_
    go_wp2_with fail
    rw [show l++105::110::32::(itoa ptx++32::(itoa pat++58::((z3g key).1++[10])))=l++z3l ⟨⟨ptx,pat⟩,key⟩ by simp [z3l]] at hS
    go_roundw
    case measure=>simp [intOf];omega
    case rel=>exact ⟨k+1,by omega,by go_num,l++z3l ⟨⟨ptx,pat⟩,key⟩,by simp [z3l];omega,Lib.hid (by rw [z3h HX.out,HL.out];simp),hS.sub (by repeat (with_reducible exact Sub.refl))⟩
   ·obtain rfl:k=n:=by omega
    have d2:=(hS.below.cell (p:=⟨gt,2,none⟩) gl).trans b2
    have HL2:Hid (l=z4y ⟨h,ins,outs⟩++ins.flatMap z3l):=Lib.hid (by rw [HL.out,zY0t (by have:=L1.out;omega)])
    clear HL
    go_wp2_with fail
    clear d2
    go_loopw [11,12,13,58] (fun _ _ _ i wr=>∃ k:Nat,k≤n2∧i = .int .i64 k∧∃ m:List UInt8,m.length≤l.length+200 * k∧Hid (m=l++(outs.take k).flatMap z2s)∧Sep Wb (Lt Wb.heap.size) (sb Wb.heap.size m::rds outs A2 n2 c2 shOut::[]) wr) (fun _ _ _ i _=>n2 - (intOf i).toNat)
    case atStart=>exact ⟨0,by omega,rfl,l,by omega,Lib.hid (by simp),hS.sub (by repeat (first|with_reducible exact Sub.nil|refine Sub.take (by repeat (first|with_reducible exact Del.z|apply Del.s)) ?_))⟩
    case round =>
     clear hS
     obtain ⟨k,hk,rfl,m,hm,HM,hS⟩:=hrel
     rcases Classical.em (k<n2) with hlt|hlt
     ·(have hO:=hS.elemOut (xs:=outs) (by repeat (first|with_reducible exact At.z|apply At.s)) hlt;clear hS;obtain ⟨b,off,x,A1,n1,c1,rfl,hx,j1,hS⟩:=hO)
      have HX:=Lib.hid hx
      have k1:(0:Int)≤(k:Int):=by omega
      have k2:(k:Int)<(n2:Int):=by omega
      clear hx
      obtain ⟨coin,lock⟩:=x
      simp only at j1 hS
      (go_wp2_with (first|(refine Sep.wloadNz hS (by rfl) rfl rfl (by repeat (first|with_reducible exact At.z|apply At.s)) (za5 rfl) ?_)|(refine Sep.walloc hS (by rfl) rfl (by first|exact z_op|exact z0vh) ?_;clear hS;intro g W hS)|(refine Sep.wstoreNb hS (by rfl) rfl rfl rfl (za5 rfl) (by simp [zlz,Value.oneCell']) (by repeat (first|with_reducible exact At.z|apply At.s)) (by rfl) (by repeat (first|with_reducible exact Put.z|apply Put.s)) ?_;clear hS;intro W hS;refine Stop.go ?_));refine Stop.mk ?_)
      have x1:=hS.boxCell (g:=g) (cs:=[.int .i64 coin,.slice A1 n1 c1]) (by repeat (with_reducible exact At.z)) 1 _ rfl
      go_wp2_with fail
      refine (hS.old (zl0 lock ⟨fun b hb=>hb,hG1.on hS.below⟩ (hS.ltsRds (by repeat (first|with_reducible exact At.z|apply At.s))))).mono ?_;clear hS;rintro e W ⟨rfl,hS⟩
      clear x1
      have lp:=zcj lock
      have l1:=z6o coin j1
      have x0:=hS.boxCell (g:=g) (cs:=[.int .i64 coin,.slice A1 n1 c1]) (by repeat (with_reducible exact At.z)) 0 _ rfl
      go_wp2_with fail
      refine (hS.old (zbr coin j1 (hG1.on hS.below))).mono ?_;clear hS;rintro e W ⟨rfl,hS⟩
      clear x0
      go_wp2_with fail
      refine (hS.write (l:=m) (by repeat (first|with_reducible exact At.z|apply At.s)) hΔ _ (by simp [ByteArray.size];omega)).mono ?_
      clear hS
      rintro e W2 ⟨⟨v,rfl⟩,hS⟩
      go_wp2_with fail
      have e2:((⟨#[111,117,116,32]⟩:ByteArray)++⟨(itoa coin).toArray⟩++⟨#[58]⟩++⟨(z3g lock).1.toArray⟩++⟨#[10]⟩).data.toList=z2s ⟨coin,lock⟩:=by simp [ByteArray.data_append,z2s]
      rw [e2] at hS
      clear e2
      go_roundw
      case measure=>simp [intOf];omega
      case rel=>exact ⟨k+1,by omega,by go_num,m++z2s ⟨coin,lock⟩,by simp [z2s];omega,Lib.hid (by rw [z3h HX.out,HM.out];simp),hS.sub (by repeat (first|with_reducible exact Sub.nil|refine Sub.take (by repeat (first|with_reducible exact Del.z|apply Del.s)) ?_))⟩
     ·obtain rfl:k=n2:=by omega
      go_wp2_with fail
      refine (hS.text (by repeat (with_reducible exact At.z))).mono ?_
      clear hS
      rintro e W3 ⟨rfl,hB⟩
      have hS:=hSo.belows hB
      go_wp2_with fail
      have em:m=z0m ⟨h,ins,outs⟩:=by rw [HM.out,HL2.out,zY0t (by have:=L2.out;omega)];rfl
      rw [em]
      refine bodyPost_ret (zgz rfl (by exact Got.tmp rfl) (by exact Got.tmp rfl)) rfl ?_
      exact ⟨by rw [HR.out];rfl,hS.sub (by repeat (first|with_reducible exact Sub.refl|apply Sub.skip))⟩
 ·have q:((zm t) != 0)=true:=by simp [h0]
  have HR:Hid (R=([],zm t)):=Lib.hid (by rw [HP.out,if_pos h0])
  clear h0 HP
  go_wp2_with fail
  refine bodyPost_ret (zgz rfl (by exact Got.tmp rfl) (by exact Got.tmp rfl)) rfl ?_
  exact ⟨by rw [HR.out];rfl,hS.sub (by repeat (first|with_reducible exact Sub.refl|apply Sub.skip))⟩
end
end Go.Proofs.YtaddehddalnliaaGreatDoor
