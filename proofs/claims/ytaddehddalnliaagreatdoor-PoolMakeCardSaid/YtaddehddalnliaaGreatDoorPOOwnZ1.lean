/- Own texts, put together by wip/bundle.py: VdW, VdX, VdY1, VdY2, VdY3, VdY, VT0, VT1, VU1, VEr0, VU2, VS1, VS2, VS3, VTK, VT2, VT3, VT4, VL0, VL1, VL2, VL3, VLP, VL4, VB1, VB2, VB3, VL7, VS4, VB4, VR1, VR6, VU3. -/
import Derived.Test.YtaddehddalnliaaGreatDoorProg
import Derived.KernelRfl
import Derived.Lib.ItoaNum
import Derived.Lib.AtoiAll
import Derived.Lib.Join
import Derived.Lib.Split
import Derived.Test.YtaddehddalnliaaGreatDoorShelf3
import Derived.Lib.AppendIntMem
import Derived.Lib.SmallJoins
import Derived.Lib.FieldsLaws
import Derived.Test.YtaddehddalnliaaGreatDoorPOOwnB
import Derived.Test.YtaddehddalnliaaGreatDoorPOOwnC
import Derived.Test.YtaddehddalnliaaGreatDoorPOOwnR
import Derived.Test.YtaddehddalnliaaGreatDoorPOOwnS
import Derived.Test.YtaddehddalnliaaGreatDoorPOOwnV2
set_option linter.unusedVariables false
set_option linter.unusedSimpArgs false
namespace Go.Proofs.YtaddehddalnliaaGreatDoor
section
open Go.RowKit
def zle:zic:=[(3,⟨1,false,[.i .i64 0],[],false,none,some .i64,none,none⟩),(5,⟨1,false,[.i .u8 0],[],false,none,some .u8,none,none⟩),(233,⟨1,false,[.i .u64 0],[],false,none,some .u64,none,none⟩),(4,⟨1,false,[.b false],[],false,none,none,none,none⟩),(9,⟨1,false,[.s []],[],false,none,none,none,none⟩),(31,⟨1,false,[.i .i64 0],[],false,none,some .i64,none,none⟩),(58,⟨1,false,[.nil 1],[],false,some (3,1,8),none,none,none⟩),(22,⟨1,false,[.nil 1],[],false,some (9,1,16),none,none,none⟩),(47,⟨1,false,[.nil 2],[],false,some (103,2,16),none,none,none⟩),(164,⟨1,false,[.nil 2],[],false,some (97,2,16),none,none,none⟩),(27,⟨1,false,[.nil 3],[],false,some (105,3,40),none,none,none⟩),(28,⟨1,false,[.nil 2],[],false,some (99,2,32),none,none,none⟩),(26,⟨1,false,[.nil 3],[],false,some (30,3,56),none,none,none⟩),(25,⟨1,false,[.nil 6],[],false,some (101,6,64),none,none,none⟩),(57,⟨1,false,[.nil 1],[],false,some (111,1,24),none,none,none⟩),(73,⟨1,false,[.nil 5],[],false,some (49,5,56),none,none,none⟩),(202,⟨1,false,[.nil 1],[],false,some (25,1,24),none,none,none⟩),(196,⟨1,false,[.nil 1],[],false,some (22,1,24),none,none,none⟩),(179,⟨1,false,[.er],[],false,none,none,none,none⟩),(103,⟨2,true,[.i .i64 0,.i .i64 0],[(0,1),(1,1)],true,none,none,none,none⟩),(97,⟨2,true,[.i .i64 0,.i .i64 0],[(0,1),(1,1)],true,none,none,none,none⟩),(105,⟨3,true,[.i .i64 0,.i .i64 0,.nil 2],[(0,2),(2,1)],false,none,none,none,none⟩),(99,⟨2,true,[.i .i64 0,.nil 2],[(0,1),(1,1)],false,none,none,none,none⟩),(30,⟨3,true,[.i .i64 0,.nil 3,.nil 2],[(0,1),(1,1),(2,1)],false,none,none,none,none⟩),(24,⟨1,true,[.nil 1],[(0,1)],false,none,none,none,none⟩),(101,⟨6,true,[.i .i64 0,.i .i64 0,.i .i64 0,.nil 2,.i .i64 0,.b false],[(0,2),(2,2),(4,1),(5,1)],false,none,none,none,none⟩),(111,⟨1,true,[.nil 6],[(0,1)],false,none,none,none,none⟩),(49,⟨5,true,[.i .i64 0,.i .i64 0,.i .i64 0,.i .i64 0,.nil 3],[(0,1),(1,1),(2,1),(3,1),(4,1)],false,none,none,none,none⟩),(75,⟨2,true,[.nil 1,.nil 5],[(0,1),(1,1)],false,none,none,none,none⟩),(268,⟨3,true,[.nil 1,.i .i64 0,.b false],[(0,1),(1,1),(2,1)],false,none,none,none,none⟩),(266,⟨1,false,[],[],false,none,none,none,none⟩),(149,⟨2,true,[.i .i64 0,.i .i64 0],[],false,none,none,some (2,3),none⟩),(210,⟨14,true,[.s [],.s [],.s [],.s [],.s [],.s [],.s [],.s [],.s [],.s [],.s [],.s [],.s [],.s []],[],false,none,none,some (14,9),none⟩),(241,⟨2,true,[.nil 2,.nil 2],[],false,none,none,some (2,47),none⟩),(148,⟨2,true,[.nil 1,.nil 1],[],false,none,none,some (2,58),none⟩),(143,⟨1,false,[],[],false,none,none,none,some (3,3)⟩)]
theorem zr3:tabB Tryz.prog zle=true:=by kernel_rfl
theorem zxk:Tryz.prog.follows .mixedOrders=true:=by kernel_rfl
def z6s (f:Nat) (fn:Func) (hints:List Hint) (cut:List Nat):FnI:=⟨f,fn.ntmps,hints,cut,fn.results.toList,fn.body.getD .skip⟩
def fxOf (ty:zic) (sigs:List (Nat × Sig)) (fn:Func) (cut:List Nat) (hints:List Hint) (fns:List FnI) (dep:Nat):Fx :=
 ⟨⟨ty,sigs,cut⟩,fn.ntmps,hints,fns,4 * fn.ntmps+dep * 400,if dep=0 then 4 * fn.ntmps+10 else 4 * fn.ntmps+dep * 400+100,dep,4⟩
def fxIn (ty:zic) (sigs:List (Nat × Sig)) (fn:Func) (cut:List Nat) (hints:List Hint) (fns:List FnI) (dep pool:Nat):Fx:=⟨⟨ty,sigs,cut⟩,fn.ntmps,hints,fns,pool,pool+80,dep,1⟩
theorem z0i8 {sp:Nat→z9} {sigs:List (Nat × Sig)} {cut:List Nat} {hints:List Hint} {sig:Sig} {f:Nat} {fn:Func} {t:T} {spec:z9} {fns:List FnI} {dep pool:Nat} (hf:Tryz.prog.funcs[f]? = some fn) (hname:(fn.name == "runtime.NumGoroutine")=false)
  (hdec:decomp (fxIn zle sigs fn cut hints fns dep pool) sig fn=some t) (hfn:∀ g ∈ fns,zcb Tryz.prog g) (hsig:∀ ci f s,sigs[ci]? = some (f,s)→Meets Tryz.prog (sp ci) f s) (hspec:∀ ds rs,(∀ d ∈ ds,d.ok)→spec ds=some rs→(∃ N,den sp N t ds []=some rs)∧z6m sig rs):Meets Tryz.prog spec f sig :=
 zxc hf hname hdec zr3 zxk hfn hsig hspec
theorem z6t {P:Program}:∀ g ∈ ([]:List FnI),zcb P g:=fun g h=>by cases h
theorem z1x {P:Program} {g:FnI} {l:List FnI} {fn:Func} (h1:P.funcs[g.f]? = some fn) (h2:(fn.name == "runtime.NumGoroutine")=false) (h3:fn.body=some g.body) (h4:fn.ntmps=g.nt) (h5:fn.results.toList=g.results) (hl:∀ g ∈ l,zcb P g):∀ x ∈ g::l,zcb P x:=by
 intro x hx;rcases zY0i.1 hx with he|hx
 ·rw [he];exact ⟨fn,h1,h2,h3,h4,h5⟩
 ·exact hl x hx
theorem z5q {sp:Nat→z9} {sigs:List (Nat × Sig)} {cut:List Nat} {hints:List Hint} {sig:Sig} {f:Nat} {fn:Func} {t:T} {spec:z9} (hf:Tryz.prog.funcs[f]? = some fn) (hname:(fn.name == "runtime.NumGoroutine")=false)
  (hdec:decomp (fxOf zle sigs fn cut hints [] 0) sig fn=some t) (hsig:∀ ci f s,sigs[ci]? = some (f,s)→Meets Tryz.prog (sp ci) f s) (hspec:∀ ds rs,(∀ d ∈ ds,d.ok)→spec ds=some rs→(∃ N,den sp N t ds []=some rs)∧z6m sig rs):Meets Tryz.prog spec f sig :=
 zxc hf hname hdec zr3 zxk (fun g h=>by cases h) hsig hspec
theorem z23 {P:Program} {f:Nat} {fn:Func} (h1:P.funcs[f]? = some fn) (h2:(fn.name == "runtime.NumGoroutine")=false) (h3:fn.body.isSome=true):En P f:=by
 obtain ⟨c,hc⟩:=zY2r.1 h3;exact ⟨fn,c,h1,h2,hc⟩
section
variable {P:Program} {W W':World} {F F':Nat→Prop}
theorem zf7 {s:Sig} {rs:List Dt} {v:Value} {us:List Value} (hv:znm s.res v us) (hc:∀ c ∈ zn s,c = .scal∨c = .pure) (hs:∀ (j:Nat) (d:Dt),(zn s)[j]? = some .scal→rs[j]? = some d→d.scal=true)
  (hl:rs.length=(zn s).length) (hr:Reps W' F' rs us) (hF':∀ b,F' b→F b∨(W.heap.size≤b∧b<W'.heap.size)):ResR W F W' s rs v us F' where
 val:=hv
 lrs:=hl
 lus:=by rw [← hr.len,hl]
 cells:=fun j f d u hf hd hu=>by
  obtain ⟨u',hu',hR⟩:=hr.get hd;rw [hu] at hu'
  cases hu'
  rcases hc f (zY0f hf) with rfl|rfl
  ·exact ⟨hs j d hf hd,hR⟩
  ·exact hR
 own:=hF'
 apart:=fun j e sz u b hf=>by rcases hc _ (zY0f hf) with h|h <;> cases h
 dj:=fun j j' e sz e' sz' u u' b hf=>by rcases hc _ (zY0f hf) with h|h <;> cases h
theorem z5a {α β:Type} {S:Sh β} {eS:β→List Dt} (hE:ShE S eS) {e:α→List Dt} {xs:α→List β} {pk:List PK} {t sz:Nat} {f:Nat} (hpk:z41 pk=false) (hsz:S.size=sz) (hpos:0<S.size) (hen:En P f)
  (h:∀ x W F us,(∀ b,F b→b<W.heap.size)→PKRs W F pk (e x) us→Calls P f us.toArray W fun r W'=>∃ n,z63 S t W F (xs x) n r W') :
  Meets P (z00 e fun x=>[.l sz ((xs x).map eS)]) f ⟨pk,[(false,[.fresh t sz])],false⟩:=by
 refine .mk hpk ?_;intro W F ds args rs hF hargs hsp;obtain ⟨x,rfl,rfl⟩:=z2p hsp;refine .inl ⟨hen.run _ _,(h x W F args hF.1 hargs).mono ?_⟩;rintro r W' ⟨n,v,zs,rfl,hz,hr,ho,hb⟩;subst hsz;have hag:Agree F W W':=fun b hb'=>hb.block b (hF.1 b hb')
 have hzl:zs.length=n:=by
  have h1:=ho.1;rw [z31 fun z hz=>S.len (hr z hz)] at h1;exact Nat.eq_of_mul_eq_mul_right hpos h1
 refine ⟨v,rfl,hb,[v],F,⟨⟨rfl,rfl⟩,rfl,rfl,fun j c d u hf hd hu=>?_,fun b hb=>.inl hb,fun j e' sz' u b hf hu hbl hFb=>?_,fun j j' e sz e' sz' u u' b hf hu hf' hu' _ _=>?_⟩⟩
 ·cases j with
  | succ j=>simp [zn] at hf
  | zero =>
   simp only [zn,zY1u,zY34,zY23,zY04,zY00] at hf hd hu;subst hf;subst hd;subst hu;refine ⟨_,flat zs,rfl,fun y hy=>?_,?_,?_⟩
   ·obtain ⟨z,_,rfl⟩:=zY2q.1 hy
    exact hE.len z
   ·rw [zY0w,← hz,zY0w,hzl];exact ho
   ·rw [← hz]
    clear ho hz hzl
    induction zs with
    | nil=>exact trivial
    | cons z zs ih =>
     simp only [flat,zY1t,zY1k];exact (hE.to (S.keep hag (hr z (zY0h ..)))).append (ih fun z hz=>hr z (zY0d _ hz))
 ·cases j with
  | succ j=>simp [zn] at hf
  | zero =>
   simp only [zY04,zY00] at hu;subst hu;have h1:=ze5 ho hbl;have h2:=hF.1 b hFb;omega
 ·cases j <;> cases j' <;> simp [zn] at hf hf' ⊢
theorem za5 {α:Type} {e:α→List Dt} {d:α→Dt} {pk:List PK} {f:Nat} (hpk:z41 pk=false) (hen:En P f) (hd:∀ x,(d x).scal=true)
  (h:∀ x W F us,(∀ b,F b→b<W.heap.size)→PKRs W F pk (e x) us→Calls P f us.toArray W fun r W'=>∃ v,r = .returned v∧Below W.heap.size W W'∧Rep W' (fun _=>False) (d x) v):Meets P (z00 e fun x=>[d x]) f ⟨pk,[(false,[.scal])],true⟩:=by
 refine .mk hpk ?_;intro W F ds args rs hF hargs hs;obtain ⟨x,rfl,rfl⟩:=z2p hs;refine .inl ⟨hen.run _ _,(h x W F args hF.1 hargs).mono fun e w' ⟨v,h1,h2,h3⟩=>⟨v,h1,h2,zjw (hd x) (h3.mono (fun _ h=>h.elim) (fun _ h=>h.elim))⟩⟩
end
end
section
open Go.RowKit
section
variable {sp:Nat→z9} {N:Nat} {E:Env} {ks:List (List Dt→Option (List Dt))} {res:Option (List Dt)}
theorem z0b9 {ci:Nat} {args:List Atom} {xs:List X} {ds rs:List Dt} (hx:xs=(List.range rs.length).map fun j=>.call ci args j) (h:vals E args=some ds) (hs:sp ci ds=some rs):z0f sp E xs=some rs:=hx ▸ zr0 h hs
theorem z7f {a b:Atom} {m n:Int} (ha:a.val E=some (I m)) (hb:b.val E=some (I n)) (h : -9223372036854775808≤m+n∧m+n≤9223372036854775807):denX sp E (.bin .add a b)=some (I (m+n)):=by
 have e:denX sp E (.bin .add a b)=some (I (IntKind.i64.wrap (m+n))):=by simp only [denX,ha,hb,zY08,zY05];rfl
 rw [e,wrap_i64 h]
end
section
variable {sp:Nat→z9} {N:Nat} {E:Env} {ks:List (List Dt→Option (List Dt))} {res:Option (List Dt)}
theorem z0lj {a b:Atom} {m n:Int} (ha:a.val E=some (I m)) (hb:b.val E=some (I n)) (h:m=n):denX sp E (.bin .neq a b)=some (.b false):=by
 have e:denX sp E (.bin .neq a b)=some (.b (!decide (m=n))):=by simp only [denX,ha,hb,zY08,zY05];rfl
 rw [e,decide_eq_true h];rfl
theorem z0h {a:Atom} {t e:T} (h:a.val E=some (.b true)) (ht:den sp N t E ks=res):den sp N (.ite a t e) E ks=res:=z1b h (fun _=>ht) (fun h=>by cases h)
theorem z0m {a:Atom} {t e:T} (h:a.val E=some (.b false)) (he:den sp N e E ks=res):den sp N (.ite a t e) E ks=res:=z1b h (fun h=>by cases h) (fun _=>he)
theorem z20 {a:Atom} {sz:Nat} {xs:List (List Dt)} {n:Int} (ha:a.val E=some (.l sz xs)) (h:(xs.length:Int)=n):denX sp E (.len a)=some (I n):=by
 simp only [denX,ha];rw [h]
end
section
variable {sp:Nat→z9} {N:Nat} {E:Env} {ks:List (List Dt→Option (List Dt))} {res:Option (List Dt)}
theorem z0lk {a b:Atom} {m n:Int} (ha:a.val E=some (I m)) (hb:b.val E=some (I n)) (h : -9223372036854775808≤m - n∧m - n≤9223372036854775807):denX sp E (.bin .sub a b)=some (I (m - n)):=by
 have e:denX sp E (.bin .sub a b)=some (I (IntKind.i64.wrap (m - n))):=by simp only [denX,ha,hb,zY08,zY05];rfl
 rw [e,wrap_i64 h]
theorem ze6 {a b:Atom} {m n:Int} (ha:a.val E=some (I m)) (hb:b.val E=some (I n)) (h : -9223372036854775808≤m * n∧m * n≤9223372036854775807):denX sp E (.bin .mul a b)=some (I (m * n)):=by
 have e:denX sp E (.bin .mul a b)=some (I (IntKind.i64.wrap (m * n))):=by simp only [denX,ha,hb,zY08,zY05];rfl
 rw [e,wrap_i64 h]
theorem znt {a b:Atom} {m n:Int} (ha:a.val E=some (I m)) (hb:b.val E=some (I n)) (h:n≠0):denX sp E (.bin .rem a b)=some (I (m.tmod n)):=by
 have e:denX sp E (.bin .rem a b)=(if n=0 then none else some (I (m.tmod n))):=by simp only [denX,ha,hb,zY08,zY05];rfl
 rw [e,if_neg h]
theorem zxl {F:(List Dt→Option (List Dt))→List Dt→Option (List Dt)} {σ:Type} {st:σ→List Dt} {Inv:σ→Prop} {μ:σ→Nat} (step:∀ s,Inv s→∀ again,(∀ s',Inv s'→μ s'<μ s→again (st s')=res)→F again (st s)=res):∀ (N:Nat) (s:σ),Inv s→μ s<N→z04 F N (st s)=res
 | 0,s,_,h=>absurd h (Nat.not_lt_zero _)
 | N+1,s,hi,h=>step s hi _ fun s' h1 h2=>zxl step N s' h1 (by omega)
theorem zgv {ats:List Atom} {body:T} {σ:Type} (st:σ→List Dt) (Inv:σ→Prop) (μ:σ→Nat) (s0:σ) (h:vals E ats=some (st s0)) (h0:Inv s0) (hN:μ s0<N)
  (step:∀ s,Inv s→∀ again:List Dt→Option (List Dt),(∀ s',Inv s'→μ s'<μ s→again (st s')=res)→den sp N body (E++st s) (ks++[again])=res):den sp N (.loop ats body) E ks=res :=
 z0r h (zxl (F:=fun again ds=>den sp N body (E++ds) (ks++[again])) step N s0 h0 hN)
end
theorem zy {pk:List PK} {l:Bool} {d:Dt} (h:d.scal=true):z6m ⟨pk,[(false,[.scal])],l⟩ [d]:=by
 intro i x hi hd
 match i,hi,hd with
 | 0,_,hd=>simp only [zY04,zY00] at hd;subst hd;exact h
 | i+1,_,hd=>simp at hd
theorem zf8 {pk:List PK} {l:Bool} {d d':Dt} (h:d.scal=true) (h':d'.scal=true):z6m ⟨pk,[(false,[.scal]),(false,[.scal])],l⟩ [d,d']:=by
 intro i x hi hd
 match i,hi,hd with
 | 0,_,hd=>simp only [zY04,zY00] at hd;subst hd;exact h
 | 1,_,hd=>simp only [zY04,zY2a,zY00] at hd;subst hd;exact h'
 | i+2,_,hd=>simp at hd
theorem z062 {s:Sig} {ds:List Dt} (h:∀ c ∈ zn s,c.isScal=false):z6m s ds:=by
 intro i x hi hd;have:=h _ (zY0f hi)
 cases this
theorem zr4 {P:Program} {spec:z9} {f:Nat} {pk:List PK} {e sz:Nat} {b:Bool} (hpk:z41 pk=false) (h:Meets P spec f ⟨pk,[(false,[.fresh e sz])],b⟩):Meets P spec f ⟨pk,[(false,[.pure])],b⟩ :=
 .mk hpk fun W F ds args rs hF ha hs=>by
  have key:∀ v W',(Below W.heap.size W W'∧∃ us F',ResR W F W' ⟨pk,[(false,[.fresh e sz])],b⟩ rs v us F')→(Below W.heap.size W W'∧∃ us F',ResR W F W' ⟨pk,[(false,[.pure])],b⟩ rs v us F'):=by
   rintro v W' ⟨hb,us,F',hR⟩;obtain ⟨rfl,-⟩:=hR.val;have hl:=hR.lrs
   match rs,hl,hR with
   | [d],_,hR =>
    obtain ⟨xs,vs,rfl,h2,h3,h4⟩:=hR.cells 0 (.fresh e sz) d v rfl rfl rfl;have hr:Rep W' (fun b=>F' b∨v.ownBlock=some b) (.l sz xs) v:=zii h2 h3 h4 (fun _ h=>.inl h) (fun g hg=>.inr hg);refine ⟨hb,[v],_,zf7 (F':=fun b=>F' b∨v.ownBlock=some b) ⟨rfl,rfl⟩ (fun c hc=>?_) (fun j d hj _=>?_) rfl ⟨hr,trivial⟩ (fun g hg=>?_)⟩
    ·simp [zn] at hc
     exact .inr hc
    ·cases j <;> simp [zn] at hj
    ·rcases hg with hg|hg
     ·exact hR.own g hg
     ·exact .inr (z33 h3 hg)
  rcases h.1 hpk W F ds args rs hF ha hs with ⟨h1,h2⟩|⟨v,W',h1,h2⟩
  ·exact .inl ⟨h1,h2.mono fun e W' ⟨v,h3,h4⟩=>⟨v,h3,key v W' h4⟩⟩
  ·exact .inr ⟨v,W',h1,key v W' h2⟩
end
end Go.Proofs.YtaddehddalnliaaGreatDoor
noncomputable section
namespace Go.Proofs.YtaddehddalnliaaGreatDoor
open Go.RowKit
inductive Tri (α:Type) where
 | lf (x:α)
 | nd (n:Nat) (l r:Tri α)
 | em
def Tri.get {α:Type} (t:Tri α):Nat→Option α :=
 Tri.rec (motive:=fun _=>Nat→Option α) (fun x i=>Nat.rec (motive:=fun _=>Option α) (some x) (fun _ _=>none) i) (fun n _ _ gl gr i=>Bool.rec (motive:=fun _=>Option α) (gr (Nat.sub i n)) (gl i) (Nat.blt i n)) (fun _=>none) t
def Tri.set {α:Type} (t:Tri α):Nat→α→Tri α :=
 Tri.rec (motive:=fun _=>Nat→α→Tri α) (fun x i v=>Nat.rec (motive:=fun _=>Tri α) (.lf v) (fun _ _=>.lf x) i) (fun n l r sl sr i v=>Bool.rec (motive:=fun _=>Tri α) (.nd n l (sr (Nat.sub i n) v)) (.nd n (sl i v) r) (Nat.blt i n)) (fun _ _=>.em) t
def Tri.any {α:Type} (f:α→Bool) (t:Tri α):Bool:=Tri.rec (motive:=fun _=>Bool) (fun x=>f x) (fun _ _ _ a b=>Bool.rec (motive:=fun _=>Bool) b true a) false t
def Tri.all {α:Type} (f:α→Bool) (t:Tri α):Bool:=Tri.rec (motive:=fun _=>Bool) (fun x=>f x) (fun _ _ _ a b=>Bool.rec (motive:=fun _=>Bool) false b a) true t
def Tri.map {α β:Type} (f:α→β) (t:Tri α):Tri β:=Tri.rec (motive:=fun _=>Tri β) (fun x=>.lf (f x)) (fun n _ _ a b=>.nd n a b) .em t
def Tri.all2 {α:Type} (f:α→α→Bool) (t:Tri α):Tri α→Bool :=
 Tri.rec (motive:=fun _=>Tri α→Bool) (fun x u=>Tri.rec (motive:=fun _=>Bool) (fun y=>f x y) (fun _ _ _ _ _=>false) false u) (fun n _ _ a b u=>Tri.rec (motive:=fun _=>Bool) (fun _=>false) (fun m l r _ _=>Bool.rec (motive:=fun _=>Bool) false (Bool.rec (motive:=fun _=>Bool) false (b r) (a l)) (Nat.beq n m)) false u) (fun u=>Tri.rec (motive:=fun _=>Bool) (fun _=>false) (fun _ _ _ _ _=>false) true u) t
def Tri.size {α:Type} (t:Tri α):Nat:=Tri.rec (motive:=fun _=>Nat) (fun _=>1) (fun n _ _ _ b=>Nat.add n b) 0 t
def Tri.rep {α:Type} (x:α):Nat→Nat→Tri α
 | 0,_=>.em
 | d+1,n=>match n with
  | 0=>.em
  | 1=>.lf x
  | n=>.nd (n / 2) (Tri.rep x d (n / 2)) (Tri.rep x d (n - n / 2))
def Tri.puts {α:Type}:Nat→List α→Tri α→Tri α
 | _,[],t=>t
 | i,x::xs,t=>Tri.puts (i+1) xs (t.set i x)
def zcf {α:Type} (τ:Tri SV) (ω:Tri (Option Ob)) (m:Rd α):Option α :=
 Rd.rec (motive:=fun _=>Option α) (fun a=>some a) none (fun i _ ih=>Option.rec (motive:=fun _=>Option α) none (fun x=>ih x) (τ.get i)) (fun i _ ih=>Option.rec (motive:=fun _=>Option α) none (fun x=>ih x) (ω.get i)) m
def zxm {α:Type} (τ:Tri SV) (ω:Tri (Option Ob)) (m:Rd α):List Loc :=
 Rd.rec (motive:=fun _=>List Loc) (fun _=>[]) [] (fun i _ ih=>Option.rec (motive:=fun _=>List Loc) [] (fun x=>.t i::ih x) (τ.get i)) (fun i _ ih=>Option.rec (motive:=fun _=>List Loc) [] (fun x=>.o i::ih x) (ω.get i)) m
structure SF where
 τ:Tri SV
 ω:Tri (Option Ob)
 n:Nat
 lvl:Nat
 kn:List (Nat × Bool)
 kb:Nat
 σ:List (Tri SV)
def fN {β:Type} (n:Nat) (k:Nat→β):β:=Nat.rec (motive:=fun _=>β) (k 0) (fun m _=>k (Nat.succ m)) n
def fL {α β:Type} (f:α→(α→β)→β) (l:List α):(List α→β)→β:=List.rec (motive:=fun _=>(List α→β)→β) (fun k=>k []) (fun x _ ih k=>f x fun x=>ih fun xs=>k (x::xs)) l
def fA {β:Type} (a:Atom) (k:Atom→β):β:=match a with
 | .v n=>fN n fun n=>k (.v n)
 | .c l=>k (.c l)
def fOp {β:Type} (o:Option Atom) (k:Option Atom→β):β:=match o with
 | none=>k none
 | some a=>fA a fun a=>k (some a)
def fPr {β:Type} (p:Atom × Atom) (k:Atom × Atom→β):β:=fA p.1 fun a=>fA p.2 fun b=>k (a,b)
def fX {β:Type} (x:X) (k:X→β):β:=match x with
 | .bin op a b=>fA a fun a=>fA b fun b=>k (.bin op a b)
 | .eqs n ps=>fL fPr ps fun ps=>k (.eqs n ps)
 | .beq n a b=>fA a fun a=>fA b fun b=>k (.beq n a b)
 | .not a=>fA a fun a=>k (.not a)
 | .neg a=>fA a fun a=>k (.neg a)
 | .conv c a=>fA a fun a=>k (.conv c a)
 | .len a=>fA a fun a=>k (.len a)
 | .slen a=>fA a fun a=>k (.slen a)
 | .inr s a i=>fN s fun s=>fA a fun a=>fA i fun i=>k (.inr s a i)
 | .idx a i j=>fA a fun a=>fA i fun i=>fN j fun j=>k (.idx a i j)
 | .sub s a l h=>fN s fun s=>fA a fun a=>fOp l fun l=>fOp h fun h=>k (.sub s a l h)
 | .mk s r=>fN s fun s=>fL (fL fA) r fun r=>k (.mk s r)
 | .app s a b=>fN s fun s=>fA a fun a=>fA b fun b=>k (.app s a b)
 | .set a i j vs=>fA a fun a=>fA i fun i=>fN j fun j=>fL fA vs fun vs=>k (.set a i j vs)
 | .ite c a b=>fA c fun c=>fA a fun a=>fA b fun b=>k (.ite c a b)
 | .scal a=>fA a fun a=>k (.scal a)
 | .call c l j=>fN c fun c=>fL fA l fun l=>fN j fun j=>k (.call c l j)
 | .sel l i=>fL fA l fun l=>fA i fun i=>k (.sel l i)
 | .ssub a l h=>fA a fun a=>fOp l fun l=>fOp h fun h=>k (.ssub a l h)
 | .mkz s z a=>fN s fun s=>fA a fun a=>k (.mkz s z a)
 | .mn a b=>fA a fun a=>fA b fun b=>k (.mn a b)
 | .ise n a=>fA a fun a=>k (.ise n a)
 | .mget z a i j=>fA a fun a=>fA i fun i=>fN j fun j=>k (.mget z a i j)
 | .mhas a i=>fA a fun a=>fA i fun i=>k (.mhas a i)
 | .mput v a i l=>fN v fun v=>fA a fun a=>fA i fun i=>fL fA l fun l=>k (.mput v a i l)
def fNN {β:Type} (p:Nat × Nat) (k:Nat × Nat→β):β:=fN p.1 fun a=>fN p.2 fun b=>k (a,b)
def fC {β:Type} (c:C1) (k:C1→β):β:=match c with
 | .top=>k .top
 | .und=>k .und
 | .at a=>fA a fun a=>k (.at a)
 | .bp a b=>fN a fun a=>fN b fun b=>k (.bp a b)
 | .ep a i o=>fA a fun a=>fA i fun i=>fN o fun o=>k (.ep a i o)
 | .row a=>fN a fun a=>k (.row a)
 | .rp a i s o=>fN a fun a=>fA i fun i=>fN s fun s=>fN o fun o=>k (.rp a i s o)
 | .fn f cs=>fN f fun f=>fL fNN cs fun cs=>k (.fn f cs)
def fBl {β:Type} (b:Bool) (k:Bool→β):β:=match b with
 | true=>k true
 | false=>k false
def fPt {β:Type} (p:Bool × List C1) (k:Bool × List C1→β):β:=fBl p.1 fun a=>fL fC p.2 fun b=>k (a,b)
def fV {β:Type} (v:SV) (k:SV→β):β:=match v with
 | .one c=>fC c fun c=>k (.one c)
 | .agg cs=>fL fC cs fun cs=>k (.agg cs)
 | .tup ps=>fL fPt ps fun ps=>k (.tup ps)
def fO {β:Type} (o:Option Ob) (k:Option Ob→β):β:=match o with
 | none=>k none
 | some (.box t cs)=>fN t fun t=>fL fC cs fun cs=>k (some (.box t cs))
 | some (.ext cs)=>fL fC cs fun cs=>k (some (.ext cs))
 | some (.row e s a)=>fN e fun e=>fN s fun s=>fA a fun a=>k (some (.row e s a))
 | some (.frz a)=>fA a fun a=>k (some (.frz a))
 | some .dead=>k (some .dead)
 | some (.gone a)=>fA a fun a=>k (some (.gone a))
 | some (.map t v g a)=>fN t fun t=>fN v fun v=>fBl g fun g=>fA a fun a=>k (some (.map t v g a))
def fW {β:Type} (w:Wr) (k:Wr→β):β:=match w with
 | .t i v=>fN i fun i=>fV v fun v=>k (.t i v)
 | .o i v=>fN i fun i=>fO v fun v=>k (.o i v)
def fE {β:Type} (e:Eff) (k:Eff→β):β:=fL fX e.xs fun xs=>fL fX e.ck fun ck=>fL fW e.ws fun ws=>k ⟨xs,ck,ws⟩
def fLo {β:Type} (l:Loc) (k:Loc→β):β:=match l with
 | .t i=>fN i fun i=>k (.t i)
 | .o i=>fN i fun i=>k (.o i)
namespace Fast
def fK {β:Type} (l:List (Nat × Bool)) (k:List (Nat × Bool)→β):β:=match l with
 | []=>k []
 | (a,b)::r=>fN a fun a=>k ((a,b)::r)
def wrT (τ:Tri SV) (ω:Tri (Option Ob)):List Wr→Tri SV × Tri (Option Ob)
 | []=>(τ,ω)
 | .t i v::ws=>wrT (τ.set i v) ω ws
 | .o i v::ws=>wrT τ (ω.set i v) ws
def guardOf (ops:List Oper) (s:SF) (o:Oper):Gd:=match o.guard with
 | none=>.yes
 | some (j,want)=>match (ops[j]?).bind (·.dst) with
  | none=>.fail
  | some d=>match s.τ.get d with
   | some (.one .und)=>.no
   | some (.one (.at a))=>match evB s.kn a with
    | some b=>if b=want then .yes else .no
    | none=>match a with
     | .v v=>.ask v
     | _=>.fail
   | _=>.fail
def regDo (cx:Cx) (nt:Nat) (ops:List Oper) (o:Oper) (s:SF) (k:SF→Rec→Option T):Option T :=
 let m:=zm cx s.kb s.n nt s.kn o
 match zcf s.τ s.ω m with
 | none=>none
 | some e=>fE e fun e=>fN (s.n+e.xs.length) fun n=>fL fLo (z6l ops o++zxm s.τ s.ω m) fun lg =>
  let p:=wrT s.τ s.ω e.ws
  fK (znh cx s.n e.xs s.kn) fun kn =>
  match k { s with τ:=p.1,ω:=p.2,n:=n,kn:=kn } ⟨o,s.n,s.kn,true,e,lg⟩ with
  | none=>none
  | some t=>some (zwh e t)
def regSkip (ops:List Oper) (o:Oper) (s:SF) (k:SF→Rec→Option T):Option T :=
 let e:Eff:=⟨[],[],zx o (.one .und)⟩
 let p:=wrT s.τ s.ω e.ws
 k { s with τ:=p.1,ω:=p.2 } ⟨o,s.n,s.kn,false,e,z6l ops o⟩
def learn (s:SF) (v:Nat) (b:Bool):SF:={ s with kn:=if Nat.ble knB v=true then s.kn else (v,b)::s.kn }
def regRun (cx:Cx) (nt:Nat) (ops:List Oper):List Oper→SF→List Rec→(SF→List Rec→Option T)→Option T
 | [],s,rs,k=>k s rs
 | o::rest,s,rs,k =>
  match guardOf ops s o with
  | .yes=>regDo cx nt ops o s fun s r=>regRun cx nt ops rest s (rs++[r]) k
  | .no=>regSkip ops o s fun s r=>regRun cx nt ops rest s (rs++[r]) k
  | .ask v =>
   let want:=match o.guard with|some (_,w)=>w|none=>true
   match regDo cx nt ops o (learn s v want) (fun s r=>regRun cx nt ops rest s (rs++[r]) k),regSkip ops o (learn s v (!want)) (fun s r=>regRun cx nt ops rest s (rs++[r]) k) with
   | some t,some e=>some (if want then .ite (.v v) t e else .ite (.v v) e t)
   | _,_=>none
  | .fail=>none
abbrev S3:=Tri SV × Tri (Option Ob) × List (Tri SV)
def renKey (k i:Nat) (p:S3):S3:=match p.2.1.get k,p.2.1.get i with
 | some (some o),some none=>if k=i then p else (p.1.map (SV.ren k i),((p.2.1.set k none).set i (some o)).map (Option.map (Ob.ren k i)),p.2.2.map (Tri.map (SV.ren k i)))
 | _,_=>p
def noRef (k:Nat) (τ:Tri SV) (ω:Tri (Option Ob)) (σ:List (Tri SV)):Bool:=!τ.any (SV.refs k) && (!ω.any fun o=>match o with
 | some o=>o.refs k
 | none=>false) && !σ.any (Tri.any (SV.refs k))
def topAll (τ:Tri SV):List Nat→Tri SV
 | []=>τ
 | i::is=>topAll (τ.set i (.one .top)) is
def dropAll (τ:Tri SV) (ω:Tri (Option Ob)) (σ:List (Tri SV)):List Nat→Tri (Option Ob)
 | []=>ω
 | k::ks=>match ω.get k with
  | some (some _)=>if noRef k τ ω σ then dropAll τ (ω.set k none) σ ks else dropAll τ ω σ ks
  | _=>dropAll τ ω σ ks
def rowKey (kb i e sz:Nat) (p:S3):S3 :=
 match p.1.get i with
 | some (.one (.at (.c (.nil z))))=>match p.2.1.get (kb+i) with
  | some none=>if z=sz then (p.1.set i (.one (.row (kb+i))),p.2.1.set (kb+i) (some (.row e sz (.c (.nil sz)))),p.2.2) else p
  | _=>p
 | some (.one (.row k))=>renKey k (kb+i) p
 | _=>p
def cellKey (k j key:Nat) (p:S3):S3:=match p.2.1.get (k) with
 | some (some (.box _ cs))=>match cs[j]? with
  | some (.row q)=>renKey q key p
  | _=>p
 | _=>p
def nilKey (k j key e sz:Nat) (p:S3):S3:=match p.2.1.get k with
 | some (some (.box t cs))=>match cs[j]? with
  | some (.at (.c (.nil z)))=>match p.2.1.get key with
   | some none=>if z=sz then (p.1,(p.2.1.set key (some (.row e sz (.c (.nil sz))))).set k (some (.box t (cs.set j (.row key)))),p.2.2) else p
   | _=>p
  | _=>p
 | _=>p
def rowKeys (kb:Nat) (p:S3):List Cy→S3
 | []=>p
 | .n k j key e sz::cs=>rowKeys kb (nilKey k j key e sz p) cs
 | .r i e sz::cs=>rowKeys kb (rowKey kb i e sz p) cs
 | .c k j key::cs=>rowKeys kb (cellKey k j key p) cs
 | _::cs=>rowKeys kb p cs
def normS (ds:List Nat) (cy:List Cy) (s:SF):S3 :=
 let keep:=cyT cy
 let τ:=topAll s.τ ((ds.filter fun d => !keep.contains d)++cyZ cy)
 let ω:=dropAll τ s.ω s.σ (List.range s.ω.size)
 rowKeys s.kb (τ,ω,s.σ) cy
def genL (kb n:Nat) (τ:Tri SV) (ω:Tri (Option Ob)):Cy→(Tri SV × Tri (Option Ob)) × List Atom
 | .t i=>match τ.get i with
  | some (.one (.at a))=>((τ.set i (.one (.at (.v n))),ω),[a])
  | some (.agg cs)=>let r:=zni n cs;((τ.set i (.agg r.1),ω),r.2)
  | _=>((τ,ω),[])
 | .r i _ _=>match ω.get (kb+i) with
  | some (some (.row e sz a))=>((τ,ω.set (kb+i) (some (.row e sz (.v n)))),[a])
  | _=>((τ,ω),[])
 | .o k | .c _ _ k=>match ω.get k with
  | some (some (.row e sz a))=>((τ,ω.set k (some (.row e sz (.v n)))),[a])
  | some (some (.box t cs))=>let r:=zni n cs;((τ,ω.set k (some (.box t r.1))),r.2)
  | some (some (.map t vs g a))=>((τ,ω.set k (some (.map t vs g (.v n)))),[a])
  | _=>((τ,ω),[])
 | .z _ | .n .. => ((τ,ω),[])
def gen (kb n:Nat) (τ:Tri SV) (ω:Tri (Option Ob)):List Cy→(Tri SV × Tri (Option Ob)) × List Atom
 | []=>((τ,ω),[])
 | c::cs =>
  let p:=genL kb n τ ω c
  let q:=gen kb (n+p.2.length) p.1.1 p.1.2 cs
  (q.1,p.2++q.2)
def oT (m:Nat):Option Ob→Bool
 | some o=>inO m o
 | none=>true
def bqA (a b:Atom):Bool:=match a,b with
 | .v n,.v m=>Nat.beq n m
 | .c x,.c y=>decide (x=y)
 | _,_=>false
def bqP:List (Nat × Nat)→List (Nat × Nat)→Bool
 | [],[]=>true
 | (a,b)::r,(c,d)::s=>Nat.beq a c && Nat.beq b d && bqP r s
 | _,_=>false
def bqC (a b:C1):Bool:=match a,b with
 | .top,.top=>true
 | .und,.und=>true
 | .at a,.at b=>bqA a b
 | .bp a b,.bp c d=>Nat.beq a c && Nat.beq b d
 | .ep a i o,.ep a' i' o'=>bqA a a' && bqA i i' && Nat.beq o o'
 | .row a,.row b=>Nat.beq a b
 | .rp a i s o,.rp a' i' s' o'=>Nat.beq a a' && bqA i i' && Nat.beq s s' && Nat.beq o o'
 | .fn f cs,.fn g ds=>Nat.beq f g && bqP cs ds
 | _,_=>false
def bqCs:List C1→List C1→Bool
 | [],[]=>true
 | a::r,b::s=>bqC a b && bqCs r s
 | _,_=>false
def bqB (a b:Bool):Bool:=match a with
 | true=>b
 | false => !b
def bqPs:List (Bool × List C1)→List (Bool × List C1)→Bool
 | [],[]=>true
 | (a,b)::r,(c,d)::s=>bqB a c && bqCs b d && bqPs r s
 | _,_=>false
def bqV (a b:SV):Bool:=match a,b with
 | .one a,.one b=>bqC a b
 | .agg a,.agg b=>bqCs a b
 | .tup a,.tup b=>bqPs a b
 | _,_=>false
def bqO (a b:Option Ob):Bool:=match a,b with
 | none,none=>true
 | some (.box t c),some (.box t' c')=>Nat.beq t t' && bqCs c c'
 | some (.ext c),some (.ext c')=>bqCs c c'
 | some (.row e s a),some (.row e' s' a')=>Nat.beq e e' && Nat.beq s s' && bqA a a'
 | some (.frz a),some (.frz a')=>bqA a a'
 | some .dead,some .dead=>true
 | some (.gone a),some (.gone a')=>bqA a a'
 | some (.map t v g a),some (.map t' v' g' a')=>Nat.beq t t' && Nat.beq v v' && bqB g g' && bqA a a'
 | _,_=>false
def bqS:List (Tri SV)→List (Tri SV)→Bool
 | [],[]=>true
 | a::r,b::s=>Tri.all2 bqV a b && bqS r s
 | _,_=>false
def sameS (n:Nat) (as0:List Atom) (σ:List (Tri SV)) (τ:Tri SV) (ω:Tri (Option Ob)) (τ':Tri SV) (ω':Tri (Option Ob)) (σ':List (Tri SV)):Bool :=
 bqS σ' σ && σ.all (Tri.all (inV (n+as0.length))) && bqS (σ.map (Tri.map (sbV n as0))) σ &&
 τ.all (inV (n+as0.length)) && ω.all (oT (n+as0.length)) && Tri.all2 bqV (τ.map (sbV n as0)) τ' && Tri.all2 bqO (ω.map (Option.map (sbO n as0))) ω'
def inlOf (fx:Fx) (s:SF) (o:Oper):Option (FnI × List SV):=match o.op with
 | .call c=>match c.callee with
  | .value fx'=>match zcf s.τ s.ω (evC fx.cx 0 fx') with
   | some (.fn f caps)=>match zc4 f fx.fns with
    | some g=>match zcf s.τ s.ω (zah fx.cx c.args.toList c.argTypes.toList) with
     | some vs=>some (g,vs++caps.map fun p=>.one (.bp p.1 p.2))
     | none=>none
    | none=>none
   | _=>none
  | _=>none
 | _=>none
def freeKey (ω:Tri (Option Ob)):Nat→Nat→Option Nat
 | 0,_=>none
 | m+1,k=>match ω.get k with
  | some none=>some k
  | some (some _)=>freeKey ω m (k+1)
  | none=>none
def toPool (pool:Nat) (p:S3):List Nat→S3
 | []=>p
 | k::ks=>match p.2.1.get k with
  | some (some _)=>match freeKey p.2.1 100 pool with
   | some i=>toPool pool (renKey k i p) ks
   | none=>toPool pool p ks
  | _=>toPool pool p ks
abbrev Inl:=Fx→FnI→List SV→Oper→SF→(SF→Option T)→Option T
def z0pj:Inl:=fun _ _ _ _ _ _=>none
def seqRun (inl:Inl) (fx:Fx) (ops:List Oper):List Oper→SF→(SF→Option T)→Option T
 | [],s,k=>k s
 | o::rest,s,k =>
  let go:SF→Option T:=fun s=>match inlOf fx s o with
   | some (g,vs)=>inl fx g vs o s fun s=>seqRun inl fx ops rest s k
   | none=>regDo fx.cx fx.nt ops o s fun s _=>seqRun inl fx ops rest s k
  match guardOf ops s o with
  | .yes=>go s
  | .no=>regSkip ops o s fun s _=>seqRun inl fx ops rest s k
  | .ask v =>
   let want:=match o.guard with|some (_,w)=>w|none=>true
   match go (learn s v want),regSkip ops o (learn s v (!want)) (fun s _=>seqRun inl fx ops rest s k) with
   | some t,some e=>some (if want then .ite (.v v) t e else .ite (.v v) e t)
   | _,_=>none
  | .fail=>none
def segRun (inl:Inl) (fx:Fx) (ops:List Oper) (an:List (List Nat)):Nat→Nat→SF→(SF→Option T)→Option T
 | 0,_,_,_=>none
 | m+1,off,s,k=>match zc5 fx.fns an ops.length (ops.drop off) off with
  | some i=>match ops[i]? with
   | some o'=>if zwo an i ops.length && o'.guard.isNone && Nat.ble off i then
     regRun fx.cx fx.nt ops ((ops.drop off).take (i - off)) s [] fun s' rs=>if z8s an off rs then (match inlOf fx s' o' with
      | some (g,vs)=>inl fx g vs o' s' fun s2=>segRun inl fx ops an m (i+1) s2 k
      | none=>regDo fx.cx fx.nt ops o' s' fun s2 _=>segRun inl fx ops an m (i+1) s2 k) else none
    else none
   | none=>none
  | none=>regRun fx.cx fx.nt ops (ops.drop off) s [] fun s' rs=>if z8s an off rs then k s' else none
def exec (inl:Inl) (fx:Fx):Code→SF→(Ex→SF→Option T)→Option T
 | .skip,s,k=>k .normal s
 | .label _,s,k=>k .normal s
 | .region _ ops draw,s,k=>if draw=false then seqRun inl fx ops.toList ops.toList s fun s'=>k .normal s' else
  if zbc 0 ops.toList=false then none else
  segRun inl fx ops.toList (z43 ops.toList []) 40 0 s fun s'=>k .normal s'
 | .seq a b,s,k=>exec inl fx a s fun e s'=>match e with
  | .normal=>exec inl fx b s' k
  | e=>k e s'
 | .cond c x y,s,k=>match zcf s.τ s.ω (evA fx.cx 0 c) with
  | none=>none
  | some a=>match evB s.kn a with
   | some true=>exec inl fx x s k
   | some false=>exec inl fx y s k
   | none=>match a with
    | .v v=>match exec inl fx x (learn s v true) k,exec inl fx y (learn s v false) k with
     | some t,some e=>some (.ite (.v v) t e)
     | _,_=>none
    | _=>none
 | .block id b,s,k=>exec inl fx b s fun e s'=>match e with
  | .exit j=>if j=id then k .normal s' else k (.exit j) s'
  | e=>k e s'
 | .exit id,s,k=>k (.exit id) s
 | .ret,s,k=>k .ret s
 | .loop b,s,k =>
  let cy:=zu b fx.hints
  let ds:=z0s b
  let p:=normS ds cy s
  let g:=gen s.kb s.n p.1 p.2.1 cy
  let n:=s.n
  if sameS n g.2 p.2.2 g.1.1 g.1.2 p.1 p.2.1 p.2.2 then
   match exec inl fx b { s with τ:=g.1.1,ω:=g.1.2,n:=n+g.2.length,lvl:=s.lvl+1,σ:=p.2.2 } (fun e s'=>match e with
    | .normal =>
     let p':=normS ds cy s'
     let g':=gen s.kb n p'.1 p'.2.1 cy
     if s'.kb=s.kb∧g'.2.length=g.2.length∧sameS n g'.2 p.2.2 g.1.1 g.1.2 p'.1 p'.2.1 p'.2.2 then some (.again s.lvl g'.2) else none
    | e=>k e s') with
   | some t=>some (.loop g.2 t)
   | none=>none
  else none
 | _,_,_=>none
def rowArgs (z:List Nat) (τ:Tri SV) (o:Oper):List Nat:=cutZ z++match o.op with
 | .call c=>c.args.toList.filterMap fun x=>match x with
  | .tmp t=>match τ.get t with
   | some (.one (.row _))=>some t
   | _=>none
  | _=>none
 | _=>[]
def inlD:Nat→Inl
 | 0,_,_,_,_,_,_=>none
 | d+1,fx,g,vs,o,s,k =>
  if g.nt<vs.length∨2048<g.nt then none else
  exec (inlD d) { fx with cx:={ fx.cx with cut:=g.cut },nt:=g.nt,hints:=g.hints } g.body { s with τ:=Tri.puts 0 vs (Tri.rep (.one .und) 12 g.nt),kb:=s.kb+fx.mul * fx.nt,σ:=topAll s.τ (rowArgs fx.cx.cut s.τ o)::s.σ } fun e s2=>match e with
   | .exit _=>none
   | _=>match zcf s2.τ s2.ω (z7c fx.cx g.results) with
    | none=>none
    | some svs=>match zai svs with
     | none=>none
     | some sv =>
      match s2.σ with
      | []=>none
      | τ0::σ0=>if Nat.beq τ0.size s.τ.size=false then none else
      let p:=wrT τ0 s2.ω (zx o sv)
      let ω:=dropAll p.1 p.2 σ0 (List.range p.2.size)
      let q:=toPool fx.pool (p.1,ω,σ0) (List.range' (s.kb+fx.mul * fx.nt) (fx.mul * g.nt))
      k { s2 with τ:=q.1,ω:=q.2.1,σ:=q.2.2,kb:=s.kb }
def initS (sig:Sig) (nt cap:Nat):SF :=
 let r:=z02 0 cap sig.args
 ⟨Tri.puts 0 r.1 (Tri.rep (.one .und) 12 nt),Tri.puts cap (r.2.1.map some) (Tri.rep none 14 (cap+r.2.1.length)),r.2.2,0,[],0,[]⟩
def outOf (cx:Cx) (sig:Sig) (rs:List ResultVar) (s:SF):Option T:=do
 let vs ← zcf s.τ s.ω (z7c cx rs)
 let p ← zcf s.τ s.ω (zif sig.res vs)
 let ks:=p.filterMap (·.2.1)
 let qs:=p.filterMap (·.2.2)
 if z8f ks && ks.all (fun k => !qs.contains k) then some (.ret (p.map (·.1))) else none
def fT {β:Type} (t:T) (k:T→β):β:=match t with
 | .ret l=>fL fA l fun l=>k (.ret l)
 | .lets xs ck t=>fL fX xs fun xs=>fL fX ck fun ck=>fT t fun t=>k (.lets xs ck t)
 | .ite a t e=>fA a fun a=>fT t fun t=>fT e fun e=>k (.ite a t e)
 | .loop l b=>fL fA l fun l=>fT b fun b=>k (.loop l b)
 | .again n l=>fN n fun n=>fL fA l fun l=>k (.again n l)
def decomp (fx:Fx) (sig:Sig) (fn:Func):Option T :=
 if (fx.nt≠fn.ntmps∨fn.ntmps<sig.args.length)∨z41 sig.args=true∨2048<fn.ntmps∨8192<fx.cap+(z02 0 fx.cap sig.args).2.1.length∨fn.ntmps<(z02 0 fx.cap sig.args).1.length then none else
 match fn.body with
 | none=>none
 | some c=>exec (inlD fx.dep) fx c (initS sig fn.ntmps fx.cap) fun e s=>match e with
  | .exit _=>none
  | _=>outOf fx.cx sig fn.results.toList s
def decompN (fx:Fx) (sig:Sig) (fn:Func):Option T:=match decomp fx sig fn with
 | none=>none
 | some t=>fT t some
end Fast
end Go.Proofs.YtaddehddalnliaaGreatDoor
namespace Go.Proofs.YtaddehddalnliaaGreatDoor
section
open Go.RowKit
def Tri.toL {α:Type}:Tri α→List α
 | .lf x=>[x]
 | .nd _ l r=>l.toL++r.toL
 | .em=>[]
def Tri.wf {α:Type}:Tri α→Prop
 | .lf _=>True
 | .nd n l r=>l.toL.length=n∧l.wf∧r.wf
 | .em=>True
section
variable {α β:Type}
theorem Tri.get_nd (n:Nat) (l r:Tri α) (i:Nat):(Tri.nd n l r).get i=if i<n then l.get i else r.get (i - n):=by
 show Bool.rec (motive:=fun _=>Option α) (r.get (i - n)) (l.get i) (Nat.blt i n)=_
 by_cases h:i<n
 ·rw [if_pos h,show Nat.blt i n=true from Nat.ble_eq_true_of_le h]
 ·rw [if_neg h]
  have:Nat.blt i n=false:=by
   cases hb:Nat.blt i n with
   | false=>rfl
   | true=>exact absurd (Nat.le_of_ble_eq_true hb) h
  rw [this]
theorem Tri.set_nd (n:Nat) (l r:Tri α) (i:Nat) (v:α):(Tri.nd n l r).set i v=if i<n then .nd n (l.set i v) r else .nd n l (r.set (i - n) v):=by
 show Bool.rec (motive:=fun _=>Tri α) (.nd n l (r.set (i - n) v)) (.nd n (l.set i v) r) (Nat.blt i n)=_
 by_cases h:i<n
 ·rw [if_pos h,show Nat.blt i n=true from Nat.ble_eq_true_of_le h]
 ·rw [if_neg h]
  have:Nat.blt i n=false:=by
   cases hb:Nat.blt i n with
   | false=>rfl
   | true=>exact absurd (Nat.le_of_ble_eq_true hb) h
  rw [this]
theorem Tri.get_eq:∀ {t:Tri α} (h:t.wf) (i:Nat),t.get i=t.toL[i]?
 | .lf x,_,0=>rfl
 | .lf x,_,i+1=>rfl
 | .em,_,i=>rfl
 | .nd n l r,⟨h1,h2,h3⟩,i=>by
  rw [Tri.get_nd,Tri.toL]
  by_cases h:i<n
  ·rw [if_pos h,zY0l (by omega),Tri.get_eq h2]
  ·rw [if_neg h,zY0n (by omega),Tri.get_eq h3,h1]
theorem Tri.set_toL:∀ {t:Tri α} (h:t.wf) (i:Nat) (v:α),(t.set i v).toL=t.toL.set i v
 | .lf x,_,0,v=>rfl
 | .lf x,_,i+1,v=>rfl
 | .em,_,i,v=>rfl
 | .nd n l r,⟨h1,h2,h3⟩,i,v=>by
  rw [Tri.set_nd]
  by_cases h:i<n
  ·rw [if_pos h,Tri.toL,Tri.toL,Tri.set_toL h2,List.set_append,if_pos (by omega)]
  ·rw [if_neg h,Tri.toL,Tri.toL,Tri.set_toL h3,List.set_append,if_neg (by omega),h1]
theorem Tri.set_wf:∀ {t:Tri α} (h:t.wf) (i:Nat) (v:α),(t.set i v).wf
 | .lf x,_,0,v=>trivial
 | .lf x,_,i+1,v=>trivial
 | .em,_,i,v=>trivial
 | .nd n l r,⟨h1,h2,h3⟩,i,v=>by
  rw [Tri.set_nd]
  by_cases h:i<n
  ·rw [if_pos h];exact ⟨by rw [Tri.set_toL h2,List.length_set,h1],Tri.set_wf h2 i v,h3⟩
  ·rw [if_neg h];exact ⟨h1,h2,Tri.set_wf h3 _ v⟩
theorem Tri.any_eq (f:α→Bool):∀ t:Tri α,t.any f=t.toL.any f
 | .lf x=>by simp [Tri.any,Tri.toL]
 | .em=>rfl
 | .nd n l r=>by
  have:(Tri.nd n l r).any f=(l.any f || r.any f):=by
   show Bool.rec (motive:=fun _=>Bool) (r.any f) true (l.any f)=_
   cases l.any f <;> rfl
  rw [this,Tri.toL,List.any_append,Tri.any_eq f l,Tri.any_eq f r]
theorem Tri.all_eq (f:α→Bool):∀ t:Tri α,t.all f=t.toL.all f
 | .lf x=>by simp [Tri.all,Tri.toL]
 | .em=>rfl
 | .nd n l r=>by
  have:(Tri.nd n l r).all f=(l.all f && r.all f):=by
   show Bool.rec (motive:=fun _=>Bool) false (r.all f) (l.all f)=_
   cases l.all f <;> rfl
  rw [this,Tri.toL,List.all_append,Tri.all_eq f l,Tri.all_eq f r]
theorem Tri.map_nd (f:α→β) (n:Nat) (l r:Tri α):(Tri.nd n l r).map f = .nd n (l.map f) (r.map f):=rfl
theorem Tri.map_toL (f:α→β):∀ t:Tri α,(t.map f).toL=t.toL.map f
 | .lf x=>rfl
 | .em=>rfl
 | .nd n l r=>by rw [Tri.map_nd,Tri.toL,Tri.toL,zY24,Tri.map_toL f l,Tri.map_toL f r]
theorem Tri.map_wf (f:α→β):∀ {t:Tri α},t.wf→(t.map f).wf
 | .lf x,_=>trivial
 | .em,_=>trivial
 | .nd n l r,⟨h1,h2,h3⟩=>⟨by show (l.map f).toL.length=n;rw [Tri.map_toL,zY0w,h1],Tri.map_wf f h2,Tri.map_wf f h3⟩
theorem Tri.all2_eq {f:α→α→Bool} (hf:∀ a b,f a b=true→a=b):∀ {t u:Tri α},t.all2 f u=true→t=u
 | .lf x,.lf y,h=>by rw [hf x y h]
 | .lf x,.nd ..,h=>by cases h
 | .lf x,.em,h=>by cases h
 | .em,.lf y,h=>by cases h
 | .em,.nd ..,h=>by cases h
 | .em,.em,h=>rfl
 | .nd n l r,.lf y,h=>by cases h
 | .nd n l r,.em,h=>by cases h
 | .nd n l r,.nd m l' r',h=>by
  have h:Bool.rec (motive:=fun _=>Bool) false (Bool.rec (motive:=fun _=>Bool) false (r.all2 f r') (l.all2 f l')) (Nat.beq n m)=true:=h
  cases h1:Nat.beq n m with
  | false=>rw [h1] at h;cases h
  | true =>
   rw [h1] at h
   cases h2:l.all2 f l' with
   | false=>rw [h2] at h;cases h
   | true =>
    rw [h2] at h;rw [zY0t h1,Tri.all2_eq hf h2,Tri.all2_eq hf (t:=r) (u:=r') h]
theorem Tri.size_eq:∀ {t:Tri α},t.wf→t.size=t.toL.length
 | .lf x,_=>rfl
 | .em,_=>rfl
 | .nd n l r,⟨h1,h2,h3⟩=>by
  have:(Tri.nd n l r).size=n+r.size:=rfl;rw [this,Tri.toL,zY06,h1,Tri.size_eq h3]
theorem Tri.rep_ok (x:α):∀ (d n:Nat),n≤2 ^ d→(Tri.rep x (d+1) n).toL=List.replicate n x∧(Tri.rep x (d+1) n).wf
 | d,0,_=>by unfold Tri.rep;exact ⟨rfl,trivial⟩
 | d,1,_=>by unfold Tri.rep;exact ⟨rfl,trivial⟩
 | 0,n+2,h=>by simp at h
 | d+1,n+2,h=>by
  have hp:2 ^ (d+1)=2 * 2 ^ d:=by rw [Nat.pow_succ];omega
  obtain ⟨h1,h2⟩:=Tri.rep_ok x d ((n+2) / 2) (by omega);obtain ⟨h3,h4⟩:=Tri.rep_ok x d (n+2 - (n+2) / 2) (by omega);have e:Tri.rep x (d+1+1) (n+2) = .nd ((n+2) / 2) (Tri.rep x (d+1) ((n+2) / 2)) (Tri.rep x (d+1) (n+2 - (n+2) / 2)):=rfl;rw [e];refine ⟨?_,?_,h2,h4⟩
  ·rw [Tri.toL,h1,h3,List.replicate_append_replicate]
   congr 1;omega
  ·rw [h1,zY25]
theorem Tri.puts_ok:∀ (xs:List α) (k:Nat) (t:Tri α),t.wf→k+xs.length≤t.toL.length→(Tri.puts k xs t).toL=t.toL.take k++xs++t.toL.drop (k+xs.length)∧(Tri.puts k xs t).wf
 | [],k,t,h,hl=>by unfold Tri.puts;exact ⟨by simp,h⟩
 | x::xs,k,t,h,hl=>by
  unfold Tri.puts;simp only [zY0g] at hl;obtain ⟨h1,h2⟩:=Tri.puts_ok xs (k+1) (t.set k x) (Tri.set_wf h k x) (by rw [Tri.set_toL h,List.length_set];omega);refine ⟨?_,h2⟩;rw [h1,Tri.set_toL h];have hk:k<t.toL.length:=by omega
  rw [List.take_succ_eq_append_getElem (by rw [List.length_set];exact hk),List.getElem_set_self];rw [List.take_set_of_le (zY0m k),List.drop_set_of_lt (by omega)];simp only [zY0g,zY1b,zY1j,zY11];rw [show k+(xs.length+1)=k+1+xs.length by omega]
end
section
variable {β:Type}
theorem za6 (n:Nat) (k:Nat→β):fN n k=k n:=by cases n <;> rfl
theorem z6f {α:Type} {f:α→(α→β)→β} (hf:∀ x k,f x k=k x):∀ (l:List α) (k:List α→β),fL f l k=k l
 | [],k=>rfl
 | x::xs,k=>by
  show f x (fun x=>fL f xs fun xs=>k (x::xs))=k (x::xs)
  rw [hf,z6f hf xs]
theorem zf9 (a:Atom) (k:Atom→β):fA a k=k a:=by cases a <;> simp [fA,za6]
theorem z0o3 (a:Option Atom) (k:Option Atom→β):fOp a k=k a:=by cases a <;> simp [fOp,zf9]
theorem z0o4 (a:Atom × Atom) (k:Atom × Atom→β):fPr a k=k a:=by simp [fPr,zf9]
theorem zgw (l:List Atom) (k:List Atom→β):fL fA l k=k l:=z6f zf9 l k
theorem z0ba (x:X) (k:X→β):fX x k=k x:=by
 cases x <;> simp [fX,zf9,za6,z0o3,z6f z0o4,zgw,z6f (f:=fL fA) zgw]
theorem z0o5 (a:Nat × Nat) (k:Nat × Nat→β):fNN a k=k a:=by simp [fNN,za6]
theorem zwi (c:C1) (k:C1→β):fC c k=k c:=by cases c <;> simp [fC,zf9,za6,z6f z0o5]
theorem z0ej (b:Bool) (k:Bool→β):fBl b k=k b:=by cases b <;> rfl
theorem z0o6 (a:Bool × List C1) (k:Bool × List C1→β):fPt a k=k a:=by simp [fPt,z0ej,z6f zwi]
theorem z0pl (v:SV) (k:SV→β):fV v k=k v:=by cases v <;> simp [fV,zwi,z6f zwi,z6f z0o6]
theorem z0pm (o:Option Ob) (k:Option Ob→β):fO o k=k o:=by
 cases o with
 | none=>rfl
 | some o=>cases o <;> simp [fO,za6,zf9,z6f zwi,z0ej]
theorem z0pn (w:Wr) (k:Wr→β):fW w k=k w:=by cases w <;> simp [fW,za6,z0pl,z0pm]
theorem z0po (e:Eff) (k:Eff→β):fE e k=k e:=by simp [fE,z6f z0ba,z6f z0pn]
theorem z0o7 (l:Loc) (k:Loc→β):fLo l k=k l:=by cases l <;> simp [fLo,za6]
theorem zlf:∀ (t:T) (k:T→β),Fast.fT t k=k t
 | .ret l,k=>by rw [Fast.fT,zgw]
 | .lets xs ck t,k=>by rw [Fast.fT,z6f z0ba,z6f z0ba,zlf t]
 | .ite a t e,k=>by rw [Fast.fT,zf9,zlf t,zlf e]
 | .loop l b,k=>by rw [Fast.fT,zgw,zlf b]
 | .again n l,k=>by rw [Fast.fT,za6,zgw]
end
theorem zal {a b:Atom} (h:Fast.bqA a b=true):a=b:=by
 cases a <;> cases b <;> simp only [Fast.bqA,decide_eq_true_eq,zY0r] at h
 ·rw [zY0t h]
 ·rw [h]
theorem z0ek:∀ {a b:List (Nat × Nat)},Fast.bqP a b=true→a=b
 | [],[],_=>rfl
 | [],_::_,h=>by cases h
 | _::_,[],h=>by cases h
 | (a,b)::r,(c,d)::s,h=>by
  simp only [Fast.bqP,zY0a] at h;rw [zY0t h.1.1,zY0t h.1.2,z0ek h.2]
theorem z0el {a b:C1} (h:Fast.bqC a b=true):a=b:=by
 cases a <;> cases b <;> simp only [Fast.bqC,zY0a,zY0r] at h <;> try rfl
 ·rw [zal h]
 ·rw [zY0t h.1,zY0t h.2]
 ·rw [zal h.1.1,zal h.1.2,zY0t h.2]
 ·rw [zY0t h]
 ·rw [zY0t h.1.1.1,zal h.1.1.2,zY0t h.1.2,zY0t h.2]
 ·rw [zY0t h.1,z0ek h.2]
theorem ze7:∀ {a b:List C1},Fast.bqCs a b=true→a=b
 | [],[],_=>rfl
 | [],_::_,h=>by cases h
 | _::_,[],h=>by cases h
 | a::r,c::s,h=>by
  simp only [Fast.bqCs,zY0a] at h;rw [z0el h.1,ze7 h.2]
theorem z0em {a b:Bool} (h:Fast.bqB a b=true):a=b:=by cases a <;> cases b <;> first|rfl|cases h
theorem z0a2:∀ {a b:List (Bool × List C1)},Fast.bqPs a b=true→a=b
 | [],[],_=>rfl
 | [],_::_,h=>by cases h
 | _::_,[],h=>by cases h
 | (a,b)::r,(c,d)::s,h=>by
  simp only [Fast.bqPs,zY0a] at h;rw [z0em h.1.1,ze7 h.1.2,z0a2 h.2]
theorem z0en (a b:SV) (h:Fast.bqV a b=true):a=b:=by
 cases a <;> cases b <;> simp only [Fast.bqV,zY0r] at h
 ·rw [z0el h]
 ·rw [ze7 h]
 ·rw [z0a2 h]
theorem z0o8 (a b:Option Ob) (h:Fast.bqO a b=true):a=b:=by
 cases a with
 | none=>cases b with
  | none=>rfl
  | some b=>cases h
 | some a=>cases b with
  | none=>cases a <;> cases h
  | some b =>
   cases a <;> cases b <;> simp only [Fast.bqO,zY0a,zY0r] at h <;> try rfl
   ·rw [zY0t h.1,ze7 h.2]
   ·rw [ze7 h]
   ·rw [zY0t h.1.1,zY0t h.1.2,zal h.2]
   ·rw [zal h]
   ·rw [zal h]
   ·rw [zY0t h.1.1.1,zY0t h.1.1.2,z0em h.1.2,zal h.2]
theorem zxn:∀ {a b:List (Tri SV)},Fast.bqS a b=true→a=b
 | [],[],_=>rfl
 | [],_::_,h=>by cases h
 | _::_,[],h=>by cases h
 | a::r,c::s,h=>by
  simp only [Fast.bqS,zY0a] at h;rw [Tri.all2_eq z0en h.1,zxn h.2]
theorem znu {α:Type} {τ:Tri SV} {ω:Tri (Option Ob)} (h1:τ.wf) (h2:ω.wf):∀ m:Rd α,zcf τ ω m=m.run τ.toL ω.toL
 | .pure a=>rfl
 | .fail=>rfl
 | .t i k=>by
  show Option.rec (motive:=fun _=>Option α) none (fun x=>zcf τ ω (k x)) (τ.get i)=_
  rw [Tri.get_eq h1,Rd.run]
  cases τ.toL[i]? with
  | none=>rfl
  | some x=>exact znu h1 h2 (k x)
 | .o i k=>by
  show Option.rec (motive:=fun _=>Option α) none (fun x=>zcf τ ω (k x)) (ω.get i)=_
  rw [Tri.get_eq h2,Rd.run]
  cases ω.toL[i]? with
  | none=>rfl
  | some x=>exact znu h1 h2 (k x)
theorem znv {α:Type} {τ:Tri SV} {ω:Tri (Option Ob)} (h1:τ.wf) (h2:ω.wf):∀ m:Rd α,zxm τ ω m=m.log τ.toL ω.toL
 | .pure a=>rfl
 | .fail=>rfl
 | .t i k=>by
  show Option.rec (motive:=fun _=>List Loc) [] (fun x=>Loc.t i::zxm τ ω (k x)) (τ.get i)=_
  rw [Tri.get_eq h1,Rd.log]
  cases τ.toL[i]? with
  | none=>rfl
  | some x=>exact congrArg _ (znv h1 h2 (k x))
 | .o i k=>by
  show Option.rec (motive:=fun _=>List Loc) [] (fun x=>Loc.o i::zxm τ ω (k x)) (ω.get i)=_
  rw [Tri.get_eq h2,Rd.log]
  cases ω.toL[i]? with
  | none=>rfl
  | some x=>exact congrArg _ (znv h1 h2 (k x))
def Tri.Is {α:Type} (t:Tri α) (l:List α):Prop:=t.wf∧t.toL=l
def IsS (σ:List (Tri SV)) (l:List SV):Prop:=(∀ t ∈ σ,t.wf)∧σ.flatMap Tri.toL=l
theorem Tri.Is.get {α:Type} {t:Tri α} {l:List α} (h:t.Is l) (i:Nat):t.get i=l[i]?:=by rw [Tri.get_eq h.1,h.2]
theorem Tri.Is.set {α:Type} {t:Tri α} {l:List α} (h:t.Is l) (i:Nat) (v:α):(t.set i v).Is (l.set i v):=⟨Tri.set_wf h.1 i v,by rw [Tri.set_toL h.1,h.2]⟩
theorem Tri.Is.map {α β:Type} {t:Tri α} {l:List α} (h:t.Is l) (f:α→β):(t.map f).Is (l.map f):=⟨Tri.map_wf f h.1,by rw [Tri.map_toL,h.2]⟩
theorem IsS.map {σ:List (Tri SV)} {l:List SV} (h:IsS σ l) (f:SV→SV):IsS (σ.map (Tri.map f)) (l.map f):=by
 obtain ⟨h1,rfl⟩:=h;refine ⟨fun t ht=>?_,?_⟩
 ·obtain ⟨u,hu,rfl⟩:=zY2q.1 ht
  exact Tri.map_wf f (h1 u hu)
 ·induction σ with
  | nil=>rfl
  | cons t σ ih=>simp only [zY1t,zY1u,zY24,Tri.map_toL,ih fun u hu=>h1 u (zY0d _ hu)]
theorem IsS.any {σ:List (Tri SV)} {l:List SV} (h:IsS σ l) (f:SV→Bool):σ.any (Tri.any f)=l.any f:=by
 obtain ⟨h1,rfl⟩:=h
 induction σ with
 | nil=>rfl
 | cons t σ ih=>simp only [zY37,zY1u,List.any_append,Tri.any_eq,ih fun u hu=>h1 u (zY0d _ hu)]
theorem IsS.all {σ:List (Tri SV)} {l:List SV} (h:IsS σ l) (f:SV→Bool):σ.all (Tri.all f)=l.all f:=by
 obtain ⟨h1,rfl⟩:=h
 induction σ with
 | nil=>rfl
 | cons t σ ih=>simp only [List.all_cons,zY1u,List.all_append,Tri.all_eq,ih fun u hu=>h1 u (zY0d _ hu)]
theorem Tri.Is.run {α:Type} {τ:Tri SV} {ω:Tri (Option Ob)} {τ':List SV} {ω':List (Option Ob)} (h1:τ.Is τ') (h2:ω.Is ω') (m:Rd α):zcf τ ω m=m.run τ' ω':=by rw [znu h1.1 h2.1,h1.2,h2.2]
theorem Tri.Is.log {α:Type} {τ:Tri SV} {ω:Tri (Option Ob)} {τ':List SV} {ω':List (Option Ob)} (h1:τ.Is τ') (h2:ω.Is ω') (m:Rd α):zxm τ ω m=m.log τ' ω':=by rw [znv h1.1 h2.1,h1.2,h2.2]
theorem zgx:∀ (ws:List Wr) {τ:Tri SV} {ω:Tri (Option Ob)} {τ':List SV} {ω':List (Option Ob)},τ.Is τ'→ω.Is ω'→(Fast.wrT τ ω ws).1.Is (wr τ' ω' ws).1∧(Fast.wrT τ ω ws).2.Is (wr τ' ω' ws).2
 | [],_,_,_,_,h1,h2=>⟨h1,h2⟩
 | .t i v::ws,_,_,_,_,h1,h2=>zgx ws (h1.set i v) h2
 | .o i v::ws,_,_,_,_,h1,h2=>zgx ws h1 (h2.set i v)
structure Rl (a:SF) (b:St):Prop where
 τ:a.τ.Is b.τ
 ω:a.ω.Is b.ω
 n:a.n=b.n
 lvl:a.lvl=b.lvl
 kn:a.kn=b.kn
 kb:a.kb=b.kb
 σ:IsS a.σ b.σ
theorem zlg {a:SF} {b:St} (h:Rl a b) (ops:List Oper) (o:Oper):Fast.guardOf ops a o=guardOf ops b o:=by
 unfold Fast.guardOf guardOf;rw [h.kn]
 cases o.guard with
 | none=>rfl
 | some p =>
  simp only
  cases (ops[p.1]?).bind (·.dst) with
  | none=>rfl
  | some d =>
   simp only [h.τ.get];rfl
theorem z0pp {β:Type} (l:List (Nat × Bool)) (k:List (Nat × Bool)→β):Fast.fK l k=k l:=by
 rcases l with _|⟨⟨x,y⟩,r⟩
 ·rfl
 ·show fN x (fun a=>k ((a,y)::r))=_
  rw [za6]
theorem zd7 {a:SF} {b:St} (h:Rl a b) {cx:Cx} {nt:Nat} {ops:List Oper} {o:Oper} {kF:SF→Rec→Option T} {k:St→Rec→Option T} (hk:∀ a b r t,Rl a b→kF a r=some t→k b r=some t) {t:T} (he:Fast.regDo cx nt ops o a kF=some t):regDo cx nt ops o b k=some t:=by
 unfold Fast.regDo at he;unfold regDo;simp only [z0po,za6,z6f z0o7,z0pp,h.n,h.kb,h.kn,h.τ.run h.ω,h.τ.log h.ω] at he ⊢
 cases hr:(zm cx b.kb b.n nt b.kn o).run b.τ b.ω with
 | none=>rw [hr] at he;cases he
 | some e =>
  rw [hr] at he;simp only at he ⊢;obtain ⟨w1,w2⟩:=zgx e.ws h.τ h.ω
  split at he
  ·cases he
  ·rename_i t' ht
   have hh:=fun h'=>hk _ { b with τ:=(wr b.τ b.ω e.ws).1,ω:=(wr b.τ b.ω e.ws).2,n:=b.n+e.xs.length,kn:=znh cx b.n e.xs b.kn } _ t' h' ht
   have:=hh ⟨w1,w2,rfl,h.lvl,rfl,rfl,h.σ⟩;rw [this];exact he
theorem za7 {a:SF} {b:St} (h:Rl a b) {ops:List Oper} {o:Oper} {kF:SF→Rec→Option T} {k:St→Rec→Option T} (hk:∀ a b r t,Rl a b→kF a r=some t→k b r=some t) {t:T} (he:Fast.regSkip ops o a kF=some t):regSkip ops o b k=some t:=by
 unfold Fast.regSkip at he;unfold regSkip;simp only [h.n,h.kn] at he ⊢;obtain ⟨w1,w2⟩:=zgx (zx o (.one .und)) h.τ h.ω;have hh:=fun s h'=>hk _ s _ t h' he
 exact hh _ ⟨w1,w2,rfl,h.lvl,rfl,h.kb,h.σ⟩
theorem z8i {a:SF} {b:St} (h:Rl a b) (v:Nat) (x:Bool):Rl (Fast.learn a v x) (learn b v x):=⟨h.τ,h.ω,h.n,h.lvl,by show (if Nat.ble knB v=true then a.kn else (v,x)::a.kn)=(if Nat.ble knB v=true then b.kn else (v,x)::b.kn);rw [h.kn],h.kb,h.σ⟩
theorem zfa {cx:Cx} {nt:Nat} {ops:List Oper} {kF:SF→List Rec→Option T} {k:St→List Rec→Option T} (hk:∀ a b r t,Rl a b→kF a r=some t→k b r=some t):∀ (l:List Oper) {a:SF} {b:St} (h:Rl a b) (rs:List Rec) {t:T} (he:Fast.regRun cx nt ops l a rs kF=some t),regRun cx nt ops l b rs k=some t
 | [],a,b,h,rs,t,he=>hk a b rs t h he
 | o::l,a,b,h,rs,t,he=>by
  rw [Fast.regRun] at he;rw [regRun];rw [zlg h] at he;have step:∀ a b r t,Rl a b→Fast.regRun cx nt ops l a (rs++[r]) kF=some t→regRun cx nt ops l b (rs++[r]) k=some t:=fun a b r t h he=>zfa hk l h _ he
  cases hg:guardOf ops b o with
  | yes=>rw [hg] at he;simp only at he ⊢;exact zd7 h step he
  | no=>rw [hg] at he;simp only at he ⊢;exact za7 h step he
  | fail=>rw [hg] at he;cases he
  | ask v =>
   rw [hg] at he;simp only at he ⊢;generalize hgd:o.guard=g at he;rcases g with _|⟨gj,gw⟩
   all_goals
    simp only at he ⊢
    split at he
    ·rename_i x y h1 h2
     rw [zd7 (z8i h v _) step h1,za7 (z8i h v _) step h2];exact he
    ·cases he
structure RlP (p:Fast.S3) (q:S3):Prop where
 τ:p.1.Is q.1
 ω:p.2.1.Is q.2.1
 σ:IsS p.2.2 q.2.2
theorem zfb {p:Fast.S3} {q:S3} (h:RlP p q) (k i:Nat):RlP (Fast.renKey k i p) (renKey k i q):=by
 unfold Fast.renKey renKey;rw [h.ω.get,h.ω.get];generalize q.2.1[k]? = x;generalize q.2.1[i]? = y;rcases x with _|_|o
 ·exact h
 ·exact h
 ·rcases y with _|_|o'
  ·exact h
  ·show RlP (if k=i then p else _) (if k=i then q else _)
   split
   ·exact h
   ·exact ⟨h.τ.map _,((h.ω.set _ _).set _ _).map _,h.σ.map _⟩
  ·exact h
theorem z0i9 {τ:Tri SV} {ω:Tri (Option Ob)} {σ:List (Tri SV)} {τ':List SV} {ω':List (Option Ob)} {σ':List SV} (h1:τ.Is τ') (h2:ω.Is ω') (h3:IsS σ σ') (k:Nat):Fast.noRef k τ ω σ=noRef k τ' ω' σ':=by
 unfold Fast.noRef noRef;rw [Tri.any_eq,Tri.any_eq,h1.2,h2.2,h3.any];rfl
theorem zgy:∀ (l:List Nat) {τ:Tri SV} {τ':List SV},τ.Is τ'→(Fast.topAll τ l).Is (topAll τ' l)
 | [],_,_,h=>h
 | i::l,_,_,h=>zgy l (h.set i _)
theorem z7g {τ:Tri SV} {σ:List (Tri SV)} {τ':List SV} {σ':List SV} (h1:τ.Is τ') (h3:IsS σ σ'):∀ (l:List Nat) {ω:Tri (Option Ob)} {ω':List (Option Ob)},ω.Is ω'→(Fast.dropAll τ ω σ l).Is (dropAll τ' ω' σ' l)
 | [],_,_,h=>h
 | k::l,ω,ω',h=>by
  rw [Fast.dropAll,dropAll,h.get,z0i9 h1 h h3];generalize ω'[k]? = x;rcases x with _|_|v
  ·exact z7g h1 h3 l h
  ·exact z7g h1 h3 l h
  ·show Tri.Is (if noRef k τ' ω' σ'=true then _ else _) (if noRef k τ' ω' σ'=true then _ else _)
   split
   ·exact z7g h1 h3 l (h.set k _)
   ·exact z7g h1 h3 l h
theorem z0bb {p:Fast.S3} {q:S3} (h:RlP p q) (kb i e sz:Nat):RlP (Fast.rowKey kb i e sz p) (rowKey kb i e sz q):=by
 unfold Fast.rowKey rowKey;rw [h.τ.get];generalize q.1[i]? = x;rcases x with _|v
 ·exact h
 cases v with
 | agg cs=>exact h
 | tup ps=>exact h
 | one c =>
  cases c with
  | row k=>exact zfb h _ _
  | «at» a =>
   cases a with
   | v n=>exact h
   | c l =>
    cases l with
    | nil z =>
     show RlP (match p.2.1.get (kb+i) with|some none=>_|_=>_) (match q.2.1[kb+i]? with|some none=>_|_=>_)
     rw [h.ω.get];generalize q.2.1[kb+i]? = y;rcases y with _|_|o
     ·exact h
     ·show RlP (if z=sz then _ else _) (if z=sz then _ else _)
      split
      ·exact ⟨h.τ.set _ _,h.ω.set _ _,h.σ⟩
      ·exact h
     ·exact h
    | _=>exact h
  | _=>exact h
theorem z063 {p:Fast.S3} {q:S3} (h:RlP p q) (k j key:Nat):RlP (Fast.cellKey k j key p) (cellKey k j key q):=by
 unfold Fast.cellKey cellKey;rw [h.ω.get];generalize q.2.1[k]? = x;rcases x with _|_|o
 ·exact h
 ·exact h
 cases o with
 | box t cs =>
  show RlP (match cs[j]? with|some (.row q)=>_|_=>_) (match cs[j]? with|some (.row q)=>_|_=>_)
  generalize cs[j]? = y;rcases y with _|c
  ·exact h
  ·cases c with
   | row k=>exact zfb h _ _
   | _=>exact h
 | _=>exact h
theorem z0bc {p:Fast.S3} {q:S3} (h:RlP p q) (k j key e sz:Nat):RlP (Fast.nilKey k j key e sz p) (nilKey k j key e sz q):=by
 unfold Fast.nilKey nilKey;rw [h.ω.get];generalize q.2.1[k]? = x;rcases x with _|_|o
 ·exact h
 ·exact h
 cases o with
 | box t cs =>
  show RlP (match cs[j]? with|some (.at (.c (.nil z)))=>_|_=>_) (match cs[j]? with|some (.at (.c (.nil z)))=>_|_=>_)
  generalize cs[j]? = y;rcases y with _|c
  ·exact h
  cases c with
  | «at» a =>
   cases a with
   | v n=>exact h
   | c l =>
    cases l with
    | nil z =>
     show RlP (match p.2.1.get key with|some none=>_|_=>_) (match q.2.1[key]? with|some none=>_|_=>_)
     rw [h.ω.get];generalize q.2.1[key]? = y;rcases y with _|_|o
     ·exact h
     ·show RlP (if z=sz then _ else _) (if z=sz then _ else _)
      split
      ·exact ⟨h.τ,(h.ω.set _ _).set _ _,h.σ⟩
      ·exact h
     ·exact h
    | _=>exact h
  | _=>exact h
 | _=>exact h
theorem z5b (kb:Nat):∀ (l:List Cy) {p:Fast.S3} {q:S3},RlP p q→RlP (Fast.rowKeys kb p l) (rowKeys kb q l)
 | [],_,_,h=>h
 | .r i e sz::l,_,_,h=>z5b kb l (z0bb h kb i e sz)
 | .c k j key::l,_,_,h=>z5b kb l (z063 h k j key)
 | .t _::l,_,_,h=>z5b kb l h
 | .o _::l,_,_,h=>z5b kb l h
 | .z _::l,_,_,h=>z5b kb l h
 | .n k j key e sz::l,_,_,h=>z5b kb l (z0bc h k j key e sz)
theorem zr5 {a:SF} {b:St} (h:Rl a b) (ds:List Nat) (cy:List Cy):RlP (Fast.normS ds cy a) (normS ds cy b):=by
 unfold Fast.normS normS;simp only;rw [h.kb,Tri.size_eq h.ω.1,h.ω.2];have ht:=zgy ((ds.filter fun d => !(cyT cy).contains d)++cyZ cy) h.τ;exact z5b _ _ ⟨ht,z7g ht h.σ _ h.ω,h.σ⟩
structure RlG (p:(Tri SV × Tri (Option Ob)) × List Atom) (q:(List SV × List (Option Ob)) × List Atom):Prop where
 τ:p.1.1.Is q.1.1
 ω:p.1.2.Is q.1.2
 l:p.2=q.2
theorem z0ia {τ:Tri SV} {ω:Tri (Option Ob)} {τ':List SV} {ω':List (Option Ob)} (h1:τ.Is τ') (h2:ω.Is ω') (kb n:Nat):∀ c:Cy,RlG (Fast.genL kb n τ ω c) (genL kb n τ' ω' c)
 | .t i=>by
  rw [Fast.genL,genL,h1.get];generalize τ'[i]? = x;rcases x with _|v
  ·exact ⟨h1,h2,rfl⟩
  cases v with
  | one c=>cases c <;> first|exact ⟨h1,h2,rfl⟩|exact ⟨h1.set _ _,h2,rfl⟩
  | agg cs=>exact ⟨h1.set _ _,h2,rfl⟩
  | tup ps=>exact ⟨h1,h2,rfl⟩
 | .r i e sz=>by
  rw [Fast.genL,genL,h2.get];generalize ω'[kb+i]? = x;rcases x with _|_|o
  ·exact ⟨h1,h2,rfl⟩
  ·exact ⟨h1,h2,rfl⟩
  ·cases o <;> first|exact ⟨h1,h2,rfl⟩|exact ⟨h1,h2.set _ _,rfl⟩
 | .o k=>by
  rw [Fast.genL,genL,h2.get];generalize ω'[k]? = x;rcases x with _|_|o
  ·exact ⟨h1,h2,rfl⟩
  ·exact ⟨h1,h2,rfl⟩
  ·cases o <;> first|exact ⟨h1,h2,rfl⟩|exact ⟨h1,h2.set _ _,rfl⟩
 | .c _ _ k=>by
  rw [Fast.genL,genL,h2.get];generalize ω'[k]? = x;rcases x with _|_|o
  ·exact ⟨h1,h2,rfl⟩
  ·exact ⟨h1,h2,rfl⟩
  ·cases o <;> first|exact ⟨h1,h2,rfl⟩|exact ⟨h1,h2.set _ _,rfl⟩
 | .z _=>⟨h1,h2,rfl⟩
 | .n .. => ⟨h1,h2,rfl⟩
theorem znw (kb:Nat):∀ (cy:List Cy) (n:Nat) {τ:Tri SV} {ω:Tri (Option Ob)} {τ':List SV} {ω':List (Option Ob)},τ.Is τ'→ω.Is ω'→RlG (Fast.gen kb n τ ω cy) (gen kb n τ' ω' cy)
 | [],n,_,_,_,_,h1,h2=>⟨h1,h2,rfl⟩
 | c::cs,n,τ,ω,τ',ω',h1,h2=>by
  have h:=z0ia h1 h2 kb n c;have h':=znw kb cs (n+(genL kb n τ' ω' c).2.length) h.τ h.ω;have e:n+(Fast.genL kb n τ ω c).2.length=n+(genL kb n τ' ω' c).2.length:=by rw [h.l]
  show RlG ((Fast.gen kb (n+(Fast.genL kb n τ ω c).2.length) (Fast.genL kb n τ ω c).1.1 (Fast.genL kb n τ ω c).1.2 cs).1,(Fast.genL kb n τ ω c).2++(Fast.gen kb (n+(Fast.genL kb n τ ω c).2.length) (Fast.genL kb n τ ω c).1.1 (Fast.genL kb n τ ω c).1.2 cs).2) ((gen kb (n+(genL kb n τ' ω' c).2.length) (genL kb n τ' ω' c).1.1 (genL kb n τ' ω' c).1.2 cs).1,(genL kb n τ' ω' c).2++(gen kb (n+(genL kb n τ' ω' c).2.length) (genL kb n τ' ω' c).1.1 (genL kb n τ' ω' c).1.2 cs).2)
  rw [e];exact ⟨h'.τ,h'.ω,by rw [h.l,h'.l]⟩
theorem zr6 {n:Nat} {l:List Atom} {σ σ1:List (Tri SV)} {τ τ1:Tri SV} {ω ω1:Tri (Option Ob)} {σ' σ1':List SV} {τ' τ1':List SV} {ω' ω1':List (Option Ob)} (hσ:IsS σ σ') (hσ1:IsS σ1 σ1') (hτ:τ.Is τ') (hτ1:τ1.Is τ1') (hω:ω.Is ω') (hω1:ω1.Is ω1')
  (h:Fast.sameS n l σ τ ω τ1 ω1 σ1=true):sameS n l σ' τ' ω' τ1' ω1' σ1'=true:=by
 unfold Fast.sameS at h;simp only [zY0a] at h;obtain ⟨⟨⟨⟨⟨⟨h1,h2⟩,h3⟩,h4⟩,h5⟩,h6⟩,h7⟩:=h;have e1:σ1'=σ':=by rw [← hσ.2,← hσ1.2,zxn h1]
 have e3:σ'.map (sbV n l)=σ':=by
  have:=(hσ.map (sbV n l)).2;rw [zxn h3,hσ.2] at this;exact this.symm
 have e6:τ'.map (sbV n l)=τ1':=by
  have:=(hτ.map (sbV n l)).2;rw [Tri.all2_eq z0en h6,hτ1.2] at this;exact this.symm
 have e7:ω'.map (Option.map (sbO n l))=ω1':=by
  have:=(hω.map (Option.map (sbO n l))).2;rw [Tri.all2_eq z0o8 h7,hω1.2] at this;exact this.symm
 rw [hσ.all] at h2;rw [Tri.all_eq,hτ.2] at h4;rw [Tri.all_eq,hω.2] at h5;unfold sameS;simp only [zY0a,decide_eq_true_eq];exact ⟨⟨⟨⟨⟨⟨e1,h2⟩,e3⟩,h4⟩,h5⟩,e6⟩,e7⟩
end
section
open Go.RowKit
theorem zxo {a:SF} {b:St} (h:Rl a b) (fx:Fx) (o:Oper):Fast.inlOf fx a o=inlOf fx b o:=by
 unfold Fast.inlOf inlOf
 cases o.op with
 | call c =>
  simp only
  cases c.callee with
  | value fx' =>
   simp only;rw [h.τ.run h.ω];generalize (evC fx.cx 0 fx').run b.τ b.ω=x;rcases x with _|c1
   ·rfl
   ·cases c1 with
    | fn f caps =>
     simp only
     cases zc4 f fx.fns with
     | none=>rfl
     | some g =>
      simp only;rw [h.τ.run h.ω];rfl
    | _=>rfl
  | _=>rfl
 | _=>rfl
theorem zlh {ω:Tri (Option Ob)} {ω':List (Option Ob)} (h:ω.Is ω'):∀ n k,Fast.freeKey ω n k=freeKey ω' n k
 | 0,k=>rfl
 | n+1,k=>by
  rw [Fast.freeKey,freeKey,h.get];generalize ω'[k]? = x;rcases x with _|_|o
  ·rfl
  ·rfl
  ·exact zlh h n (k+1)
theorem z8y (pool:Nat):∀ (l:List Nat) {p:Fast.S3} {q:S3},RlP p q→RlP (Fast.toPool pool p l) (toPool pool q l)
 | [],_,_,h=>h
 | k::l,p,q,h=>by
  rw [Fast.toPool,toPool,h.ω.get];generalize q.2.1[k]? = x;rcases x with _|_|o
  ·exact z8y pool l h
  ·exact z8y pool l h
  ·show RlP (match Fast.freeKey p.2.1 100 pool with|some i=>_|none=>_) (match freeKey q.2.1 100 pool with|some i=>_|none=>_)
   rw [zlh h.ω]
   cases freeKey q.2.1 100 pool with
   | none=>exact z8y pool l h
   | some i=>exact z8y pool l (zfb h k i)
def RlI (iF:Fast.Inl) (i:Inl):Prop:=∀ (fx:Fx) (g:FnI) (vs:List SV) (o:Oper) (a:SF) (b:St) (kF:SF→Option T) (k:St→Option T) (t:T),Rl a b→(∀ a b t,Rl a b→kF a=some t→k b=some t)→iF fx g vs o a kF=some t→i fx g vs o b k=some t
theorem zli {iF:Fast.Inl} {i:Inl} (hi:RlI iF i) {fx:Fx} {ops:List Oper} {kF:SF→Option T} {k:St→Option T} (hk:∀ a b t,Rl a b→kF a=some t→k b=some t):∀ (l:List Oper) {a:SF} {b:St} (h:Rl a b) {t:T},Fast.seqRun iF fx ops l a kF=some t→seqRun i fx ops l b k=some t
 | [],a,b,h,t,he=>hk a b t h he
 | o::l,a,b,h,t,he=>by
  rw [Fast.seqRun] at he;rw [seqRun];rw [zlg h] at he;have step:∀ a b t,Rl a b→Fast.seqRun iF fx ops l a kF=some t→seqRun i fx ops l b k=some t:=fun a b t h he=>zli hi hk l h he
  have go:∀ a b t,Rl a b→(match Fast.inlOf fx a o with
    | some (g,vs)=>iF fx g vs o a fun s=>Fast.seqRun iF fx ops l s kF
    | none=>Fast.regDo fx.cx fx.nt ops o a fun s _=>Fast.seqRun iF fx ops l s kF)=some t→(match inlOf fx b o with
    | some (g,vs)=>i fx g vs o b fun s=>seqRun i fx ops l s k
    | none=>regDo fx.cx fx.nt ops o b fun s _=>seqRun i fx ops l s k)=some t:=by
   intro a b t h he;rw [zxo h] at he;generalize inlOf fx b o=io at he ⊢;rcases io with _|⟨g,vs⟩
   ·exact zd7 h (fun a b _ t h he=>step a b t h he) he
   ·exact hi fx g vs o a b _ _ t h step he
  cases hg:guardOf ops b o with
  | yes=>rw [hg] at he;simp only at he ⊢;exact go a b t h he
  | no=>rw [hg] at he;simp only at he ⊢;exact za7 h (fun a b _ t h he=>step a b t h he) he
  | fail=>rw [hg] at he;cases he
  | ask v =>
   rw [hg] at he;simp only at he ⊢;generalize hgd:o.guard=g at he;rcases g with _|⟨gj,gw⟩
   all_goals
    simp only at he ⊢
    split at he
    ·rename_i x y h1 h2
     have g1:=go _ _ _ (z8i h v _) h1;have g2:=za7 (z8i h v _) (fun a b _ t h he=>step a b t h he) h2
     split
     ·rename_i x' y' e1 e2
      cases e1.symm.trans g1
      cases e2.symm.trans g2
      exact he
     ·rename_i hno
      exact (hno x y g1 g2).elim
    ·cases he
theorem zfc {iF:Fast.Inl} {i:Inl} (hi:RlI iF i) {fx:Fx} {ops:List Oper} {an:List (List Nat)} {kF:SF→Option T} {k:St→Option T} (hk:∀ a b t,Rl a b→kF a=some t→k b=some t):∀ (m off:Nat) {a:SF} {b:St} (h:Rl a b) {t:T},Fast.segRun iF fx ops an m off a kF=some t→segRun i fx ops an m off b k=some t
 | 0,off,a,b,h,t,he=>by cases he
 | m+1,off,a,b,h,t,he=>by
  rw [Fast.segRun] at he;rw [segRun]
  cases hsp:zc5 fx.fns an ops.length (ops.drop off) off with
  | none =>
   rw [hsp] at he;simp only at he ⊢;refine zfa (fun a b r t h he=>?_) _ h _ he
   by_cases hi':z8s an off r=true
   ·rw [if_pos hi'] at he ⊢
    exact hk a b t h he
   ·rw [if_neg hi'] at he;cases he
  | some j =>
   rw [hsp] at he;simp only at he ⊢
   cases hoj:ops[j]? with
   | none=>rw [hoj] at he;cases he
   | some o' =>
    rw [hoj] at he;simp only at he ⊢
    by_cases hm:(zwo an j ops.length && o'.guard.isNone && Nat.ble off j)=true
    ·rw [if_pos hm] at he ⊢
     refine zfa (fun a b r t h he=>?_) _ h _ he
     by_cases hi':z8s an off r=true
     ·rw [if_pos hi'] at he ⊢
      rw [zxo h] at he;generalize inlOf fx b o'=io at he ⊢;rcases io with _|⟨g,vs⟩
      ·exact zd7 h (fun a b _ t h he=>zfc hi hk m (j+1) h he) he
      ·exact hi fx g vs o' a b _ _ t h (fun a b t h he=>zfc hi hk m (j+1) h he) he
     ·rw [if_neg hi'] at he;cases he
    ·rw [if_neg hm] at he;cases he
theorem z5c {iF:Fast.Inl} {i:Inl} (hi:RlI iF i) {fx:Fx}:∀ (c:Code) {a:SF} {b:St} (h:Rl a b) {kF:Ex→SF→Option T} {k:Ex→St→Option T} (hk:∀ e a b t,Rl a b→kF e a=some t→k e b=some t) {t:T},Fast.exec iF fx c a kF=some t→exec i fx c b k=some t
 | .skip,a,b,h,kF,k,hk,t,he=>hk _ _ _ _ h he
 | .label _,a,b,h,kF,k,hk,t,he=>hk _ _ _ _ h he
 | .exit _,a,b,h,kF,k,hk,t,he=>hk _ _ _ _ h he
 | .ret,a,b,h,kF,k,hk,t,he=>hk _ _ _ _ h he
 | .region id ops draw,a,b,h,kF,k,hk,t,he=>by
  rw [Fast.exec] at he;rw [exec]
  cases draw with
  | false =>
   simp only [if_true] at he ⊢;exact zli hi (fun a b t h he=>hk _ a b t h he) _ h he
  | true =>
   simp only [Bool.true_eq_false,if_false] at he ⊢
   split at he
   ·cases he
   rename_i hb;rw [if_neg hb];exact zfc hi (fun a b t h he=>hk _ a b t h he) 40 0 h he
 | .seq x y,a,b,h,kF,k,hk,t,he=>by
  rw [Fast.exec] at he;rw [exec];refine z5c hi x h (fun e a b t h he=>?_) he
  cases e with
  | normal=>exact z5c hi y h hk he
  | exit j=>exact hk _ _ _ _ h he
  | ret=>exact hk _ _ _ _ h he
 | .cond c x y,a,b,h,kF,k,hk,t,he=>by
  rw [Fast.exec] at he;rw [exec];rw [h.τ.run h.ω,h.kn] at he
  cases hr:(evA fx.cx 0 c).run b.τ b.ω with
  | none=>rw [hr] at he;cases he
  | some at' =>
   rw [hr] at he;simp only at he ⊢
   cases hv:evB b.kn at' with
   | some z =>
    rw [hv] at he
    cases z with
    | true=>exact z5c hi x h hk he
    | false=>exact z5c hi y h hk he
   | none =>
    rw [hv] at he
    cases at' with
    | c l=>cases he
    | v v =>
     simp only at he ⊢
     split at he
     ·rename_i t1 t2 h1 h2
      rw [z5c hi x (z8i h v true) hk h1,z5c hi y (z8i h v false) hk h2];exact he
     ·cases he
 | .block id x,a,b,h,kF,k,hk,t,he=>by
  rw [Fast.exec] at he;rw [exec];refine z5c hi x h (fun e a b t h he=>?_) he
  cases e with
  | normal=>exact hk _ _ _ _ h he
  | exit j =>
   simp only at he ⊢
   by_cases hj:j=id
   ·rw [if_pos hj] at he ⊢;exact hk _ _ _ _ h he
   ·rw [if_neg hj] at he ⊢;exact hk _ _ _ _ h he
  | ret=>exact hk _ _ _ _ h he
 | .loop x,a,b,h,kF,k,hk,t,he=>by
  rw [Fast.exec] at he;rw [exec];simp only at he ⊢;have hp:=zr5 h (z0s x) (zu x fx.hints);have hg:=znw b.kb (zu x fx.hints) b.n hp.τ hp.ω;rw [h.kb,h.n] at he
  split at he
  ·rename_i hs
   rw [hg.l] at hs;have hs':=zr6 hp.σ hp.σ hg.τ hp.τ hg.ω hp.ω hs;rw [if_pos hs']
   split at he
   ·rename_i t' ht
    have hr:Rl { a with τ:=(Fast.gen b.kb b.n (Fast.normS (z0s x) (zu x fx.hints) a).1 (Fast.normS (z0s x) (zu x fx.hints) a).2.1 (zu x fx.hints)).1.1,ω:=(Fast.gen b.kb b.n (Fast.normS (z0s x) (zu x fx.hints) a).1 (Fast.normS (z0s x) (zu x fx.hints) a).2.1 (zu x fx.hints)).1.2,n:=b.n+(Fast.gen b.kb b.n (Fast.normS (z0s x) (zu x fx.hints) a).1 (Fast.normS (z0s x) (zu x fx.hints) a).2.1 (zu x fx.hints)).2.length,lvl:=a.lvl+1,kb:=b.kb,σ:=(Fast.normS (z0s x) (zu x fx.hints) a).2.2 }
      { b with τ:=(gen b.kb b.n (normS (z0s x) (zu x fx.hints) b).1 (normS (z0s x) (zu x fx.hints) b).2.1 (zu x fx.hints)).1.1,ω:=(gen b.kb b.n (normS (z0s x) (zu x fx.hints) b).1 (normS (z0s x) (zu x fx.hints) b).2.1 (zu x fx.hints)).1.2,n:=b.n+(gen b.kb b.n (normS (z0s x) (zu x fx.hints) b).1 (normS (z0s x) (zu x fx.hints) b).2.1 (zu x fx.hints)).2.length,lvl:=b.lvl+1,σ:=(normS (z0s x) (zu x fx.hints) b).2.2 } :=
     ⟨hg.τ,hg.ω,by simp only [hg.l],by simp only [h.lvl],h.kn,rfl,hp.σ⟩
    have:=z5c hi x hr (k:=fun e s'=>match e with
     | .normal =>
      if s'.kb=b.kb∧(gen b.kb b.n (normS (z0s x) (zu x fx.hints) s').1 (normS (z0s x) (zu x fx.hints) s').2.1 (zu x fx.hints)).2.length=(gen b.kb b.n (normS (z0s x) (zu x fx.hints) b).1 (normS (z0s x) (zu x fx.hints) b).2.1 (zu x fx.hints)).2.length ∧
        sameS b.n (gen b.kb b.n (normS (z0s x) (zu x fx.hints) s').1 (normS (z0s x) (zu x fx.hints) s').2.1 (zu x fx.hints)).2 (normS (z0s x) (zu x fx.hints) b).2.2 (gen b.kb b.n (normS (z0s x) (zu x fx.hints) b).1 (normS (z0s x) (zu x fx.hints) b).2.1 (zu x fx.hints)).1.1 (gen b.kb b.n (normS (z0s x) (zu x fx.hints) b).1 (normS (z0s x) (zu x fx.hints) b).2.1 (zu x fx.hints)).1.2 (normS (z0s x) (zu x fx.hints) s').1 (normS (z0s x) (zu x fx.hints) s').2.1 (normS (z0s x) (zu x fx.hints) s').2.2
      then some (.again b.lvl (gen b.kb b.n (normS (z0s x) (zu x fx.hints) s').1 (normS (z0s x) (zu x fx.hints) s').2.1 (zu x fx.hints)).2) else none
     | e=>k e s') (fun e a' b' t h' he=>?_) ht
    ·refine Eq.trans (congrArg (fun o:Option T=>match o with|some t=>some (T.loop (gen b.kb b.n (normS (z0s x) (zu x fx.hints) b).1 (normS (z0s x) (zu x fx.hints) b).2.1 (zu x fx.hints)).2 t)|none=>none) this) ?_
     rw [hg.l] at he;exact he
    ·cases e with
     | exit j=>exact hk _ _ _ _ h' he
     | ret=>exact hk _ _ _ _ h' he
     | normal =>
      simp only at he ⊢;have hp':=zr5 h' (z0s x) (zu x fx.hints);have hg':=znw b.kb (zu x fx.hints) b.n hp'.τ hp'.ω
      split at he
      ·rename_i hc
       obtain ⟨c1,c2,c3⟩:=hc;rw [hg'.l,hg.l] at c2;rw [hg'.l] at c3;rw [if_pos ⟨by rw [← h'.kb];exact c1,c2,zr6 hp.σ hp'.σ hg.τ hp'.τ hg.ω hp'.ω c3⟩];rw [hg'.l,h.lvl] at he;exact he
      ·cases he
   ·cases he
  ·cases he
 | .rangeFunc ..,a,b,h,kF,k,hk,t,he=>by cases he
theorem zxp:∀ d,RlI (Fast.inlD d) (inlD d)
 | 0=>fun fx g vs o a b kF k t h hk he=>by cases he
 | d+1=>fun fx g vs o a b kF k t h hk he=>by
  rw [Fast.inlD] at he;rw [inlD]
  by_cases hl:g.nt<vs.length∨2048<g.nt
  ·rw [if_pos hl] at he;cases he
  rw [if_neg hl] at he;rw [if_neg (by omega)];obtain ⟨r1,r2⟩:=Tri.rep_ok (SV.one .und) 11 g.nt (by omega);obtain ⟨p1,p2⟩:=Tri.puts_ok vs 0 (Tri.rep (SV.one .und) 12 g.nt) r2 (by rw [r1,zY25];omega);have hτ:(Tri.puts 0 vs (Tri.rep (SV.one .und) 12 g.nt)).Is (vs++List.replicate (g.nt - vs.length) (.one .und)):=by
   refine ⟨p2,?_⟩;rw [p1,r1];simp only [List.take_zero,zY11,zY0q,List.drop_replicate]
  have hra:Fast.rowArgs fx.cx.cut a.τ o=rowArgs fx.cx.cut b.τ o:=by
   unfold Fast.rowArgs rowArgs;congr 1
   cases o.op with
   | call c =>
    simp only;congr 1
    funext x
    cases x with
    | tmp t=>simp only [h.τ.get];rfl
    | _=>rfl
   | _=>rfl
  have hT:=zgy (rowArgs fx.cx.cut b.τ o) h.τ;rw [hra] at he;have hσ:IsS (Fast.topAll a.τ (rowArgs fx.cx.cut b.τ o)::a.σ) (topAll b.τ (rowArgs fx.cx.cut b.τ o)++b.σ):=by
   refine ⟨fun t ht=>?_,by rw [zY1u,hT.2,h.σ.2]⟩;rcases zY0i.1 ht with rfl|ht
   ·exact hT.1
   ·exact h.σ.1 t ht
  refine z5c (zxp d) g.body (a:={ a with τ:=Tri.puts 0 vs (Tri.rep (.one .und) 12 g.nt),kb:=a.kb+fx.mul * fx.nt,σ:=Fast.topAll a.τ (rowArgs fx.cx.cut b.τ o)::a.σ }) (b:={ b with τ:=vs++List.replicate (g.nt - vs.length) (.one .und),kb:=b.kb+fx.mul * fx.nt,σ:=topAll b.τ (rowArgs fx.cx.cut b.τ o)++b.σ }) ⟨hτ,h.ω,h.n,h.lvl,h.kn,by simp only [h.kb],hσ⟩ (fun e a2 b2 t h2 he=>?_) he
  cases e with
  | exit j=>cases he
  | _ =>
   simp only at he ⊢;rw [h2.τ.run h2.ω] at he
   cases hr:(z7c fx.cx g.results).run b2.τ b2.ω with
   | none=>rw [hr] at he;cases he
   | some svs =>
    rw [hr] at he;simp only at he ⊢
    cases hv:zai svs with
    | none=>rw [hv] at he;cases he
    | some sv =>
     rw [hv] at he;simp only at he ⊢
     split at he
     ·cases he
     ·rename_i τ0 σ0 hs
      split at he
      ·cases he
      ·rename_i hz
       have hz:τ0.size=a.τ.size:=by
        cases hb:Nat.beq τ0.size a.τ.size with
        | false=>exact absurd hb hz
        | true=>exact zY0t hb
       have hw:∀ t ∈ τ0::σ0,t.wf:=by rw [← hs];exact h2.σ.1
       have hf:τ0.toL++σ0.flatMap Tri.toL=b2.σ:=by rw [← zY1u,← hs];exact h2.σ.2
       have w0:=hw τ0 (zY0h ..);have hlen:τ0.toL.length=b.τ.length:=by rw [← Tri.size_eq w0,hz,Tri.size_eq h.τ.1,h.τ.2]
       have h0:τ0.Is (b2.σ.take b.τ.length):=⟨w0,by rw [← hf,← hlen,List.take_left]⟩
       have hσ0:IsS σ0 (b2.σ.drop b.τ.length):=⟨fun t ht=>hw t (zY0d _ ht),by rw [← hf,← hlen,List.drop_left]⟩
       obtain ⟨w1,w2⟩:=zgx (zx o sv) h0 h2.ω;rw [Tri.size_eq w2.1,w2.2,h.kb] at he;have hq:=z8y fx.pool (List.range' (b.kb+fx.mul * fx.nt) (fx.mul * g.nt)) (p:=((Fast.wrT τ0 a2.ω (zx o sv)).1,Fast.dropAll (Fast.wrT τ0 a2.ω (zx o sv)).1 (Fast.wrT τ0 a2.ω (zx o sv)).2 σ0 (List.range (wr (b2.σ.take b.τ.length) b2.ω (zx o sv)).2.length),σ0))
        (q:=((wr (b2.σ.take b.τ.length) b2.ω (zx o sv)).1,dropAll (wr (b2.σ.take b.τ.length) b2.ω (zx o sv)).1 (wr (b2.σ.take b.τ.length) b2.ω (zx o sv)).2 (b2.σ.drop b.τ.length) (List.range (wr (b2.σ.take b.τ.length) b2.ω (zx o sv)).2.length),b2.σ.drop b.τ.length)) ⟨w1,z7g w1 hσ0 _ w2,hσ0⟩
       have hh:=fun s h'=>hk _ s t h' he
       exact hh _ ⟨hq.τ,hq.ω,h2.n,h2.lvl,h2.kn,rfl,hq.σ⟩
theorem z0eo (sig:Sig) (nt cap:Nat) (h1:nt≤2048) (h2:cap+(z02 0 cap sig.args).2.1.length≤8192) (h3:(z02 0 cap sig.args).1.length≤nt):Rl (Fast.initS sig nt cap) (initS sig nt cap):=by
 obtain ⟨r1,r2⟩:=Tri.rep_ok (SV.one .und) 11 nt (by omega);obtain ⟨p1,p2⟩:=Tri.puts_ok (z02 0 cap sig.args).1 0 (Tri.rep (SV.one .und) 12 nt) r2 (by rw [r1,zY25];omega);obtain ⟨r3,r4⟩:=Tri.rep_ok (none:Option Ob) 13 (cap+(z02 0 cap sig.args).2.1.length) (by omega);obtain ⟨p3,p4⟩:=Tri.puts_ok ((z02 0 cap sig.args).2.1.map some) cap (Tri.rep (none:Option Ob) 14 (cap+(z02 0 cap sig.args).2.1.length)) r4 (by rw [r3,zY25,zY0w];omega);refine ⟨⟨p2,?_⟩,⟨p4,?_⟩,rfl,rfl,rfl,rfl,⟨fun t ht=>(by cases ht),rfl⟩⟩
 ·show (Tri.puts 0 (z02 0 cap sig.args).1 (Tri.rep (SV.one .und) 12 nt)).toL=(z02 0 cap sig.args).1++List.replicate (nt - (z02 0 cap sig.args).1.length) (.one .und)
  rw [p1,r1];simp only [List.take_zero,zY11,zY0q,List.drop_replicate]
 ·show (Tri.puts cap ((z02 0 cap sig.args).2.1.map some) (Tri.rep (none:Option Ob) 14 (cap+(z02 0 cap sig.args).2.1.length))).toL=List.replicate cap none++(z02 0 cap sig.args).2.1.map some
  rw [p3,r3];simp only [List.take_replicate,List.drop_replicate,zY0w,Nat.sub_self,List.replicate_zero,zY23];rw [zY28 (by omega)]
theorem zr7 {a:SF} {b:St} (h:Rl a b) (cx:Cx) (sig:Sig) (rs:List ResultVar):Fast.outOf cx sig rs a=outOf cx sig rs b:=by
 unfold Fast.outOf outOf;rw [h.τ.run h.ω]
 cases (z7c cx rs).run b.τ b.ω with
 | none=>rfl
 | some vs =>
  simp only [zY08,zY05];rw [h.τ.run h.ω]
theorem ze8 {fx:Fx} {sig:Sig} {fn:Func} {t:T} (he:Fast.decompN fx sig fn=some t):decomp fx sig fn=some t:=by
 unfold Fast.decompN at he
 split at he
 ·cases he
 rename_i t' he';rw [zlf] at he
 cases he
 unfold Fast.decomp at he';unfold decomp
 split at he'
 ·cases he'
 rename_i hc;rw [if_neg (by
  rintro (h|h)
  ·exact hc (.inl h)
  ·exact hc (.inr (.inl h)))]
 cases hb:fn.body with
 | none=>rw [hb] at he';cases he'
 | some c =>
  rw [hb] at he';simp only at he' ⊢;refine z5c (zxp fx.dep) c (z0eo sig fn.ntmps fx.cap (by omega) (by omega) (by omega)) (fun e a b t h he=>?_) he'
  cases e with
  | exit j=>cases he
  | normal=>rw [← zr7 h];exact he
  | ret=>rw [← zr7 h];exact he
end
section
open Go.RowKit
theorem zj {sp:Nat→z9} {sigs:List (Nat × Sig)} {cut:List Nat} {hints:List Hint} {sig:Sig} {f:Nat} {fn:Func} {t:T} {spec:z9} (hf:Tryz.prog.funcs[f]? = some fn) (hname:(fn.name == "runtime.NumGoroutine")=false)
  (hdec:Fast.decompN (fxOf zle sigs fn cut hints [] 0) sig fn=some t) (hsig:∀ ci f s,sigs[ci]? = some (f,s)→Meets Tryz.prog (sp ci) f s) (hspec:∀ ds rs,(∀ d ∈ ds,d.ok)→spec ds=some rs→(∃ N,den sp N t ds []=some rs)∧z6m sig rs):Meets Tryz.prog spec f sig :=
 z5q hf hname (ze8 hdec) hsig hspec
theorem z5r {sp:Nat→z9} {sigs:List (Nat × Sig)} {cut:List Nat} {hints:List Hint} {sig:Sig} {f:Nat} {fn:Func} {t:T} {spec:z9} {fns:List FnI} {dep pool:Nat} (hf:Tryz.prog.funcs[f]? = some fn) (hname:(fn.name == "runtime.NumGoroutine")=false)
  (hdec:Fast.decompN (fxIn zle sigs fn cut hints fns dep pool) sig fn=some t) (hfn:∀ g ∈ fns,zcb Tryz.prog g) (hsig:∀ ci f s,sigs[ci]? = some (f,s)→Meets Tryz.prog (sp ci) f s) (hspec:∀ ds rs,(∀ d ∈ ds,d.ok)→spec ds=some rs→(∃ N,den sp N t ds []=some rs)∧z6m sig rs):Meets Tryz.prog spec f sig :=
 z0i8 hf hname (ze8 hdec) hfn hsig hspec
def z07:List (Nat × z9)→Nat→z9
 | [],_=>fun _=>none
 | (i,s)::r,ci=>cond (Nat.beq ci i) s (z07 r ci)
def AllM (P:Program) (sigs:List (Nat × Sig)):List (Nat × z9)→Prop
 | []=>True
 | (i,s)::r=>(∀ f g,sigs[i]? = some (f,g)→Meets P s f g)∧AllM P sigs r
theorem za {P:Program} {sigs:List (Nat × Sig)} {i f0:Nat} {g0:Sig} {s:z9} (h0:sigs[i]? = some (f0,g0)) (hm:Meets P s f0 g0):∀ f g,sigs[i]? = some (f,g)→Meets P s f g:=fun f g h=>by
 rw [h0] at h
 cases h
 exact hm
theorem z01 {P:Program} {sigs:List (Nat × Sig)}:∀ {L:List (Nat × z9)},AllM P sigs L→∀ ci f s,sigs[ci]? = some (f,s)→Meets P (z07 L ci) f s
 | [],_,ci,f,s,_=>z0t f s
 | (i,sp)::r,⟨h1,h2⟩,ci,f,s,h=>by
  show Meets P (cond (Nat.beq ci i) sp (z07 r ci)) f s
  cases hb:Nat.beq ci i with
  | true =>
   have:=zY0t hb;subst this;exact h1 f s h
  | false=>exact z01 h2 ci f s h
class Enc (α:Type) where
 e:α→List Dt
 n:Nat
 len:∀ x,(e x).length=n
 inj:∀ x y,e x=e y→x=y
instance:Enc Int:=⟨z19,1,fun _=>rfl,zjv⟩
instance:Enc Bool:=⟨zf2,1,fun _=>rfl,fun x y h=>by simpa [zf2] using h⟩
instance (priority:=high):Enc (List UInt8):=⟨z0g,1,fun _=>rfl,zxf⟩
instance:Enc Op:=⟨eOp,2,fun _=>rfl,zim⟩
instance:Enc Point:=⟨z5g,2,fun _=>rfl,z8x⟩
instance:Enc In:=⟨eIn,3,fun _=>rfl,z0a0⟩
instance:Enc Out:=⟨z17,2,fun _=>rfl,zxg⟩
instance:Enc Tx:=⟨eTx,3,fun _=>rfl,znr⟩
instance:Enc Coin:=⟨zd,6,fun _=>rfl,zd6⟩
instance:Enc Undo:=⟨zik,1,fun _=>rfl,z0ee⟩
instance:Enc Book:=⟨za3,1,fun _=>rfl,z0ef⟩
instance:Enc Block:=⟨zak,5,fun _=>rfl,zla⟩
instance:Enc Tree:=⟨zf3,2,fun _=>rfl,zqy⟩
instance:Enc Unit:=⟨fun _=>[],0,fun _=>rfl,fun _ _ _=>rfl⟩
instance {α:Type} [Enc α]:Enc (List α):=⟨fun l=>[.l (Enc.n α) (l.map Enc.e)],1,fun _=>rfl,fun x y h=>by
 simp only [zY22,Dt.l.injEq,true_and,and_true] at h
 exact z3u Enc.inj h⟩
instance {α β:Type} [Enc α] [Enc β]:Enc (α × β):=⟨fun x=>Enc.e x.1++Enc.e x.2,Enc.n α+Enc.n β,fun x=>by rw [zY06,Enc.len,Enc.len],fun x y h=>by
 obtain ⟨h1,h2⟩:=List.append_inj h (by rw [Enc.len,Enc.len])
 exact Prod.ext (Enc.inj _ _ h1) (Enc.inj _ _ h2)⟩
noncomputable def spD {α β:Type} [Enc α] [Enc β] (p:α→Prop) (f:α→β):z9:=z00 (fun x:{ x:α // p x }=>Enc.e x.1) fun x=>Enc.e (f x.1)
section
variable {α β:Type} [Enc α] [Enc β] {p:α→Prop} {f:α→β}
theorem zg (x:α) (h:p x):spD p f (Enc.e x)=some (Enc.e (f x)):=z6p (e:=fun x:{ x:α // p x }=>Enc.e x.1) (fun x y h=>Subtype.ext (Enc.inj _ _ h)) ⟨x,h⟩
theorem zi {ds rs:List Dt} (h:spD p f ds=some rs):∃ x,p x∧ds=Enc.e x∧rs=Enc.e (f x):=by
 obtain ⟨x,rfl,rfl⟩:=z2p h;exact ⟨x.1,x.2,rfl,rfl⟩
end
def ret {ρ:Type} [Enc ρ] (x:ρ):Option (List Dt):=some (Enc.e x)
section
variable {ρ:Type} [Enc ρ] {sp:Nat→z9} {N:Nat} {E:Env} {ks:List (List Dt→Option (List Dt))} {r1 r2:ρ} {a:Atom} {t e:T}
theorem z0ll {c:Prop} [Decidable c] {d:Bool} (h:a.val E=some (.b d)) (hd:d=decide c) (ht:c→den sp N t E ks=ret r1) (he:¬ c→den sp N e E ks=ret r2):den sp N (.ite a t e) E ks=ret (if c then r1 else r2):=by
 subst hd;refine z1b h (fun h=>?_) (fun h=>?_)
 ·have h:=of_decide_eq_true h;rw [if_pos h];exact ht h
 ·have h:=of_decide_eq_false h;rw [if_neg h];exact he h
theorem z0lm {c:Prop} [Decidable c] {d:Bool} (h:a.val E=some (.b (!d))) (hd:d=decide c) (ht:¬ c→den sp N t E ks=ret r2) (he:c→den sp N e E ks=ret r1):den sp N (.ite a t e) E ks=ret (if c then r1 else r2):=by
 subst hd;refine z1b h (fun h=>?_) (fun h=>?_)
 ·have h:¬ c:=by simpa using h
  rw [if_neg h];exact ht h
 ·have h:c:=by simpa using h
  rw [if_pos h];exact he h
theorem z0ln {b d:Bool} (h:a.val E=some (.b d)) (hd:d=b) (ht:b=true→den sp N t E ks=ret r1) (he:b=false→den sp N e E ks=ret r2):den sp N (.ite a t e) E ks=ret (if b=true then r1 else r2):=by
 subst hd;refine z1b h (fun h=>?_) (fun h=>?_)
 ·rw [if_pos h];exact ht h
 ·rw [if_neg (by simp [h])];exact he h
theorem z0ib {b d:Bool} (h:a.val E=some (.b (!d))) (hd:d=b) (ht:b=false→den sp N t E ks=ret r2) (he:b=true→den sp N e E ks=ret r1):den sp N (.ite a t e) E ks=ret (if b=true then r1 else r2):=by
 subst hd;refine z1b h (fun h=>?_) (fun h=>?_)
 ·have h:d=false:=by simpa using h
  rw [if_neg (by simp [h])];exact ht h
 ·have h:d=true:=by simpa using h
  rw [if_pos h];exact he h
theorem z0lo {b d:Bool} (h:a.val E=some (.b d)) (hd:d=b) (ht:b=true→den sp N t E ks=ret r2) (he:b=false→den sp N e E ks=ret r1):den sp N (.ite a t e) E ks=ret (if b=false then r1 else r2):=by
 subst hd;refine z1b h (fun h=>?_) (fun h=>?_)
 ·rw [if_neg (by simp [h])];exact ht h
 ·rw [if_pos h];exact he h
theorem z0ic {b d:Bool} (h:a.val E=some (.b (!d))) (hd:d=b) (ht:b=false→den sp N t E ks=ret r1) (he:b=true→den sp N e E ks=ret r2):den sp N (.ite a t e) E ks=ret (if b=false then r1 else r2):=by
 subst hd;refine z1b h (fun h=>?_) (fun h=>?_)
 ·have h:d=false:=by simpa using h
  rw [if_pos h];exact ht h
 ·have h:d=true:=by simpa using h
  rw [if_neg (by simp [h])];exact he h
section
variable {p q r:Prop} [Decidable p] [Decidable r] {d:Bool}
theorem z0ep [Decidable q] [Decidable (p∧q)] (h:a.val E=some (.b d)) (hd:d=decide p) (ht:p→den sp N t E ks=ret (if q then r1 else r2)) (he:¬ p→den sp N e E ks=ret r2):den sp N (.ite a t e) E ks=ret (if p∧q then r1 else r2):=by
 subst hd;refine z1b h (fun h=>?_) (fun h=>?_)
 ·have h:=of_decide_eq_true h;simp only [h,true_and];exact ht h
 ·have h:=of_decide_eq_false h;simp only [h,false_and,if_false];exact he h
theorem z0id [Decidable q] [Decidable (p∨q)] (h:a.val E=some (.b d)) (hd:d=decide p) (ht:p→den sp N t E ks=ret r1) (he:¬ p→den sp N e E ks=ret (if q then r1 else r2)):den sp N (.ite a t e) E ks=ret (if p∨q then r1 else r2):=by
 subst hd;refine z1b h (fun h=>?_) (fun h=>?_)
 ·have h:=of_decide_eq_true h;simp only [h,true_or,if_true];exact ht h
 ·have h:=of_decide_eq_false h;simp only [h,false_or];exact he h
theorem z064 [Decidable ((p∧q)∨r)] [Decidable (q∨r)] (h:a.val E=some (.b d)) (hd:d=decide p) (ht:p→den sp N t E ks=ret (if q∨r then r1 else r2)) (he:¬ p→den sp N e E ks=ret (if r then r1 else r2)):den sp N (.ite a t e) E ks=ret (if (p∧q)∨r then r1 else r2):=by
 subst hd;refine z1b h (fun h=>?_) (fun h=>?_)
 ·have h:=of_decide_eq_true h;simp only [h,true_and];exact ht h
 ·have h:=of_decide_eq_false h;simp only [h,false_and,false_or];exact he h
theorem z065 [Decidable ((p∨q)∧r)] [Decidable (q∧r)] (h:a.val E=some (.b d)) (hd:d=decide p) (ht:p→den sp N t E ks=ret (if r then r1 else r2)) (he:¬ p→den sp N e E ks=ret (if q∧r then r1 else r2)):den sp N (.ite a t e) E ks=ret (if (p∨q)∧r then r1 else r2):=by
 subst hd;refine z1b h (fun h=>?_) (fun h=>?_)
 ·have h:=of_decide_eq_true h;simp only [h,true_or,true_and];exact ht h
 ·have h:=of_decide_eq_false h;simp only [h,false_or];exact he h
end
theorem z0pq {c:Prop} {i:Decidable c} {res:Option (List Dt)} (h:a.val E=some (.b (@decide c i))) (hc:c) (ht:den sp N t E ks=res):den sp N (.ite a t e) E ks=res:=z0h (by rw [h,decide_eq_true hc]) ht
theorem z0pr {c:Prop} {i:Decidable c} {res:Option (List Dt)} (h:a.val E=some (.b (@decide c i))) (hc:¬ c) (he:den sp N e E ks=res):den sp N (.ite a t e) E ks=res:=z0m (by rw [h,decide_eq_false hc]) he
theorem z36 {c:Prop} {i:Decidable c} {res:Option (List Dt)} (h:a.val E=some (.b (@decide c i))) (ht:c→den sp N t E ks=res) (he:¬ c→den sp N e E ks=res):den sp N (.ite a t e) E ks=res:=z1b h (fun h=>ht (of_decide_eq_true h)) (fun h=>he (of_decide_eq_false h))
theorem z0ie {b q d:Bool} (h:a.val E=some (.b d)) (hd:d=b) (ht:b=true→den sp N t E ks=ret q) (he:b=false→den sp N e E ks=ret false):den sp N (.ite a t e) E ks=ret (b && q):=by
 subst hd;refine z1b h (fun h=>?_) (fun h=>?_)
 ·rw [h,zY2y];exact ht h
 ·rw [h,zY3l];exact he h
theorem z0lp {b q d:Bool} (h:a.val E=some (.b d)) (hd:d=b) (ht:b=true→den sp N t E ks=ret true) (he:b=false→den sp N e E ks=ret q):den sp N (.ite a t e) E ks=ret (b || q):=by
 subst hd;refine z1b h (fun h=>?_) (fun h=>?_)
 ·rw [h,Bool.true_or];exact ht h
 ·rw [h,zY35];exact he h
end
section
variable {sp:Nat→z9} {N:Nat} {E:Env} {ks:List (List Dt→Option (List Dt))} {a b:Atom} {m n:Int}
theorem z0oa (ha:a.val E=some (I m)) (hb:b.val E=some (I n)):denX sp E (.bin .eql a b)=some (.b (decide (m=n))):=by simp only [denX,ha,hb,zY08,zY05];rfl
theorem z0ob (ha:a.val E=some (I m)) (hb:b.val E=some (I n)):denX sp E (.bin .neq a b)=some (.b (decide (m≠n))):=by
 have e:denX sp E (.bin .neq a b)=some (.b (!decide (m=n))):=by simp only [denX,ha,hb,zY08,zY05];rfl
 rw [e];simp
theorem z0oc (ha:a.val E=some (I m)) (hb:b.val E=some (I n)):denX sp E (.bin .lss a b)=some (.b (decide (m<n))):=by simp only [denX,ha,hb,zY08,zY05];rfl
theorem z0od (ha:a.val E=some (I m)) (hb:b.val E=some (I n)):denX sp E (.bin .leq a b)=some (.b (decide (m≤n))):=by simp only [denX,ha,hb,zY08,zY05];rfl
theorem z0oe (ha:a.val E=some (I m)) (hb:b.val E=some (I n)):denX sp E (.bin .gtr a b)=some (.b (decide (n<m))):=by simp only [denX,ha,hb,zY08,zY05];rfl
theorem z0of (ha:a.val E=some (I m)) (hb:b.val E=some (I n)):denX sp E (.bin .geq a b)=some (.b (decide (n≤m))):=by simp only [denX,ha,hb,zY08,zY05];rfl
theorem z0og {x y:List UInt8} (ha:a.val E=some (.s x)) (hb:b.val E=some (.s y)):denX sp E (.bin .eql a b)=some (.b (decide (x=y))):=by simp only [denX,ha,hb,zY08,zY05];rfl
theorem z0oh {x y:List UInt8} (ha:a.val E=some (.s x)) (hb:b.val E=some (.s y)):denX sp E (.bin .neq a b)=some (.b (decide (x≠y))):=by
 have e:denX sp E (.bin .neq a b)=some (.b (!decide (x=y))):=by simp only [denX,ha,hb,zY08,zY05];rfl
 rw [e];simp
theorem z0oi {x y:Bool} (ha:a.val E=some (.b x)) (hb:b.val E=some (.b y)):denX sp E (.beq false a b)=some (.b (decide (x=y))):=by simp only [denX,ha,hb];simp
theorem z0oj {x y:Bool} (ha:a.val E=some (.b x)) (hb:b.val E=some (.b y)):denX sp E (.beq true a b)=some (.b (decide (x≠y))):=by simp only [denX,ha,hb];simp
theorem z0ok {x:Bool} (ha:a.val E=some (.b x)):denX sp E (.not a)=some (.b (!x)):=by simp only [denX,ha]
theorem z0eq {ats:List Atom} {i:Atom} {ds:List Dt} {d:Dt} (hv:vals E ats=some ds) (hi:i.val E=some (I m)) (h0:0≤m) (hd:ds[m.toNat]? = some d):denX sp E (.sel ats i)=some d:=by
 simp only [denX,hv,hi,asI,if_pos h0];exact hd
theorem z0ps (ha:a.val E=some (I m)) (hb:b.val E=some (I n)):denX sp E (.mn a b)=some (I (if n<m then n else m)):=by simp only [denX,ha,hb,if_true]
theorem z0lq {x:List UInt8} (ha:a.val E=some (.s x)):denX sp E (.slen a)=some (I x.length):=by simp only [denX,ha]
theorem z0ol (ha:a.val E=some (I m)) (hw : -9223372036854775808 ≤ -m ∧ -m≤9223372036854775807):denX sp E (.neg a)=some (I (-m)):=by
 have e:denX sp E (.neg a)=some (I (IntKind.i64.wrap (0 - m))):=by simp only [denX,ha]
 rw [e,Int.zero_sub,wrap_i64 hw]
theorem z0om {p q:Point} {a1 a2 b1 b2:Atom} (h1:a1.val E=some (I p.tx)) (h2:b1.val E=some (I q.tx)) (h3:a2.val E=some (I p.at_)) (h4:b2.val E=some (I q.at_)):denX sp E (.eqs false [(a1,b1),(a2,b2)])=some (.b (decide (p=q))):=by
 obtain ⟨p1,p2⟩:=p;obtain ⟨q1,q2⟩:=q;simp only at h1 h2 h3 h4;simp only [denX,eqsD,h1,h2,h3,h4,eqD,zY08,zY05,if_true,zY1f,Point.mk.injEq]
 by_cases hx:p1=q1 <;> by_cases hy:p2=q2 <;> simp [hx,hy]
theorem z0on {p q:Point} {a1 a2 b1 b2:Atom} (h1:a1.val E=some (I p.tx)) (h2:b1.val E=some (I q.tx)) (h3:a2.val E=some (I p.at_)) (h4:b2.val E=some (I q.at_)):denX sp E (.eqs true [(a1,b1),(a2,b2)])=some (.b (decide (p≠q))):=by
 obtain ⟨p1,p2⟩:=p;obtain ⟨q1,q2⟩:=q;simp only at h1 h2 h3 h4;simp only [denX,eqsD,h1,h2,h3,h4,eqD,zY08,zY05,if_true,zY1f,ne_eq,Point.mk.injEq]
 by_cases hx:p1=q1 <;> by_cases hy:p2=q2 <;> simp [hx,hy]
theorem z0if {ci:Nat} {args:List Atom} {xs:List X} {ds rs:List Dt} (h:vals E args=some ds) (hs:sp ci ds=some rs) (hx:X.call ci args 0::xs=(List.range rs.length).map fun j=>.call ci args j):z0f sp E (.call ci args 0::xs)=some rs:=hx ▸ zr0 h hs
variable {α:Type} {f:α→List Dt} {l l':List α} {x:α} {sz:Nat}
theorem z0oo (ha:a.val E=some (.l sz (l.map f))):denX sp E (.len a)=some (I l.length):=by simp only [denX,ha,zY0w]
theorem z0lr (ha:a.val E=some (.l sz [])):denX sp E (.len a)=some (I 0):=by simp only [denX,ha,zY13];rfl
theorem z0op (ha:a.val E=some (.l sz (l.map f))) (hb:b.val E=some (I m)) (h0:0≤m) (h1:m<l.length):z0k sp E [.inr sz a b]=true:=z0z ha hb h0 (by rw [zY0w];exact h1)
theorem zlj {j:Nat} {d:Dt} (ha:a.val E=some (.l sz (l.map f))) (hb:b.val E=some (I m)) (h0:0≤m) (hx:l[m.toNat]? = some x) (hj:(f x)[j]? = some d):denX sp E (.idx a b j)=some d:=z0w ha hb h0 (by rw [zY0j,hx];rfl) hj
theorem z0pt {xs:List X} (ha:a.val E=some (.l sz (l.map f))) (hb:b.val E=some (I m)) (h0:0≤m) (hx:l[m.toNat]? = some x) (hxs:X.idx a b 0::xs=(List.range (f x).length).map fun j=>.idx a b j):z0f sp E (.idx a b 0::xs)=some (f x):=by
 rw [hxs];have key:∀ (n j:Nat),j+n=(f x).length→z0f sp E ((List.range' j n).map fun j=>.idx a b j)=some ((f x).drop j):=by
  intro n
  induction n with
  | zero=>intro j hj;simp [z0f,zY27 (show (f x).length≤j by omega)]
  | succ n ih =>
   intro j hj;rw [List.range'_succ,zY1t,zY14 (by omega:j<(f x).length)];exact z3l (zlj ha hb h0 hx (zY03 _)) (ih (j+1) (by omega))
 have:=key (f x).length 0 (by omega);rw [List.range_eq_range'];simpa using this
theorem zam (ha:a.val E=some (.l sz (l.map f))) (hb:b.val E=some (.l sz (l'.map f))) (h:l.length+l'.length≤1000000):denX sp E (.app sz a b)=some (.l sz ((l++l').map f)):=by
 rw [z0ld ha hb (by simpa using h),zY24]
theorem z0ls (hy:∀ x,(f x).length=sz) (ha:a.val E=some (.l sz (l.map f))) (hb:b.val E=some (.l sz [f x])) (h:l.length+1≤1000000):denX sp E (.app sz a b)=some (.l sz ((l++[x]).map f)):=zam (l':=[x]) ha hb h
theorem zxq {lo hi:Option Atom} {m n:Int} (ha:a.val E=some (.l sz (l.map f))) (hl:bndI E 0 lo=some m) (hh:bndI E l.length hi=some n) (h0:0≤m) (h1:m≤n) (h2:n≤l.length):denX sp E (.sub sz a lo hi)=some (.l sz (((l.take n.toNat).drop m.toNat).map f)):=by
 simp only [denX,ha,hl,hh,zY0w,zY08,zY05];rw [if_pos ⟨trivial,h0,h1,h2⟩,List.map_drop,List.map_take]
theorem z0lt {hi:Atom} {n:Int} {t:List α} (ha:a.val E=some (.l sz (l.map f))) (hh:hi.val E=some (I n)) (h1:0≤n) (h2:n≤l.length) (ht:l.take n.toNat=t):denX sp E (.sub sz a none (some hi))=some (.l sz (t.map f)):=by
 have hb:bndI E (l.length:Int) (some hi)=some n:=by show asI (hi.val E)=some n;rw [hh];rfl
 have:=zxq (lo:=none) (hi:=some hi) (m:=0) (n:=n) (sp:=sp) ha rfl hb (by omega) h1 h2;rw [this,ht];rfl
theorem z0oq {j:Nat} {vs:List Atom} {ds:List Dt} {y:α} (ha:a.val E=some (.l sz (l.map f))) (hb:b.val E=some (I m)) (hv:vals E vs=some ds) (h0:0≤m) (hs:j+ds.length≤sz) (hx:l[m.toNat]? = some x) (hy:z79 (f x) j ds=f y):denX sp E (.set a b j vs)=some (.l sz ((l.set m.toNat y).map f)):=by
 simp only [denX,ha,hb,hv,asI];rw [if_pos ⟨h0,hs⟩,zY0j,hx];simp only [zY10,hy,List.map_set]
theorem zfd {j:Nat} {vs:List Atom} {ds:List Dt} (ha:a.val E=some (.l sz (l.map f))) (hb:b.val E=some (I m)) (hv:vals E vs=some ds) (h0:0≤m) (hs:j+ds.length≤sz) (hx:l[m.toNat]? = some x) (hy:z79 (f x) j ds=f x):denX sp E (.set a b j vs)=some (.l sz (l.map f)):=by
 rw [z0oq (y:=x) ha hb hv h0 hs hx hy];congr 3;obtain ⟨h1,h2⟩:=zY02.1 hx;rw [← h2,List.set_getElem_self]
theorem zw {σ ρ:Type} [Enc ρ] {ats:List Atom} {body:T} (enc:σ→Int→List Dt) (go:σ→Nat→List α→ρ) (Inv:σ→Nat→Prop) (s0:σ) (l:List α) (h:vals E ats=some (enc s0 0)) (h0:Inv s0 0) (hN:l.length<N)
  (step:∀ (s:σ) (k:Nat) (x:α) (r:List α),l[k]? = some x→l.drop k=x::r→k<l.length→Inv s k→∀ again:List Dt→Option (List Dt),(∀ s',Inv s' (k+1)→again (enc s' ((k:Int)+1))=ret (go s' (k+1) r))→den sp N body (E++enc s k) (ks++[again])=ret (go s k (x::r)))
  (last:∀ (s:σ),Inv s l.length→∀ again:List Dt→Option (List Dt),den sp N body (E++enc s l.length) (ks++[again])=ret (go s l.length [])):den sp N (.loop ats body) E ks=ret (go s0 0 l):=by
 refine z0r h ?_;have key:∀ (n k:Nat) (s:σ),k+n=l.length→Inv s k→∀ M,n<M→z04 (fun again ds=>den sp N body (E++ds) (ks++[again])) M (enc s k)=ret (go s k (l.drop k)):=by
  intro n
  induction n with
  | zero =>
   intro k s hk hi M hM;obtain ⟨M,rfl⟩:∃ j,M=j+1:=⟨M - 1,by omega⟩
   obtain rfl:k=l.length:=by omega
   rw [z04,zY21];exact last s hi _
  | succ n ih =>
   intro k s hk hi M hM;obtain ⟨M,rfl⟩:∃ j,M=j+1:=⟨M - 1,by omega⟩
   have hkl:k<l.length:=by omega
   have hd:l.drop k=l[k]::l.drop (k+1):=zY14 hkl;rw [z04,hd];refine step s k l[k] (l.drop (k+1)) (zY03 hkl) hd hkl hi _ fun s' hi'=>?_
   have:=ih (k+1) s' (by omega) hi' M (by omega)
   rwa [show ((k+1:Nat):Int)=(k:Int)+1 by omega] at this
 exact key l.length 0 s0 (by omega) h0 N hN
end
section
variable {sp:Nat→z9} {N:Nat} {E E':Env} {ks:List (List Dt→Option (List Dt))} {res:Option (List Dt)} {k t e:T} {d:Dt} {ds rs:List Dt} {a:Atom}
theorem dq1 {x:X} (hk:den sp N k E' ks=res) (h:denX sp E x=some d:=by first|exact z0oa rfl rfl|exact z0ob rfl rfl|exact z0oc rfl rfl|exact z0oe rfl rfl|exact z0of rfl rfl|exact z0od rfl rfl|exact z0oo rfl|exact z7f rfl rfl (by omega)|exact z0lk rfl rfl (by omega)|exact zlj rfl rfl (by omega) (by first|assumption|exact hx) rfl|exact z0ok rfl|exact z0lr rfl|exact z0og rfl rfl|exact z0oh rfl rfl|exact z0oi rfl rfl|exact z0oj rfl rfl|exact z0om rfl rfl rfl rfl|exact z0on rfl rfl rfl rfl|exact z0ol rfl (by omega)|exact z0lt rfl rfl (by omega) (by omega) (by assumption)|exact z28 (r:=[[I _]]) rfl rfl (by simp)|exact z0eq rfl rfl (by omega) rfl|exact z0ps rfl rfl|exact z0lq rfl|exact z0ls (fun _=>rfl) rfl rfl (by first|omega|(simp only [zY06,zY0g,zY13];omega))) (hE:E++[d]=E':=by (simp only [zY1j,zY11];try exact rfl)):den sp N (.lets [x] [] k) E ks=res:=z4 h hk hE
theorem dqc {ck:List X} (hk:den sp N k E ks=res) (h:z0k sp E ck=true:=by exact z0op rfl rfl (by omega) (by omega)):den sp N (.lets [] ck k) E ks=res:=z1w h hk
theorem dqm {xs:List X} (hk:den sp N k E' ks=res) (h:z0f sp E xs=some ds:=by first|exact z0pt rfl rfl (by omega) (by first|assumption|exact hx) (by rfl)|exact z3l (zlj rfl rfl (by omega) (by first|assumption|exact hx) rfl) (z3l (zlj rfl rfl (by omega) (by first|assumption|exact hx) rfl) zqz)) (hE:E++ds=E':=by (simp only [zd,eTx,eIn,z17,eOp,z5g,z19,z0g,zak,zf3,za3,zik,zf2,zY1j,zY11];try exact rfl)):den sp N (.lets xs [] k) E ks=res:=zcd h hk hE
theorem dqk {ci j:Nat} {args:List Atom} (hv:vals E args=some ds) (hs:sp ci ds=some rs) (hk:den sp N k E' ks=res) (hj:rs[j]? = some d:=by exact rfl) (hE:E++[d]=E':=by (simp only [zY1j,zY11];try exact rfl)):den sp N (.lets [.call ci args j] [] k) E ks=res:=z4 (z35 hv hs hj) hk hE
theorem dqK {ci:Nat} {args:List Atom} {xs:List X} (hv:vals E args=some ds) (hs:sp ci ds=some rs) (hk:den sp N k E' ks=res) (hx:X.call ci args 0::xs=(List.range rs.length).map (fun j=>.call ci args j):=by rfl) (hE:E++rs=E':=by (simp only [zd,eTx,eIn,z17,eOp,z5g,z19,z0g,zak,zf3,za3,zik,zf2,zY1j,zY11];try exact rfl)):den sp N (.lets (.call ci args 0::xs) [] k) E ks=res:=zcd (z0if hv hs hx) hk hE
theorem dqT {c:Prop} {i:Decidable c} (ht:den sp N t E ks=res) (h:a.val E=some (.b (@decide c i)):=by exact rfl) (hc:c:=by first|assumption|omega):den sp N (.ite a t e) E ks=res:=z0pq h hc ht
theorem dqF {c:Prop} {i:Decidable c} (he:den sp N e E ks=res) (h:a.val E=some (.b (@decide c i)):=by exact rfl) (hc:¬ c:=by first|assumption|omega):den sp N (.ite a t e) E ks=res:=z0pr h hc he
theorem zcg {c:Prop} {i:Decidable c} (ht:den sp N t E ks=res) (h:a.val E=some (.b (!@decide c i)):=by exact rfl) (hc:¬ c:=by first|assumption|omega):den sp N (.ite a t e) E ks=res:=z1b h (fun _=>ht) (fun h=>by rw [decide_eq_false hc] at h;cases h)
theorem z8d {c:Prop} {i:Decidable c} (he:den sp N e E ks=res) (h:a.val E=some (.b (!@decide c i)):=by exact rfl) (hc:c:=by first|assumption|omega):den sp N (.ite a t e) E ks=res:=z1b h (fun h=>by rw [decide_eq_true hc] at h;cases h) (fun _=>he)
theorem tZn {c:Prop} {i:Decidable c} (ht:¬ c→den sp N t E ks=res) (he:c→den sp N e E ks=res) (h:a.val E=some (.b (!@decide c i)):=by exact rfl):den sp N (.ite a t e) E ks=res:=z1b h (fun h=>ht (by simpa using h)) (fun h=>he (by simpa using h))
section
variable {ρ:Type} [Enc ρ] {r1 r2:ρ}
theorem tR {c:Prop} [Decidable c] {d:Bool} (ht:c→den sp N t E ks=ret r1) (he:¬ c→den sp N e E ks=ret r2) (h:a.val E=some (.b d):=by exact rfl) (hd:d=decide c:=by with_reducible rfl):den sp N (.ite a t e) E ks=ret (if c then r1 else r2):=z0ll h hd ht he
theorem tC {c:Prop} [Decidable c] {d:Bool} (ht:¬ c→den sp N t E ks=ret r2) (he:c→den sp N e E ks=ret r1) (h:a.val E=some (.b (!d)):=by exact rfl) (hd:d=decide c:=by with_reducible rfl):den sp N (.ite a t e) E ks=ret (if c then r1 else r2):=z0lm h hd ht he
theorem tB {b d:Bool} (ht:b=true→den sp N t E ks=ret r1) (he:b=false→den sp N e E ks=ret r2) (h:a.val E=some (.b d):=by exact rfl) (hd:d=b:=by with_reducible rfl):den sp N (.ite a t e) E ks=ret (if b=true then r1 else r2):=z0ln h hd ht he
theorem tN {b d:Bool} (ht:b=false→den sp N t E ks=ret r2) (he:b=true→den sp N e E ks=ret r1) (h:a.val E=some (.b (!d)):=by exact rfl) (hd:d=b:=by with_reducible rfl):den sp N (.ite a t e) E ks=ret (if b=true then r1 else r2):=z0ib h hd ht he
theorem tF {b d:Bool} (ht:b=true→den sp N t E ks=ret r2) (he:b=false→den sp N e E ks=ret r1) (h:a.val E=some (.b d):=by exact rfl) (hd:d=b:=by with_reducible rfl):den sp N (.ite a t e) E ks=ret (if b=false then r1 else r2):=z0lo h hd ht he
theorem tG {b d:Bool} (ht:b=false→den sp N t E ks=ret r1) (he:b=true→den sp N e E ks=ret r2) (h:a.val E=some (.b (!d)):=by exact rfl) (hd:d=b:=by with_reducible rfl):den sp N (.ite a t e) E ks=ret (if b=false then r1 else r2):=z0ic h hd ht he
section
variable {p q r:Prop} [Decidable p] [Decidable r] {d:Bool}
theorem tA [Decidable q] [Decidable (p∧q)] (ht:p→den sp N t E ks=ret (if q then r1 else r2)) (he:¬ p→den sp N e E ks=ret r2) (h:a.val E=some (.b d):=by exact rfl) (hd:d=decide p:=by with_reducible rfl):den sp N (.ite a t e) E ks=ret (if p∧q then r1 else r2):=z0ep h hd ht he
theorem tO [Decidable q] [Decidable (p∨q)] (ht:p→den sp N t E ks=ret r1) (he:¬ p→den sp N e E ks=ret (if q then r1 else r2)) (h:a.val E=some (.b d):=by exact rfl) (hd:d=decide p:=by with_reducible rfl):den sp N (.ite a t e) E ks=ret (if p∨q then r1 else r2):=z0id h hd ht he
theorem tP [Decidable ((p∧q)∨r)] [Decidable (q∨r)] (ht:p→den sp N t E ks=ret (if q∨r then r1 else r2)) (he:¬ p→den sp N e E ks=ret (if r then r1 else r2)) (h:a.val E=some (.b d):=by exact rfl) (hd:d=decide p:=by with_reducible rfl):den sp N (.ite a t e) E ks=ret (if (p∧q)∨r then r1 else r2):=z064 h hd ht he
theorem tQ [Decidable ((p∨q)∧r)] [Decidable (q∧r)] (ht:p→den sp N t E ks=ret (if r then r1 else r2)) (he:¬ p→den sp N e E ks=ret (if q∧r then r1 else r2)) (h:a.val E=some (.b d):=by exact rfl) (hd:d=decide p:=by with_reducible rfl):den sp N (.ite a t e) E ks=ret (if (p∨q)∧r then r1 else r2):=z065 h hd ht he
end
end
theorem tU {b q d:Bool} (ht:b=true→den sp N t E ks=ret q) (he:b=false→den sp N e E ks=ret false) (h:a.val E=some (.b d):=by exact rfl) (hd:d=b:=by with_reducible rfl):den sp N (.ite a t e) E ks=ret (b && q):=z0ie h hd ht he
theorem tV {b q d:Bool} (ht:b=true→den sp N t E ks=ret true) (he:b=false→den sp N e E ks=ret q) (h:a.val E=some (.b d):=by exact rfl) (hd:d=b:=by with_reducible rfl):den sp N (.ite a t e) E ks=ret (b || q):=z0lp h hd ht he
theorem tZ {c:Prop} {i:Decidable c} (ht:c→den sp N t E ks=res) (he:¬ c→den sp N e E ks=res) (h:a.val E=some (.b (@decide c i)):=by exact rfl):den sp N (.ite a t e) E ks=res:=z36 h ht he
end
end
section
open Go.Lib (decDigits itoa atoiAll parseMag parseUint10 NumEnd)
def z0lu (b:UInt8):Prop:=48≤b.toNat∧b.toNat≤57
theorem zd8 {u:Nat} (h:u<10):decDigits u=[UInt8.ofNat (48+u)]:=by rw [decDigits,dif_pos h]
theorem zrw {u:Nat} (h:¬ u<10):decDigits u=decDigits (u / 10)++[UInt8.ofNat (48+u % 10)]:=by rw [decDigits,dif_neg h]
theorem zjy {n:Int} (h:n<0):itoa n=45::decDigits n.natAbs:=if_pos h
theorem zjz {n:Int} (h:¬ n<0):itoa n=decDigits n.toNat:=if_neg h
def z6g (c:UInt8):List UInt8→List (List UInt8)
 | []=>[[]]
 | b::l=>if b=c then []::z6g c l else match z6g c l with
  | []=>[[b]]
  | x::xs=>(b::x)::xs
def z3v (c:UInt8):List (List UInt8)→List UInt8
 | []=>[]
 | [x]=>x
 | x::y::r=>x++c::z3v c (y::r)
theorem zlk (c:UInt8):∀ xs:List (List UInt8),Go.Lib.join xs [c]=z3v c xs
 | []=>rfl
 | [x]=>Go.Lib.join_one x [c]
 | x::y::r=>by
  have ih:=zlk c (y::r);rw [Go.Lib.join_cons] at ih ⊢;rw [z3v,← ih];simp [Go.Lib.joinTail]
end
section
open Go.RowKit
open Go.Lib (itoa atoiAll NumEnd)
def opNames:List (List UInt8):=[[],[],[100,117,112],[115,119,97,112],[100,114,111,112],[97,100,100],[115,117,98],[115,97,109,101],[108,101,115,115],[110,111,116],[97,110,100],[118,101,114,105,102,121],[104,101,105,103,104,116],[109,105,120]]
def z1p (o:Op):List UInt8:=if o.kind=1 then itoa o.n else (opNames[o.kind.toNat]?).getD []
def z5i (l:List Op):List UInt8:=z3v 32 (l.map z1p)
def z3b (l:List Op):List UInt8 × Int:=if z7 l≠0 then ([],z7 l) else (z5i l,0)
def znx (w:List UInt8):Option Int:=match atoiAll w with
 | .ok n=>if itoa n=w then some n else none
 | _=>none
def zh0 (w:List UInt8):Int→Int→List (List UInt8)→Int
 | _,r,[]=>r
 | k,r,n::l=>zh0 w (k+1) (if n=w∧n≠[] then k else r) l
def zh1 (w:List UInt8):Int:=zh0 w 0 0 opNames
def zxt (w:List UInt8):Option Op:=if zh1 w=0 then (znx w).map fun n=>⟨1,n⟩ else some ⟨zh1 w,0⟩
def zny:List (List UInt8)→Option (List Op)
 | []=>some []
 | w::r=>match zxt w with
  | none=>none
  | some o=>(zny r).map fun l=>o::l
def zll (s:List UInt8):List Op × Int :=
 if 4000<(s.length:Int) then ([],2) else if s=[] then ([],0) else match zny (z6g 32 s) with
  | none=>([],1)
  | some l=>if z7 l≠0 then ([],z7 l) else (l,0)
theorem zk0 {o:Op} (h:z3w o=0):1≤o.kind∧o.kind≤13∧(o.kind=1∨o.n=0) ∧ -1000000≤o.n∧o.n≤1000000:=by
 unfold z3w at h
 split at h
 ·cases h
 ·split at h
  ·cases h
  ·omega
theorem z0bd {k:Int} (h0:1≤k) (h1:k≤13):k=1∨k=2∨k=3∨k=4∨k=5∨k=6∨k=7∨k=8∨k=9∨k=10∨k=11∨k=12∨k=13:=by omega
theorem z0eu {l:List Op} (h:z4z l=0):∀ o ∈ l,z3w o=0:=by
 induction l with
 | nil=>intro o ho;cases ho
 | cons x l ih =>
  rw [z4z] at h
  split at h
  ·rename_i hx;exact absurd h hx
  ·rename_i hx
   intro o ho;rcases zY0i.1 ho with rfl|ho
   ·exact zY0s.1 hx
   ·exact ih h o ho
theorem zch {l:List Op} (h:z7 l=0):l.length≤16∧∀ o ∈ l,z3w o=0:=by
 unfold z7 at h
 split at h
 ·cases h
 ·exact ⟨by omega,z0eu h⟩
def WordByte (b:UInt8):Prop:=b=45∨z0lu b∨97≤b.toNat
theorem WordByte.ne {b:UInt8} (h:WordByte b):b≠32∧b≠58∧b≠10:=by
 refine ⟨?_,?_,?_⟩ <;> (rintro rfl;rcases h with h|⟨h1,h2⟩|h <;> first|(exact absurd h (by decide))|(exact absurd h2 (by decide))|(exact absurd h1 (by decide)))
theorem z0ev:∀ n ∈ opNames,n.length≤8:=by decide
theorem z4r:∀ (k u:Nat),u<10 ^ (k+1)→(Go.Lib.decDigits u).length≤k+1:=by
 intro k
 induction k with
 | zero=>intro u h;rw [zd8 (by omega)];simp
 | succ k ih =>
  intro u h
  by_cases h9:u<10
  ·rw [zd8 h9];simp
  ·rw [zrw h9,zY06]
   have:=ih (u / 10) (by rw [Nat.pow_succ] at h;omega);simp only [zY0g,zY13];omega
theorem zlm {o:Op} (h:z3w o=0):(z1p o).length≤8:=by
 obtain ⟨h0,h1,h2,h3,h4⟩:=zk0 h;unfold z1p
 split
 ·by_cases hn:o.n<0
  ·rw [zjy hn,zY0g]
   have:=z4r 6 o.n.natAbs (by omega);omega
  ·rw [zjz hn]
   have:=z4r 6 o.n.toNat (by omega);omega
 ·cases hn:opNames[o.kind.toNat]? with
  | none=>simp
  | some n=>exact z0ev n (zY0f hn)
theorem zr9 (c:UInt8) (m:Nat):∀ xs:List (List UInt8),(∀ x ∈ xs,x.length≤m)→(z3v c xs).length≤xs.length * (m+1)
 | [],_=>by simp [z3v]
 | [x],h=>by
  have:=h x (zY0h ..);simp only [z3v,zY0g,zY13];omega
 | x::y::r,h=>by
  have h1:=h x (zY0h ..);have h2:=zr9 c m (y::r) fun z hz=>h z (zY0d _ hz)
  rw [z3v,zY06,zY0g];simp only [zY0g] at h2 ⊢;have e:(r.length+1+1) * (m+1)=(r.length+1) * (m+1)+(m+1):=by rw [zY1x]
  omega
theorem za8 {l:List Op} (h:z7 l=0):(z5i l).length≤144:=by
 obtain ⟨h1,h2⟩:=zch h;have:=zr9 32 8 (l.map z1p) fun x hx=>by
  obtain ⟨o,ho,rfl⟩:=zY2q.1 hx;exact zlm (h2 o ho)
 rw [zY0w] at this;unfold z5i;omega
end
section
open Go.RowKit
set_option maxRecDepth 100000
abbrev zZr:Nat × Sig:=(99999,⟨[],[],true⟩)
def zfe:List (Nat × Sig):=[(126,⟨[.one],[(false,[.scal])],true⟩),(127,⟨[.one,.one],[(false,[.scal])],true⟩),(150,⟨[.one],[(false,[.scal])],true⟩),(92,⟨[.agg 2,.agg 2],[(false,[.scal])],true⟩),(146,⟨[.agg 6,.agg 2],[(false,[.scal])],true⟩),(145,⟨[.one,.agg 2,.clos 146 []],[(false,[.scal]),(false,[.scal])],true⟩),(118,⟨[.one,.agg 2],[(false,[.scal]),(false,[.scal])],true⟩),(91,⟨[.one],[(false,[.scal])],true⟩)]
def z6u (a b:Int):Int:=if a<b then -1 else if b<a then 1 else 0
def z1e (p q:Point):Int:=if z6u p.tx q.tx≠0 then z6u p.tx q.tx else z6u p.at_ q.at_
def ltP (p q:Point):Prop:=p.tx<q.tx∨(p.tx=q.tx∧p.at_<q.at_)
instance (p q:Point):Decidable (ltP p q):=by unfold ltP;infer_instance
theorem z0a4 (a b:Int):z6u a b<0↔a<b:=by unfold z6u;split <;> (try split) <;> omega
theorem znz (a b:Int):z6u a b=0↔a=b:=by unfold z6u;split <;> (try split) <;> omega
theorem zin (p q:Point):z1e p q<0↔ltP p q:=by
 have h1:=z0a4 p.tx q.tx;have h2:=znz p.tx q.tx;have h3:=z0a4 p.at_ q.at_;unfold z1e ltP
 split <;> omega
theorem z0ly (p q:Point):z1e p q=0↔p=q:=by
 have h2:=znz p.tx q.tx;have h3:=znz p.at_ q.at_;obtain ⟨a,b⟩:=p;obtain ⟨c,d⟩:=q;simp only [Point.mk.injEq];unfold z1e;simp only at *
 split <;> omega
theorem z6v {p q r:Point} (h:ltP p q) (k:ltP q r):ltP p r:=by unfold ltP at *;omega
theorem z5u (p:Point):¬ ltP p p:=by unfold ltP;omega
theorem zra {p q:Point} (h:ltP p q):¬ ltP q p:=by unfold ltP at *;omega
theorem zo0 (p q:Point):ltP p q∨p=q∨ltP q p:=by
 obtain ⟨a,b⟩:=p;obtain ⟨c,d⟩:=q;simp only [Point.mk.injEq];unfold ltP;simp only;omega
def z06 (l:List Coin):Prop:=l.Pairwise fun c d=>ltP c.p d.p
def zo (l:List Coin) (p:Point):Nat:=l.countP fun c=>decide (ltP c.p p)
def z1n (l:List Coin) (p:Point):Bool:=l.any fun c=>decide (c.p=p)
theorem zk1 (l:List Coin) (p:Point):zo l p≤l.length:=List.countP_le_length
theorem z8j {l:List Coin} (h:z06 l) {i j:Nat} (hi:i<j) (hj:j<l.length):ltP (l[i]'(by omega)).p l[j].p:=List.pairwise_iff_getElem.1 h i j (by omega) hj hi
theorem zxu {l:List Coin} {p:Point} {i:Nat} (hi:i≤l.length) (h1:∀ t (ht:t<l.length),t<i→ltP l[t].p p) (h2:∀ t (ht:t<l.length),i≤t→¬ ltP l[t].p p):zo l p=i:=by
 unfold zo
 induction l generalizing i with
 | nil=>simp at hi;simp [hi]
 | cons c l ih =>
  cases i with
  | zero =>
   rw [List.countP_eq_zero];intro x hx;obtain ⟨t,ht,rfl⟩:=zY2f hx;simpa using h2 t ht (Nat.zero_le _)
  | succ i =>
   have h0:=h1 0 (by simp) (by omega);simp only [List.getElem_cons_zero] at h0;rw [List.countP_cons_of_pos (by simpa using h0),ih (i:=i) (by simpa using hi) (fun t ht hti=>h1 (t+1) (by simpa using ht) (by omega)) (fun t ht hti=>h2 (t+1) (by simpa using ht) (by omega))]
theorem zj4 {l:List Coin} (h:z06 l) (p:Point):(∀ t (ht:t<l.length),t<zo l p→ltP l[t].p p)∧(∀ t (ht:t<l.length),zo l p≤t→¬ ltP l[t].p p):=by
 induction l with
 | nil=>simp
 | cons c l ih =>
  have hs:z06 l:=(zY1q.1 h).2;have hc:=(zY1q.1 h).1;obtain ⟨i1,i2⟩:=ih hs
  by_cases h0:ltP c.p p
  ·have e:zo (c::l) p=zo l p+1:=by unfold zo;rw [List.countP_cons_of_pos (by simpa using h0)]
   rw [e];refine ⟨fun t ht hti=>?_,fun t ht hti=>?_⟩
   ·cases t with
    | zero=>exact h0
    | succ t=>simpa using i1 t (by simpa using ht) (by omega)
   ·cases t with
    | zero=>omega
    | succ t=>simpa using i2 t (by simpa using ht) (by omega)
  ·have e:zo (c::l) p=0:=by
    unfold zo;rw [List.countP_eq_zero];intro x hx;rcases zY0i.1 hx with rfl|hx
    ·simpa using h0
    ·have:=hc x hx
     simp only [decide_eq_true_eq];exact fun hx'=>h0 (z6v this hx')
   rw [e];refine ⟨fun t ht hti=>by omega,fun t ht hti=>?_⟩
   cases t with
   | zero=>exact h0
   | succ t =>
    have ht':t<l.length:=by simpa using ht
    have:=hc l[t] (zY1l _);simp only [List.getElem_cons_succ];exact fun hx'=>h0 (z6v this hx')
theorem zk2 {l:List Coin} (h:z06 l) (p:Point):z1n l p=true↔∃ ht:zo l p<l.length,(l[zo l p]'ht).p=p:=by
 unfold z1n;rw [zY32];obtain ⟨i1,i2⟩:=zj4 h p;constructor
 ·rintro ⟨c,hc,hp⟩
  obtain ⟨t,ht,rfl⟩:=zY2f hc;have hp:=of_decide_eq_true hp;have e:zo l p=t:=by
   refine zxu (by omega) (fun s hs hst=>?_) (fun s hs hst=>?_)
   ·rw [← hp];exact z8j h hst ht
   ·rw [← hp]
    rcases Nat.eq_or_lt_of_le hst with rfl|hlt
    ·exact z5u _
    ·exact zra (z8j h hlt hs)
  exact ⟨by omega,by simpa [e] using hp⟩
 ·rintro ⟨ht,hp⟩
  exact ⟨_,zY1l ht,by simpa using hp⟩
abbrev z0be (x:Int × Int):List Dt:=[I x.1,I x.2]
abbrev e2P (x:Point × Point):List Dt:=z5g x.1++z5g x.2
abbrev eCP (x:Coin × Point):List Dt:=zd x.1++z5g x.2
abbrev z0ew:={ x:List Coin × Point // z06 x.1∧x.1.length≤1000000 }
abbrev eLP (x:z0ew):List Dt:=.l 6 (x.1.1.map zd)::z5g x.1.2
noncomputable def spOr:z9:=z00 (fun x:Int × Int=>[.l 1 ([x.1,x.2].map z19)]) fun x=>[I (if x.1≠0 then x.1 else x.2)]
noncomputable def z0bf:z9:=z00 z0be fun x=>[I (z6u x.1 x.2)]
noncomputable def z0bg:z9:=z00 (fun x:Int=>[I x]) fun _=>[.b false]
noncomputable def zo1:z9:=z00 e2P fun x=>[I (z1e x.1 x.2)]
noncomputable def zio:z9:=z00 eCP fun x=>[I (z1e x.1.p x.2)]
noncomputable def zln:z9:=z00 eLP fun x=>[I (zo x.1.1 x.1.2),.b (z1n x.1.1 x.1.2)]
theorem z0lz (a b:Int):spOr [.l 1 [[I a],[I b]]]=some [I (if a≠0 then a else b)]:=z6p (e:=fun x:Int × Int=>[.l 1 ([x.1,x.2].map z19)]) (fun x y h=>by
 obtain ⟨a,b⟩:=x;obtain ⟨c,d⟩:=y;simpa [z19] using h) (a,b)
theorem zxv (a b:Int):z0bf [I a,I b]=some [I (z6u a b)]:=z6p (e:=z0be) (fun x y h=>by
 obtain ⟨a,b⟩:=x;obtain ⟨c,d⟩:=y;simpa [z0be] using h) (a,b)
theorem zxw (a:Int):z0bg [I a]=some [.b false]:=z6p (e:=fun x:Int=>[I x]) (fun x y h=>by simpa using h) a
theorem zlo (p q:Point):zo1 [I p.tx,I p.at_,I q.tx,I q.at_]=some [I (z1e p q)]:=z6p (e:=e2P) (fun x y h=>by
 obtain ⟨h1,h2⟩:=List.append_inj h rfl;exact Prod.ext (z8x _ _ h1) (z8x _ _ h2)) (p,q)
theorem z0bh (c:Coin) (p:Point):zio (zd c++z5g p)=some [I (z1e c.p p)]:=z6p (e:=eCP) (fun x y h=>by
 obtain ⟨h1,h2⟩:=List.append_inj h rfl;exact Prod.ext (zd6 _ _ h1) (z8x _ _ h2)) (c,p)
theorem zrb (l:List Coin) (p:Point) (h:z06 l) (hl:l.length≤1000000):zln [.l 6 (l.map zd),I p.tx,I p.at_]=some [I (zo l p),.b (z1n l p)]:=z6p (e:=eLP) (fun x y h=>by
 obtain ⟨⟨l,p⟩,_⟩:=x;obtain ⟨⟨m,q⟩,_⟩:=y;simp only [eLP,zY22,Dt.l.injEq,true_and] at h;exact Subtype.ext (Prod.ext (z3u zd6 h.1) (z8x _ _ h.2))) ⟨(l,p),h,hl⟩
attribute [local irreducible] z00
def zo2:T :=
 .lets [.len 0] [] (.loop [zI 0,zI 0] (.lets [.bin .lss 3 1] [] (.ite 4 (.lets [] [.inr 1 0 3] (.lets [.idx 0 3 0] []
  (.lets [.bin .neq 5 (zI 0)] [] (.ite 6 (.ret [5]) (.lets [.bin .add 3 (zI 1)] [] (.again 0 [2,7])))))) (.ret [zI 0]))))
def zlp:T :=
 .lets [.bin .neq 0 0] [] (.ret [1])
def zh2:T :=
 .lets [.call 2 [0] 0] [] (.lets [.call 2 [1] 0] [] (.ite 2 (.ite 3 (.ret [zI 0]) (.ret [.c (.i .i64 (-1))])) (.ite 3 (.ret [zI 1]) (.lets
  [.bin .lss 0 1] [] (.ite 4 (.ret [.c (.i .i64 (-1))]) (.lets [.bin .gtr 0 1] [] (.ite 5 (.ret [zI 1]) (.ret [zI 0]))))))))
def zo3:T :=
 .lets [.call 1 [0,2] 0] [] (.lets [.call 1 [1,3] 0] [] (.lets [.mk 1 [[4],[5]]] [] (.lets [.call 0 [6] 0] [] (.ret [7]))))
def zo4:T :=
 .lets [.call 3 [0,1,6,7] 0] [] (.ret [8])
def z6w:T :=
 .lets [.len 0] [] (.loop [zI 0,3] (.lets [.bin .lss 4 5] [] (.ite 6 (.lets [.bin .add 4 5] [] (.lets [.conv .u64 7] [] (.lets [.bin
  .shr 8 (.c (.i .u64 1))] [] (.lets [.conv .i64 9] [] (.lets [] [.inr 6 0 10] (.lets [.idx 0 10 0,.idx 0 10 1,.idx 0 10 2,.idx
  0 10 3,.idx 0 10 4,.idx 0 10 5] [] (.lets [.call 4 [11,12,13,14,15,16,1,2] 0] [] (.lets [.bin .lss 17 (.c (.i
  .i64 0))] [] (.ite 18 (.lets [.bin .add 10 (zI 1)] [] (.again 0 [19,5])) (.again 0 [4,10])))))))))) (.lets [.bin .lss 4 3] [] (.ite (.v
  7) (.lets [] [.inr 6 0 4] (.lets [.idx 0 4 0,.idx 0 4 1,.idx 0 4 2,.idx 0 4 3,.idx 0 4 4,.idx 0 4 5] []
  (.lets [.call 4 [8,9,10,11,12,13,1,2] 0] [] (.lets [.bin .eql 14 (zI 0)] [] (.ret [4,15]))))) (.ret [4,.c (.b false)]))))))
def zxx:T :=
 .lets [.call 5 [0,1,2] 0,.call 5 [0,1,2] 1] [] (.ret [3,4])
theorem mNaN:Meets Tryz.prog z0bg 150 ⟨[.one],[(false,[.scal])],true⟩:=by
 refine z5q (sp:=(fun ci=>[].getD ci fun _=>none)) (sigs:=zfe) (cut:=[]) (hints:=[]) (fn:=Tryz.f150) (t:=zlp) (by kernel_rfl) (by kernel_rfl) (by kernel_rfl) ?_ ?_
 ·exact fun ci f s _=>z0t f s
 ·rintro ds rs - h
  obtain ⟨x,rfl,rfl⟩:=z2p h;refine ⟨⟨1,?_⟩,zy rfl⟩;unfold zlp;refine z4 (d:=.b false) (z0lj rfl rfl rfl) ?_;exact z5 rfl rfl
theorem mCmp:Meets Tryz.prog z0bf 127 ⟨[.one,.one],[(false,[.scal])],true⟩:=by
 refine z5q (sp:=(fun ci=>[fun _=>none,fun _=>none,z0bg].getD ci fun _=>none)) (sigs:=zfe) (cut:=[]) (hints:=[]) (fn:=Tryz.f127) (t:=zh2) (by kernel_rfl) (by kernel_rfl) (by kernel_rfl) ?_ ?_
 ·exact (z1o (z0t _ _) (z1o (z0t _ _) (z1o mNaN (fun ci f s _=>z0t f s))))
 ·rintro ds rs - h
  obtain ⟨⟨a,b⟩,rfl,rfl⟩:=z2p h;refine ⟨⟨1,?_⟩,zy rfl⟩;unfold zh2;refine z4 (d:=.b false) (z35 rfl (zxw a) rfl) ?_;refine z4 (d:=.b false) (z35 rfl (zxw b) rfl) ?_;refine z0m rfl (z0m rfl ?_);refine z4 (d:=.b (decide (a<b))) rfl ?_;unfold z6u;refine z1b rfl (fun h1=>?_) (fun h1=>?_)
  ·exact z5 rfl (by rw [if_pos (of_decide_eq_true h1)];rfl)
  rw [if_neg (of_decide_eq_false h1)];refine z4 (d:=.b (decide (b<a))) rfl ?_;refine z1b rfl (fun h2=>?_) (fun h2=>?_)
  ·exact z5 rfl (by rw [if_pos (of_decide_eq_true h2)];rfl)
  ·exact z5 rfl (by rw [if_neg (of_decide_eq_false h2)];rfl)
theorem mOr:Meets Tryz.prog spOr 126 ⟨[.one],[(false,[.scal])],true⟩:=by
 refine z5q (sp:=(fun ci=>[].getD ci fun _=>none)) (sigs:=zfe) (cut:=[]) (hints:=[⟨3,[.t 2,.t 8]⟩]) (fn:=Tryz.f126) (t:=zo2) (by kernel_rfl) (by kernel_rfl) (by kernel_rfl) ?_ ?_
 ·exact fun ci f s _=>z0t f s
 ·rintro ds rs - h
  obtain ⟨⟨a,b⟩,rfl,rfl⟩:=z2p h;refine ⟨⟨5,?_⟩,zy rfl⟩
  show den _ 5 zo2 [.l 1 [[I a],[I b]]] []=some [I (if a≠0 then a else b)]
  unfold zo2;refine z4 (d:=I 2) rfl ?_;refine zgv (fun k:Nat=>[I 0,I k]) (fun k=>k≤2∧(1≤k→a=0)∧(2≤k→b=0)) (fun k=>2 - k) 0 rfl (by simp) (by simp) fun k hk again hag=>?_
  simp only [zY1j,zY11];obtain ⟨k1,k2,k3⟩:=hk
  match k,k1,k2,k3,hag with
  | 0,k1,k2,k3,hag =>
   refine z4 (d:=.b true) rfl (z0h rfl ?_);refine z1w (z0z rfl rfl (by decide) (by simp)) ?_;refine z4 (d:=I a) (z0w (x:=[I a]) rfl rfl (by decide) rfl rfl) ?_;refine z4 (d:=.b (!decide (a=0))) rfl ?_;refine z1b rfl (fun h1=>?_) (fun h1=>?_)
   ·exact z5 rfl (by rw [if_pos (by simpa using h1)])
   ·refine z4 (d:=I 1) rfl ?_
    exact z6 rfl rfl (hag 1 ⟨by omega,fun _=>by simpa using h1,fun h=>by omega⟩ (by omega))
  | 1,k1,k2,k3,hag =>
   refine z4 (d:=.b true) rfl (z0h rfl ?_);refine z1w (z0z rfl rfl (by decide) (by simp)) ?_;refine z4 (d:=I b) (z0w (x:=[I b]) rfl rfl (by decide) rfl rfl) ?_;refine z4 (d:=.b (!decide (b=0))) rfl ?_;have h0:=k2 (by omega);refine z1b rfl (fun h1=>?_) (fun h1=>?_)
   ·exact z5 rfl (by rw [if_neg (by simp [h0])])
   ·refine z4 (d:=I 2) rfl ?_
    exact z6 rfl rfl (hag 2 ⟨by omega,fun _=>h0,fun _=>by simpa using h1⟩ (by omega))
  | 2,k1,k2,k3,hag =>
   refine z4 (d:=.b false) rfl (z0m rfl ?_);exact z5 rfl (by rw [k2 (by omega),k3 (by omega)];rfl)
  | k+3,k1,_,_,_=>exact absurd k1 (by omega)
theorem z0ex:Meets Tryz.prog zo1 92 ⟨[.agg 2,.agg 2],[(false,[.scal])],true⟩:=by
 refine z5q (sp:=(fun ci=>[spOr,z0bf].getD ci fun _=>none)) (sigs:=zfe) (cut:=[]) (hints:=[]) (fn:=Tryz.f92) (t:=zo3) (by kernel_rfl) (by kernel_rfl) (by kernel_rfl) ?_ ?_
 ·exact (z1o mOr (z1o mCmp (fun ci f s _=>z0t f s)))
 ·rintro ds rs - h
  obtain ⟨⟨⟨a,b⟩,⟨c,d⟩⟩,rfl,rfl⟩:=z2p h;refine ⟨⟨1,?_⟩,zy rfl⟩
  show den _ 1 zo3 [I a,I b,I c,I d] []=_
  unfold zo3;refine z4 (d:=I (z6u a c)) (z35 rfl (zxv a c) rfl) ?_;refine z4 (d:=I (z6u b d)) (z35 rfl (zxv b d) rfl) ?_;refine z4 (z28 (r:=[[I (z6u a c)],[I (z6u b d)]]) rfl rfl (by simp)) ?_;refine z4 (d:=I (if z6u a c≠0 then z6u a c else z6u b d)) (z35 rfl (z0lz _ _) rfl) ?_;exact z5 rfl rfl
theorem z0or:Meets Tryz.prog zio 146 ⟨[.agg 6,.agg 2],[(false,[.scal])],true⟩:=by
 refine z5q (sp:=(fun ci=>[fun _=>none,fun _=>none,fun _=>none,zo1].getD ci fun _=>none)) (sigs:=zfe) (cut:=[]) (hints:=[]) (fn:=Tryz.f146) (t:=zo4) (by kernel_rfl) (by kernel_rfl) (by kernel_rfl) ?_ ?_
 ·exact (z1o (z0t _ _) (z1o (z0t _ _) (z1o (z0t _ _) (z1o z0ex (fun ci f s _=>z0t f s)))))
 ·rintro ds rs - h
  obtain ⟨⟨c,p⟩,rfl,rfl⟩:=z2p h;refine ⟨⟨1,?_⟩,zy rfl⟩
  show den _ 1 zo4 [I c.p.tx,I c.p.at_,I c.o.coin,.l 2 (c.o.lock.map eOp),I c.height,.b c.reward,I p.tx,I p.at_] []=_
  unfold zo4;refine z4 (d:=I (z1e c.p p)) (z35 rfl (zlo c.p p) rfl) ?_;exact z5 rfl rfl
theorem zxy {sp:Nat→z9} {E:Env} {a i:Atom} {l:List Coin} {m:Int} {c:Coin} (ha:a.val E=some (.l 6 (l.map zd))) (hi:i.val E=some (I m)) (h0:0≤m) (hx:l[m.toNat]? = some c) :
  z0f sp E [.idx a i 0,.idx a i 1,.idx a i 2,.idx a i 3,.idx a i 4,.idx a i 5]=some [I c.p.tx,I c.p.at_,I c.o.coin,.l 2 (c.o.lock.map eOp),I c.height,.b c.reward]:=by
 have hx':(l.map zd)[m.toNat]? = some (zd c):=by rw [zY0j,hx];rfl
 exact z3l (z0w ha hi h0 hx' rfl) (z3l (z0w ha hi h0 hx' rfl) (z3l (z0w ha hi h0 hx' rfl) (z3l (z0w ha hi h0 hx' rfl) (z3l (z0w ha hi h0 hx' rfl) (z3l (z0w ha hi h0 hx' rfl) zqz)))))
theorem z0in:Meets Tryz.prog zln 145 ⟨[.one,.agg 2,.clos 146 []],[(false,[.scal]),(false,[.scal])],true⟩:=by
 refine z5q (sp:=(fun ci=>[fun _=>none,fun _=>none,fun _=>none,fun _=>none,zio].getD ci fun _=>none)) (sigs:=zfe) (cut:=[]) (hints:=[⟨3,[.t 9,.t 10]⟩]) (fn:=Tryz.f145) (t:=z6w) (by kernel_rfl) (by kernel_rfl) (by kernel_rfl) ?_ ?_
 ·exact (z1o (z0t _ _) (z1o (z0t _ _) (z1o (z0t _ _) (z1o (z0t _ _) (z1o z0or (fun ci f s _=>z0t f s))))))
 ·rintro ds rs - h
  obtain ⟨⟨⟨l,⟨pt,pa⟩⟩,hs,hl⟩,rfl,rfl⟩:=z2p h;simp only at hs hl;refine ⟨⟨l.length+1,?_⟩,zf8 rfl rfl⟩
  show den _ (l.length+1) z6w [.l 6 (l.map zd),I pt,I pa] []=some [I (zo l ⟨pt,pa⟩),.b (z1n l ⟨pt,pa⟩)]
  generalize hp:(⟨pt,pa⟩:Point)=p;have hpc:∀ c:Coin,zio [I c.p.tx,I c.p.at_,I c.o.coin,.l 2 (c.o.lock.map eOp),I c.height,.b c.reward,I pt,I pa]=some [I (z1e c.p p)]:=fun c=>by rw [← hp];exact z0bh c ⟨pt,pa⟩
  unfold z6w;refine z4 (d:=I l.length) (z20 rfl (by simp)) ?_;refine zgv (fun s:Nat × Nat=>[I s.1,I s.2]) (fun s=>s.1≤s.2∧s.2≤l.length∧(∀ t (ht:t<l.length),t<s.1→ltP l[t].p p)∧∀ t (ht:t<l.length),s.2≤t→¬ ltP l[t].p p) (fun s=>s.2 - s.1) (0,l.length) rfl ⟨by omega,by omega,fun t ht h=>by omega,fun t ht h=>by omega⟩ (by simp) ?_;rintro ⟨i,j⟩ ⟨h1,h2,h3,h4⟩ again hag;simp only at h1 h2 h3 h4 hag;simp only [zY1j,zY11]
  by_cases hij:i<j
  ·obtain ⟨m,hm⟩:∃ m:Nat,m=(i+j) / 2:=⟨_,rfl⟩
   have hmi:i≤m:=by omega
   have hmj:m<j:=by omega
   have hml:m<l.length:=by omega
   have hsum:(i:Int)+(j:Int)=((i+j:Nat):Int):=by omega
   have hc1:IntKind.u64.wrap ((i+j:Nat):Int)=((i+j:Nat):Int):=by
    unfold IntKind.wrap;simp only [IntKind.bits,IntKind.signed,zY3l,zY0r,if_false];omega
   have hdiv:(((i+j:Nat):Int)).fdiv (2 ^ (min (1:Int).toNat IntKind.u64.bits))=(m:Int):=by
    show (((i+j:Nat):Int)).fdiv 2=(m:Int)
    rw [Int.fdiv_eq_ediv_of_nonneg _ (by omega)];omega
   have hc2:IntKind.u64.wrap (m:Int)=m:=by
    unfold IntKind.wrap;simp only [IntKind.bits,IntKind.signed,zY3l,zY0r,if_false];omega
   have hc3:IntKind.i64.wrap (m:Int)=m:=wrap_i64 (by omega);have hlm:l[((m:Nat):Int).toNat]? = some l[m]:=by simp [hml]
   have hcall:=hpc l[m];have hlt:=zin l[m].p p;have hup:ltP l[m].p p→∀ t (ht:t<l.length),t<m+1→ltP l[t].p p:=fun h t ht htm=>by
    rcases zY20 t m with h'|h'
    ·exact z6v (z8j hs h' hml) h
    ·obtain rfl:t=m:=by omega
     exact h
   have hdn:¬ ltP l[m].p p→∀ t (ht:t<l.length),m≤t→¬ ltP l[t].p p:=fun h t ht htm h'=>by
    rcases Nat.eq_or_lt_of_le htm with rfl|htm
    ·exact h h'
    ·exact h (z6v (z8j hs htm ht) h')
   have hm1:((m+1:Nat):Int)=(m:Int)+1:=by omega
   have hag1:ltP l[m].p p→again [I ((m:Int)+1),I (j:Int)]=some [I (zo l p),.b (z1n l p)]:=fun h=>by rw [← hm1];exact hag (m+1,j) ⟨by simp only;omega,h2,hup h,h4⟩ (by simp only;omega)
   have hag2:=fun h=>hag (i,m) ⟨hmi,by simp only;omega,h3,hdn h⟩ (by simp only;omega)
   have hi0:(0:Int)≤m:=by omega
   have hi1:(m:Int)<(l.map zd).length:=by simp;omega
   have hlim:(m:Int)+1≤2000000:=by omega
   have hlim2:(i:Int)+j≤2000000:=by omega
   have hlim3:(i:Int)<j:=by omega
   have hlim4:(0:Int)≤(i:Int)+j:=by omega
   clear hm1;generalize l[m]=c at *;generalize hmm:(m:Int)=mm at *;generalize ((i+j:Nat):Int)=ij at *;generalize (i:Int)=ii at *;generalize (j:Int)=jj at *;refine z4 (d:=.b (decide (ii<jj))) rfl ?_;refine z1b rfl (fun _=>?_) (fun h=>absurd (of_decide_eq_false h) (by omega));refine z4 (d:=I ij) (by rw [← hsum];exact z7f rfl rfl (by omega)) ?_;refine z4 (d:=.i .u64 ij) (by show some (Dt.i .u64 (IntKind.u64.wrap ij))=_;rw [hc1]) ?_;refine z4 (d:=.i .u64 mm) (by
    show (if (1:Int)<0 then none else if IntKind.u64.wrap (ij.fdiv (2 ^ (min (1:Int).toNat IntKind.u64.bits)))=ij.fdiv (2 ^ (min (1:Int).toNat IntKind.u64.bits)) then some (Dt.i .u64 (ij.fdiv (2 ^ (min (1:Int).toNat IntKind.u64.bits)))) else none)=_
    rw [hdiv,if_neg (by decide),if_pos hc2]) ?_
   refine z4 (d:=I mm) (by show some (Dt.i .i64 (IntKind.i64.wrap mm))=_;rw [hc3]) ?_;refine z1w (z0z rfl rfl hi0 hi1) ?_;refine zcd (ds:=[I c.p.tx,I c.p.at_,I c.o.coin,.l 2 (c.o.lock.map eOp),I c.height,.b c.reward]) (zxy rfl rfl hi0 hlm) ?_;refine z4 (d:=I (z1e c.p p)) (z35 rfl hcall rfl) ?_;refine z4 (d:=.b (decide (z1e c.p p<0))) rfl ?_;refine z1b rfl (fun h=>?_) (fun h=>?_)
   ·refine z4 (d:=I (mm+1)) (z7f rfl rfl (by omega)) ?_
    exact z6 rfl rfl (hag1 (hlt.1 (of_decide_eq_true h)))
   ·exact z6 rfl rfl (hag2 fun h'=>of_decide_eq_false h (hlt.2 h'))
  ·obtain rfl:i=j:=by omega
   have hpos:=zxu h2 h3 h4;have hhas:=zk2 hs p;refine z4 (d:=.b (decide ((i:Int)<i))) rfl ?_;refine z1b rfl (fun h=>absurd (of_decide_eq_true h) (by omega)) (fun _=>?_);refine z4 (d:=.b (decide ((i:Int)<(l.length:Int)))) rfl ?_;refine z1b rfl (fun h=>?_) (fun h=>?_)
   ·have h:=of_decide_eq_true h
    have hil:i<l.length:=by omega
    have hlm:l[((i:Nat):Int).toNat]? = some l[i]:=by simp [hil]
    have hcall:=hpc l[i];have heq:=z0ly l[i].p p;have hi0:(0:Int)≤i:=by omega
    have hi1:(i:Int)<(l.map zd).length:=by simp;omega
    have hv:decide (z1e l[i].p p=0)=z1n l p:=by
     rw [Bool.eq_iff_iff,decide_eq_true_iff,heq,hhas,hpos];exact ⟨fun h=>⟨hil,h⟩,fun ⟨_,h⟩=>h⟩
    rw [hpos,← hv];generalize l[i]=c at *;generalize (i:Int)=ii at *;refine z1w (z0z rfl rfl hi0 hi1) ?_;refine zcd (ds:=[I c.p.tx,I c.p.at_,I c.o.coin,.l 2 (c.o.lock.map eOp),I c.height,.b c.reward]) (zxy rfl rfl hi0 hlm) ?_;refine z4 (d:=I (z1e c.p p)) (z35 rfl hcall rfl) ?_;refine z4 (d:=.b (decide (z1e c.p p=0))) rfl ?_;exact z5 rfl rfl
   ·have h:=of_decide_eq_false h
    have hv:z1n l p=false:=by
     rw [← zY33,hhas,hpos];rintro ⟨h',_⟩;omega
    rw [hpos,hv];exact z5 rfl rfl
theorem z0pu:Meets Tryz.prog zln 118 ⟨[.one,.agg 2],[(false,[.scal]),(false,[.scal])],true⟩:=by
 refine z5q (sp:=(fun ci=>[fun _=>none,fun _=>none,fun _=>none,fun _=>none,fun _=>none,zln].getD ci fun _=>none)) (sigs:=zfe) (cut:=[]) (hints:=[]) (fn:=Tryz.f118) (t:=zxx) (by kernel_rfl) (by kernel_rfl) (by kernel_rfl) ?_ ?_
 ·exact (z1o (z0t _ _) (z1o (z0t _ _) (z1o (z0t _ _) (z1o (z0t _ _) (z1o (z0t _ _) (z1o z0in (fun ci f s _=>z0t f s)))))))
 ·rintro ds rs - h
  obtain ⟨⟨⟨l,p⟩,hs,hl⟩,rfl,rfl⟩:=z2p h;refine ⟨⟨1,?_⟩,zf8 rfl rfl⟩
  show den _ 1 zxx [.l 6 (l.map zd),I p.tx,I p.at_] []=_
  unfold zxx;refine zcd (ds:=[I (zo l p),.b (z1n l p)]) (z0b9 (ci:=5) rfl rfl (zrb l p hs hl)) ?_;exact z5 rfl rfl
end
section
open Go.RowKit
def Er (n:Int):Prop:=0≤n∧n≤12
theorem Er.i64 {n:Int} (h:Er n) : -9223372036854775808≤n∧n≤9223372036854775807:=⟨by have:=h.1;omega,by have:=h.2;omega⟩
theorem z1j {c:Prop} [Decidable c] {a b:Int} (ha:Er a) (hb:Er b):Er (if c then a else b):=by split <;> assumption
theorem z1a (n:Int) (h:decide (0≤n∧n≤12)=true):Er n:=by unfold Er;exact of_decide_eq_true h
theorem z0pv (o:Op):Er (z3w o):=z1j (z1a _ rfl) (z1j (z1a _ rfl) (z1a _ rfl))
theorem zy0:∀ l:List Op,Er (z4z l)
 | []=>z1a _ rfl
 | o::l=>z1j (z0pv o) (zy0 l)
theorem zlq (l:List Op):Er (z7 l):=z1j (z1a _ rfl) (zy0 l)
theorem z0io (x:In):Er (z2k x):=by unfold z2k;exact z1j (z1a _ rfl) (zlq _)
theorem zy1:∀ l s:List In,Er (z13 l s)
 | [],_=>z1a _ rfl
 | x::l,s=>z1j (z0io x) (z1j (z1a _ rfl) (zy1 l _))
theorem z0a5:∀ l:List Out,Er (z0v l)
 | []=>z1a _ rfl
 | x::l=>z1j (z1j (z1a _ rfl) (zlq _)) (z0a5 l)
theorem zy2:∀ (l:List Int) (s:Int),Er (za9 l s).2
 | [],_=>z1a _ rfl
 | x::l,s=>by
  unfold za9
  repeat' split
  all_goals first|exact z1a _ rfl|exact zy2 _ _
theorem zwj (t:Tx):Er (zf t):=z1j (z1j (z1a _ rfl) (z1j (z1a _ rfl) (z1j (z1a _ rfl) (z1a _ rfl)))) (z1j (zy1 _ _) (z1j (z0a5 _) (zy2 _ _)))
theorem zy3 (h:Int):∀ (l:List Tx) (i:Nat),Er (z45 h l i)
 | [],_=>z1a _ rfl
 | t::l,i=>z1j (zwj t) (z1j (z1a _ rfl) (zy3 h l _))
theorem z0ez (b:Block):Er (zq b):=z1j (z1j (z1a _ rfl) (z1j (z1a _ rfl) (z1j (z1a _ rfl) (z1a _ rfl)))) (zy3 _ _ _)
end
section
open Go.RowKit
set_option maxRecDepth 100000
set_option maxHeartbeats 4000000
theorem zip {W:World} {F:Nat→Prop} {n:Int} {v:Value} (h:Rep W F (I n) v):v = .int .i64 n∧I64 n:=by
 obtain ⟨rfl,h1⟩:=z2z h;exact ⟨rfl,zqw h1⟩
def z0i:List (Nat × Sig):=[(126,⟨[.one],[(false,[.scal])],true⟩),(127,⟨[.one,.one],[(false,[.scal])],true⟩),(150,⟨[.one],[(false,[.scal])],true⟩),(92,⟨[.agg 2,.agg 2],[(false,[.scal])],true⟩),(146,⟨[.agg 6,.agg 2],[(false,[.scal])],true⟩),(145,⟨[.one,.agg 2,.clos 146 []],[(false,[.scal]),(false,[.scal])],true⟩),(118,⟨[.one,.agg 2],[(false,[.scal]),(false,[.scal])],true⟩),(91,⟨[.one],[(false,[.scal])],true⟩),(44,⟨[.one],[(false,[.scal])],true⟩),(93,⟨[.one],[(false,[.fresh 101 6])],false⟩),(64,⟨[.one],[(false,[.fresh 103 2])],false⟩),(45,⟨[.one],[(false,[.fresh 101 6])],false⟩),(74,⟨[.agg 3,.one],[(false,[.scal])],true⟩),(120,⟨[.mine 101 6,.one,.one],[(false,[.fresh 101 6])],false⟩),(119,⟨[.mine 101 6,.one,.one],[(false,[.fresh 101 6])],false⟩),(144,⟨[.one,.one,.one],[(false,[.scal]),(false,[.scal])],true⟩),(111,⟨[.agg 3],[(false,[.scal])],true⟩),(73,⟨[.one,.agg 3,.one,.one],[(false,[.pure]),(true,[.pure]),(false,[.scal])],false⟩),zZr,(57,⟨[.one,.one],[(false,[.scal])],true⟩),(100,⟨[.agg 2,.agg 2],[(false,[.scal])],true⟩),(60,⟨[.one,.one,.clos 61 []],[(false,[.scal])],true⟩),(59,⟨[.agg 2,.agg 2],[(false,[.scal])],true⟩),(67,⟨[.one],[(false,[.scal])],true⟩),(68,⟨[.agg 2,.agg 2],[(false,[.scal])],true⟩),(20,⟨[.one],[(false,[.scal])],true⟩),(16,⟨[.one,.one],[(false,[.scal])],true⟩),(61,⟨[.agg 6,.agg 6],[(false,[.scal])],true⟩),zZr,(165,⟨[.one,.one,.one],[(false,[.fresh 3 1]),(false,[.scal])],false⟩),(210,⟨[.one,.one],[(false,[.scal])],true⟩),(211,⟨[.one,.one],[(false,[.scal])],true⟩),(212,⟨[.one,.one],[(false,[.scal])],true⟩),(214,⟨[.one,.one],[(false,[.scal])],true⟩),(215,⟨[.one,.one],[(false,[.scal])],true⟩),(216,⟨[.one],[(false,[.scal])],true⟩),(213,⟨[.one],[(false,[.scal])],true⟩),(217,⟨[.one],[(false,[.scal])],true⟩),(104,⟨[.one],[(false,[.scal])],true⟩),(143,⟨[.one,.one],[(false,[.scal])],true⟩),(142,⟨[],[(true,[.scal,.scal,.scal,.scal,.scal,.scal,.scal,.scal,.scal,.scal,.scal,.scal,.scal,.scal])],true⟩),zZr,(155,⟨[.one],[(false,[.scal])],true⟩),(134,⟨[.one,.one,.one],[(false,[.fresh 3 1]),(false,[.scal])],false⟩),(108,⟨[.one,.one,.one],[(false,[.scal])],true⟩),(131,⟨[.one],[(false,[.pure])],false⟩),zZr,zZr,(105,⟨[.one],[(false,[.scal])],true⟩),(107,⟨[.one,.agg 2],[(false,[.scal])],true⟩),(110,⟨[.one],[(false,[.fresh 101 6])],false⟩),(56,⟨[.agg 3,.one],[(false,[.scal])],true⟩),(109,⟨[.one],[(false,[.fresh 101 6])],false⟩),(52,⟨[.agg 3],[(false,[.scal])],true⟩),(55,⟨[.one,.agg 3,.one,.one],[(false,[.pure]),(true,[.pure]),(false,[.scal])],false⟩),zZr,(71,⟨[.agg 3],[(false,[.scal]),(false,[.scal])],true⟩),zZr,(99,⟨[.agg 3,.agg 3],[(false,[.scal])],true⟩),(98,⟨[.one,.one,.clos 99 []],[(false,[.scal])],true⟩),(58,⟨[.one,.one,.clos 100 []],[(false,[.scal])],true⟩),(51,⟨[.agg 3,.agg 3],[(false,[.scal])],true⟩),(43,⟨[.agg 1],[(false,[.scal])],true⟩),zZr,(65,⟨[.agg 5],[(false,[.scal])],true⟩),zZr,(63,⟨[.one],[(false,[.scal]),(false,[.scal])],true⟩),zZr,zZr,(13,⟨[.one,.one],[(false,[.scal])],true⟩),zZr,(54,⟨[.agg 3],[(false,[.scal])],true⟩),(15,⟨[.agg 3,.agg 3],[(false,[.scal])],true⟩),(46,⟨[.one],[(false,[.fresh 9 1])],false⟩),(94,⟨[.agg 1,.one],[(true,[.pure]),(false,[.scal]),(false,[.scal])],false⟩),zZr,zZr,zZr,zZr,zZr,zZr,(48,⟨[.agg 3],[(true,[.scal,.pure,.pure])],false⟩),zZr,zZr,zZr,zZr,zZr,zZr,zZr,(47,⟨[.agg 1,.one,.agg 3,.one],[(true,[.pure]),(false,[.pure]),(false,[.scal]),(false,[.scal])],false⟩),(8,⟨[.agg 1,.one,.one,.one],[(true,[.pure]),(false,[.fresh 30 3]),(false,[.pure]),(false,[.scal]),(false,[.scal])],false⟩),(9,⟨[.agg 1,.one,.one,.agg 3,.one],[(true,[.pure]),(false,[.pure]),(false,[.scal])],false⟩),(18,⟨[.agg 1,.one,.one,.one,.one,.one,.one,.one],[(true,[.scal,.scal,.scal,.scal,.pure]),(false,[.scal])],false⟩),zZr,zZr,(11,⟨[],[(false,[.scal])],true⟩),(26,⟨[.agg 5],[(false,[.scal])],true⟩),(21,⟨[.agg 5,.agg 5],[(false,[.scal])],true⟩),zZr,zZr,(62,⟨[.one],[(false,[.fresh 30 3])],false⟩),zZr,zZr,(121,⟨[.agg 2],[(false,[.scal])],true⟩),zZr,zZr,zZr,(95,⟨[.one],[(false,[.fresh 105 3])],false⟩),(96,⟨[.one],[(false,[.fresh 99 2])],false⟩),(14,⟨[.one,.one,.clos 15 []],[(false,[.scal])],true⟩),zZr,(19,⟨[.agg 1],[(false,[.scal])],true⟩),(53,⟨[.one,.one],[(false,[.pure]),(false,[.scal]),(false,[.scal])],false⟩),zZr,(69,⟨[.one],[(false,[.scal])],true⟩),zZr,zZr,zZr,zZr,zZr,zZr,zZr,zZr,zZr,zZr,zZr,zZr,zZr,(10,⟨[.agg 1,.one,.one,.one],[(false,[.scal])],true⟩),(12,⟨[.one,.one,.one,.one],[(false,[.pure]),(false,[.pure]),(false,[.pure]),(false,[.scal])],false⟩),(17,⟨[.one,.one,.one,.agg 3,.one],[(false,[.pure]),(false,[.pure]),(false,[.scal])],false⟩),(22,⟨[.one,.one,.one,.one,.one,.one,.one,.one],[(true,[.scal,.scal,.scal,.scal,.pure]),(false,[.scal])],false⟩),zZr,zZr]
def z0pw:List (Nat × Sig):=[(126,⟨[.one],[(false,[.scal])],true⟩),(127,⟨[.one,.one],[(false,[.scal])],true⟩),(150,⟨[.one],[(false,[.scal])],true⟩),(92,⟨[.agg 2,.agg 2],[(false,[.scal])],true⟩),(146,⟨[.agg 6,.agg 2],[(false,[.scal])],true⟩),(145,⟨[.one,.agg 2,.clos 146 []],[(false,[.scal]),(false,[.scal])],true⟩),(118,⟨[.one,.agg 2],[(false,[.scal]),(false,[.scal])],true⟩),(91,⟨[.one],[(false,[.scal])],true⟩),(44,⟨[.one],[(false,[.scal])],true⟩),(93,⟨[.one],[(false,[.fresh 101 6])],false⟩),(64,⟨[.one],[(false,[.fresh 103 2])],false⟩),(45,⟨[.one],[(false,[.fresh 101 6])],false⟩),(74,⟨[.agg 3,.one],[(false,[.scal])],true⟩),(120,⟨[.mine 101 6,.one,.one],[(false,[.fresh 101 6])],false⟩),(119,⟨[.mine 101 6,.one,.one],[(false,[.fresh 101 6])],false⟩),(144,⟨[.one,.one,.one],[(false,[.scal]),(false,[.scal])],true⟩),(111,⟨[.agg 3],[(false,[.scal])],true⟩),(73,⟨[.one,.agg 3,.one,.one],[(false,[.pure]),(true,[.pure]),(false,[.scal])],false⟩),zZr,(57,⟨[.one,.one],[(false,[.scal])],true⟩),(100,⟨[.agg 2,.agg 2],[(false,[.scal])],true⟩),(60,⟨[.one,.one,.clos 61 []],[(false,[.scal])],true⟩),(59,⟨[.agg 2,.agg 2],[(false,[.scal])],true⟩),(67,⟨[.one],[(false,[.scal])],true⟩),(68,⟨[.agg 2,.agg 2],[(false,[.scal])],true⟩),(20,⟨[.one],[(false,[.scal])],true⟩),(16,⟨[.one,.one],[(false,[.scal])],true⟩),(61,⟨[.agg 6,.agg 6],[(false,[.scal])],true⟩),zZr,(165,⟨[.one,.one,.one],[(false,[.fresh 3 1]),(false,[.scal])],false⟩),(210,⟨[.one,.one],[(false,[.scal])],true⟩),(211,⟨[.one,.one],[(false,[.scal])],true⟩),(212,⟨[.one,.one],[(false,[.scal])],true⟩),(214,⟨[.one,.one],[(false,[.scal])],true⟩),(215,⟨[.one,.one],[(false,[.scal])],true⟩),(216,⟨[.one],[(false,[.scal])],true⟩),(213,⟨[.one],[(false,[.scal])],true⟩),(217,⟨[.one],[(false,[.scal])],true⟩),(104,⟨[.one],[(false,[.scal])],true⟩),(143,⟨[.one,.one],[(false,[.scal])],true⟩),(142,⟨[],[(true,[.scal,.scal,.scal,.scal,.scal,.scal,.scal,.scal,.scal,.scal,.scal,.scal,.scal,.scal])],true⟩),zZr,(155,⟨[.one],[(false,[.scal])],true⟩),(134,⟨[.one,.one,.one],[(false,[.fresh 3 1]),(false,[.scal])],false⟩),(108,⟨[.one,.one,.one],[(false,[.scal])],true⟩),(131,⟨[.one],[(false,[.pure])],false⟩),zZr,zZr,(105,⟨[.one],[(false,[.scal])],true⟩),(107,⟨[.one,.agg 2],[(false,[.scal])],false⟩),(110,⟨[.one],[(false,[.fresh 101 6])],false⟩),(56,⟨[.agg 3,.one],[(false,[.scal])],true⟩),(109,⟨[.one],[(false,[.fresh 101 6])],false⟩),(52,⟨[.agg 3],[(false,[.scal])],true⟩),(55,⟨[.one,.agg 3,.one,.one],[(false,[.pure]),(true,[.pure]),(false,[.scal])],false⟩),zZr,(71,⟨[.agg 3],[(false,[.scal]),(false,[.scal])],true⟩),zZr,(99,⟨[.agg 3,.agg 3],[(false,[.scal])],true⟩),(98,⟨[.one,.one,.clos 99 []],[(false,[.scal])],true⟩),(58,⟨[.one,.one,.clos 100 []],[(false,[.scal])],true⟩),(51,⟨[.agg 3,.agg 3],[(false,[.scal])],true⟩),(43,⟨[.agg 1],[(false,[.scal])],true⟩),zZr,(65,⟨[.agg 5],[(false,[.scal])],true⟩),zZr,(63,⟨[.one],[(false,[.scal]),(false,[.scal])],true⟩),zZr,zZr,(13,⟨[.one,.one],[(false,[.scal])],true⟩),zZr,(54,⟨[.agg 3],[(false,[.scal])],true⟩),(15,⟨[.agg 3,.agg 3],[(false,[.scal])],true⟩),(46,⟨[.one],[(false,[.fresh 9 1])],false⟩),(94,⟨[.agg 1,.one],[(true,[.pure]),(false,[.scal]),(false,[.scal])],false⟩),zZr,zZr,zZr,zZr,zZr,zZr,(48,⟨[.agg 3],[(true,[.scal,.pure,.pure])],false⟩),zZr,zZr,zZr,zZr,zZr,zZr,zZr,(47,⟨[.agg 1,.one,.agg 3,.one],[(true,[.pure]),(false,[.pure]),(false,[.scal]),(false,[.scal])],false⟩),(8,⟨[.agg 1,.one,.one,.one],[(true,[.pure]),(false,[.fresh 30 3]),(false,[.pure]),(false,[.scal]),(false,[.scal])],false⟩),(9,⟨[.agg 1,.one,.one,.agg 3,.one],[(true,[.pure]),(false,[.pure]),(false,[.scal])],false⟩),(18,⟨[.agg 1,.one,.one,.one,.one,.one,.one,.one],[(true,[.scal,.scal,.scal,.scal,.pure]),(false,[.scal])],false⟩),zZr,zZr,(11,⟨[],[(false,[.scal])],true⟩),(26,⟨[.agg 5],[(false,[.scal])],true⟩),(21,⟨[.agg 5,.agg 5],[(false,[.scal])],true⟩),zZr,zZr,(62,⟨[.one],[(false,[.fresh 30 3])],false⟩),zZr,zZr,(121,⟨[.agg 2],[(false,[.scal])],true⟩),zZr,zZr,zZr,(95,⟨[.one],[(false,[.fresh 105 3])],false⟩),(96,⟨[.one],[(false,[.fresh 99 2])],false⟩),(14,⟨[.one,.one,.clos 15 []],[(false,[.scal])],true⟩),zZr,(19,⟨[.agg 1],[(false,[.scal])],true⟩),(53,⟨[.one,.one],[(false,[.pure]),(false,[.scal]),(false,[.scal])],false⟩),zZr,(69,⟨[.one],[(false,[.scal])],true⟩),zZr,zZr,zZr,zZr,zZr,zZr,zZr,zZr,zZr,zZr,zZr,zZr,zZr,(10,⟨[.agg 1,.one,.one,.one],[(false,[.scal])],true⟩),(12,⟨[.one,.one,.one,.one],[(false,[.pure]),(false,[.pure]),(false,[.pure]),(false,[.scal])],false⟩),(17,⟨[.one,.one,.one,.agg 3,.one],[(false,[.pure]),(false,[.pure]),(false,[.scal])],false⟩),(22,⟨[.one,.one,.one,.one,.one,.one,.one,.one],[(true,[.scal,.scal,.scal,.scal,.pure]),(false,[.scal])],false⟩),zZr,zZr]
def z0px:List (Nat × Sig):=[(126,⟨[.one],[(false,[.scal])],true⟩),(127,⟨[.one,.one],[(false,[.scal])],true⟩),(150,⟨[.one],[(false,[.scal])],true⟩),(92,⟨[.agg 2,.agg 2],[(false,[.scal])],true⟩),(146,⟨[.agg 6,.agg 2],[(false,[.scal])],true⟩),(145,⟨[.one,.agg 2,.clos 146 []],[(false,[.scal]),(false,[.scal])],true⟩),(118,⟨[.one,.agg 2],[(false,[.scal]),(false,[.scal])],true⟩),(91,⟨[.one],[(false,[.scal])],true⟩),(44,⟨[.one],[(false,[.scal])],true⟩),(93,⟨[.one],[(false,[.fresh 101 6])],false⟩),(64,⟨[.one],[(false,[.fresh 103 2])],false⟩),(45,⟨[.one],[(false,[.pure])],false⟩),(74,⟨[.agg 3,.one],[(false,[.scal])],true⟩),(120,⟨[.mine 101 6,.one,.one],[(false,[.fresh 101 6])],false⟩),(119,⟨[.mine 101 6,.one,.one],[(false,[.fresh 101 6])],false⟩),(144,⟨[.one,.one,.one],[(false,[.scal]),(false,[.scal])],true⟩),(111,⟨[.agg 3],[(false,[.scal])],true⟩),(73,⟨[.one,.agg 3,.one,.one],[(false,[.pure]),(true,[.pure]),(false,[.scal])],false⟩),zZr,(57,⟨[.one,.one],[(false,[.scal])],true⟩),(100,⟨[.agg 2,.agg 2],[(false,[.scal])],true⟩),(60,⟨[.one,.one,.clos 61 []],[(false,[.scal])],true⟩),(59,⟨[.agg 2,.agg 2],[(false,[.scal])],true⟩),(67,⟨[.one],[(false,[.scal])],true⟩),(68,⟨[.agg 2,.agg 2],[(false,[.scal])],true⟩),(20,⟨[.one],[(false,[.scal])],true⟩),(16,⟨[.one,.one],[(false,[.scal])],true⟩),(61,⟨[.agg 6,.agg 6],[(false,[.scal])],true⟩),zZr,(165,⟨[.one,.one,.one],[(false,[.fresh 3 1]),(false,[.scal])],false⟩),(210,⟨[.one,.one],[(false,[.scal])],true⟩),(211,⟨[.one,.one],[(false,[.scal])],true⟩),(212,⟨[.one,.one],[(false,[.scal])],true⟩),(214,⟨[.one,.one],[(false,[.scal])],true⟩),(215,⟨[.one,.one],[(false,[.scal])],true⟩),(216,⟨[.one],[(false,[.scal])],true⟩),(213,⟨[.one],[(false,[.scal])],true⟩),(217,⟨[.one],[(false,[.scal])],true⟩),(104,⟨[.one],[(false,[.scal])],true⟩),(143,⟨[.one,.one],[(false,[.scal])],true⟩),(142,⟨[],[(true,[.scal,.scal,.scal,.scal,.scal,.scal,.scal,.scal,.scal,.scal,.scal,.scal,.scal,.scal])],true⟩),zZr,(155,⟨[.one],[(false,[.scal])],true⟩),(134,⟨[.one,.one,.one],[(false,[.fresh 3 1]),(false,[.scal])],false⟩),(108,⟨[.one,.one,.one],[(false,[.scal])],true⟩),(131,⟨[.one],[(false,[.pure])],false⟩),zZr,zZr,(105,⟨[.one],[(false,[.scal])],true⟩),(107,⟨[.one,.agg 2],[(false,[.scal])],true⟩),(110,⟨[.one],[(false,[.fresh 101 6])],false⟩),(56,⟨[.agg 3,.one],[(false,[.scal])],true⟩),(109,⟨[.one],[(false,[.fresh 101 6])],false⟩),(52,⟨[.agg 3],[(false,[.scal])],true⟩),(55,⟨[.one,.agg 3,.one,.one],[(false,[.pure]),(true,[.pure]),(false,[.scal])],false⟩),zZr,(71,⟨[.agg 3],[(false,[.scal]),(false,[.scal])],true⟩),zZr,(99,⟨[.agg 3,.agg 3],[(false,[.scal])],true⟩),(98,⟨[.one,.one,.clos 99 []],[(false,[.scal])],true⟩),(58,⟨[.one,.one,.clos 100 []],[(false,[.scal])],true⟩),(51,⟨[.agg 3,.agg 3],[(false,[.scal])],true⟩),(43,⟨[.agg 1],[(false,[.scal])],true⟩),zZr,(65,⟨[.agg 5],[(false,[.scal])],true⟩),zZr,(63,⟨[.one],[(false,[.scal]),(false,[.scal])],true⟩),zZr,zZr,(13,⟨[.one,.one],[(false,[.scal])],true⟩),zZr,(54,⟨[.agg 3],[(false,[.scal])],true⟩),(15,⟨[.agg 3,.agg 3],[(false,[.scal])],true⟩),(46,⟨[.one],[(false,[.pure])],false⟩),(94,⟨[.agg 1,.one],[(true,[.pure]),(false,[.scal]),(false,[.scal])],false⟩),zZr,zZr,zZr,zZr,zZr,zZr,(48,⟨[.agg 3],[(true,[.scal,.pure,.pure])],false⟩),zZr,zZr,zZr,zZr,zZr,zZr,zZr,(47,⟨[.agg 1,.one,.agg 3,.one],[(true,[.pure]),(false,[.pure]),(false,[.scal]),(false,[.scal])],false⟩),(8,⟨[.agg 1,.one,.one,.one],[(true,[.pure]),(false,[.fresh 30 3]),(false,[.pure]),(false,[.scal]),(false,[.scal])],false⟩),(9,⟨[.agg 1,.one,.one,.agg 3,.one],[(true,[.pure]),(false,[.pure]),(false,[.scal])],false⟩),(18,⟨[.agg 1,.one,.one,.one,.one,.one,.one,.one],[(true,[.scal,.scal,.scal,.scal,.pure]),(false,[.scal])],false⟩),zZr,zZr,(11,⟨[],[(false,[.scal])],true⟩),(26,⟨[.agg 5],[(false,[.scal])],true⟩),(21,⟨[.agg 5,.agg 5],[(false,[.scal])],true⟩),zZr,zZr,(62,⟨[.one],[(false,[.fresh 30 3])],false⟩),zZr,zZr,(121,⟨[.agg 2],[(false,[.scal])],true⟩),zZr,zZr,zZr,(95,⟨[.one],[(false,[.fresh 105 3])],false⟩),(96,⟨[.one],[(false,[.fresh 99 2])],false⟩),(14,⟨[.one,.one,.clos 15 []],[(false,[.scal])],true⟩),zZr,(19,⟨[.agg 1],[(false,[.scal])],true⟩),(53,⟨[.one,.one],[(false,[.pure]),(false,[.scal]),(false,[.scal])],false⟩),zZr,(69,⟨[.one],[(false,[.scal])],true⟩),zZr,zZr,zZr,zZr,zZr,zZr,zZr,zZr,zZr,zZr,zZr,zZr,zZr,(10,⟨[.agg 1,.one,.one,.one],[(false,[.scal])],true⟩),(12,⟨[.one,.one,.one,.one],[(false,[.pure]),(false,[.pure]),(false,[.pure]),(false,[.scal])],false⟩),(17,⟨[.one,.one,.one,.agg 3,.one],[(false,[.pure]),(false,[.pure]),(false,[.scal])],false⟩),(22,⟨[.one,.one,.one,.one,.one,.one,.one,.one],[(true,[.scal,.scal,.scal,.scal,.pure]),(false,[.scal])],false⟩),zZr,zZr]
noncomputable def z2d:z9:=spD (fun _:List Op=>True) fun l=>z7 l
noncomputable def zbj:z9:=spD (fun _:Tx=>True) fun t=>zf t
noncomputable def z3c:z9:=spD (fun l:List Op=>l.length≤8796093022208) fun l=>l
noncomputable def z5s:z9:=spD (fun l:List Coin=>l.length≤1000000) fun l=>l
noncomputable def z3z:z9:=spD (fun _:List Op × List Op=>True) fun x=>decide (x.1=x.2)
theorem zaa:Meets Tryz.prog z2d 91 ⟨[.one],[(false,[.scal])],true⟩ :=
 za5 (e:=fun x:{ x:List Op // True }=>Enc.e x.1) (d:=fun x=>I (z7 x.1)) rfl (z23 (fn:=Tryz.f91) (by kernel_rfl) (by kernel_rfl) (by kernel_rfl)) (fun _=>rfl) fun x W F us hF h=>by
  obtain ⟨v,us,rfl,h1,h⟩:=z1f h;obtain rfl:=z2a h;obtain ⟨A,n,c,rfl,k1⟩:=z3t z7z h1;exact (zay x.1 A n c W F k1 hF).mono fun e w' h=>⟨_,h.1,h.2,.i _ _ (wrap_i64 (zlq x.1).i64)⟩
theorem z0f0:Meets Tryz.prog zbj 111 ⟨[.agg 3],[(false,[.scal])],true⟩ :=
 za5 (e:=fun x:{ x:Tx // True }=>Enc.e x.1) (d:=fun x=>I (zf x.1)) rfl (z23 (fn:=Tryz.f111) (by kernel_rfl) (by kernel_rfl) (by kernel_rfl)) (fun _=>rfl) fun x W F us hF h=>by
  obtain ⟨cs,rfl,hr⟩:=z8c h;exact (zdn x.1 cs W F (she_tx.of hr) hF).mono fun e w' h=>⟨_,h.1,h.2,.i _ _ (wrap_i64 (zwj x.1).i64)⟩
theorem zh3:Meets Tryz.prog z3c 64 ⟨[.one],[(false,[.fresh 103 2])],false⟩ :=
 z5a (e:=fun x:{ l:List Op // l.length≤8796093022208 }=>Enc.e x.1) (xs:=fun x=>x.1) z7z rfl rfl (by decide) (z23 (fn:=Tryz.f64) (by kernel_rfl) (by kernel_rfl) (by kernel_rfl)) fun x W F us hF h=>by
  obtain ⟨v,us,rfl,h1,h⟩:=z1f h;obtain rfl:=z2a h;obtain ⟨A,n,c,rfl,k1⟩:=z3t z7z h1;have:=x.2;have:=k1.1;exact (z0i4 x.1 A n c W F k1 hF (by omega)).mono fun r W' h=>⟨n,h⟩
theorem zy4:Meets Tryz.prog z5s 93 ⟨[.one],[(false,[.fresh 101 6])],false⟩ :=
 z5a (e:=fun x:{ l:List Coin // l.length≤1000000 }=>Enc.e x.1) (xs:=fun x=>x.1) she_coin rfl rfl (by decide) (z23 (fn:=Tryz.f93) (by kernel_rfl) (by kernel_rfl) (by kernel_rfl)) fun x W F us hF h=>by
  obtain ⟨v,us,rfl,h1,h⟩:=z1f h;obtain rfl:=z2a h;obtain ⟨A,n,c,rfl,k1⟩:=z3t she_coin h1;have:=x.2;have:=k1.1;exact (zlc x.1 A n c W F k1 hF (by omega)).mono fun r W' h=>⟨n,h⟩
noncomputable def zbk:z9:=spD (fun _:Point × Point=>True) fun x=>z1e x.1 x.2
theorem zrx (p q:Point):zbk [I p.tx,I p.at_,I q.tx,I q.at_]=some [I (z1e p q)]:=zg (f:=fun x:Point × Point=>z1e x.1 x.2) (p,q) trivial
theorem z6h (l:List Op):z2d [.l 2 (l.map eOp)]=some [I (z7 l)]:=zg (f:=fun l:List Op=>z7 l) l trivial
theorem z5v (l:List Op) (h:l.length≤8796093022208):z3c [.l 2 (l.map eOp)]=some [.l 2 (l.map eOp)]:=zg (f:=fun l:List Op=>l) l h
theorem z8z (l:List Coin) (h:l.length≤1000000):z5s [.l 6 (l.map zd)]=some [.l 6 (l.map zd)]:=zg (f:=fun l:List Coin=>l) l h
theorem zlr {P:Program} {s s':z9} {f:Nat} {g:Sig} (h:Meets P s f g) (he:∀ ds rs,s' ds=some rs→s ds=some rs):Meets P s' f g:=by
 refine ⟨fun hm W F ds args rs hF ha hs=>h.1 hm W F ds args rs hF ha (he _ _ hs),fun e sz ps hp W F base v xs vs ds args rs h1 h2 h3 h4 h5 h6 h7 hs=>h.2 e sz ps hp W F base v xs vs ds args rs h1 h2 h3 h4 h5 h6 h7 (he _ _ hs)⟩
theorem z0f1:Meets Tryz.prog zbk 92 ⟨[.agg 2,.agg 2],[(false,[.scal])],true⟩:=zlr z0ex fun ds rs h=>by
 obtain ⟨⟨p,q⟩,-,rfl,rfl⟩:=zi h;exact zlo p q
noncomputable def zbl:z9:=spD (fun x:List Coin × Point=>z06 x.1∧x.1.length≤1000000) fun x=>((zo x.1 x.2:Int),z1n x.1 x.2)
theorem zb0 (l:List Coin) (p:Point) (h:z06 l) (hl:l.length≤1000000):zbl [.l 6 (l.map zd),I p.tx,I p.at_]=some [I (zo l p),.b (z1n l p)]:=zg (p:=fun x:List Coin × Point=>z06 x.1∧x.1.length≤1000000) (f:=fun x:List Coin × Point=>((zo x.1 x.2:Int),z1n x.1 x.2)) (l,p) ⟨h,hl⟩
theorem z0f2:Meets Tryz.prog zbl 118 ⟨[.one,.agg 2],[(false,[.scal]),(false,[.scal])],true⟩:=zlr z0pu fun ds rs h=>by
 obtain ⟨⟨l,p⟩,⟨h1,h2⟩,rfl,rfl⟩:=zi h;exact zrb l p h1 h2
def z4b (c:Coin):Int:=if c.p.tx<1∨120<c.p.tx∨c.p.at_<0∨6≤c.p.at_∨c.o.coin<1∨1000000000<c.o.coin∨c.height<1∨1000<c.height then 3 else z7 c.o.lock
def zh:List Coin→Int
 | []=>0
 | c::l=>c.o.coin+zh l
theorem z4g (l r:List Coin):zh (l++r)=zh l+zh r:=by
 induction l with
 | nil=>simp [zh]
 | cons c l ih=>simp only [zY1j,zh,ih];omega
def z6a:Point→Int→List Coin→Int
 | _,_,[]=>0
 | pv,s,c::r=>if c.p.tx<1∨120<c.p.tx∨c.p.at_<0∨6≤c.p.at_∨c.o.coin<1∨1000000000<c.o.coin∨c.height<1∨1000<c.height then 3
  else if z7 c.o.lock≠0 then z7 c.o.lock else if 0≤z1e pv c.p then 6 else if 1000000000<s+c.o.coin then 12 else z6a c.p (s+c.o.coin) r
def zb (l:List Coin):Int:=if 720<(l.length:Int) then 2 else z6a ⟨0,0⟩ 0 l
noncomputable def z51:z9:=spD (fun _:List Coin=>True) fun l=>zb l
theorem z86 (l:List Coin):z51 [.l 6 (l.map zd)]=some [I (zb l)]:=zg (f:=fun l:List Coin=>zb l) l trivial
attribute [local irreducible] z00 spD z1e
def z069:T :=
 .lets [.bin .gtr 30 (zI 1000000000)] [] (.ite 31 (.ret [zI 12]) (.lets [.bin .add 6 (zI 1)] [] (.again 0 [30,5,32])))
def z06a:T :=
 .lets [.call 3 [26,27,8,9] 0] [] (.lets [.bin .geq 28 (zI 0)] [] (.ite 29 (.ret [zI 6]) (.lets [.bin .add 4 10] []
 z069)))
def z06b:T :=
 .lets [.bin .gtr 25 (zI 1000000000)] [] (.ite 26 (.ret [zI 12]) (.lets [.bin .add 6 (zI 1)] [] (.again 0 [25,5,27])))
def z06c:T :=
 .ite 24 (.lets [.bin .sub 6 (zI 1)] [] (.lets [] [.inr 6 0 25] (.lets [.idx 0 25 0,.idx 0 25 1] [] z06a))) (.lets [.bin
 .add 4 10] [] z06b)
def z06d:T :=
 .lets [.call 7 [11] 0] [] (.lets [.bin .neq 22 (zI 0)] [] (.ite 23 (.ret [22]) (.lets [.bin .gtr 6 (zI 0)] [] z06c)))
def z06e:T :=
 .lets [.bin .lss 12 (zI 1)] [] (.ite 20 (.ret [zI 3]) (.lets [.bin .gtr 12 (zI 1000)] [] (.ite 21 (.ret [zI 3])
 z06d)))
def z06f:T :=
 .lets [.bin .lss 10 (zI 1)] [] (.ite 18 (.ret [zI 3]) (.lets [.bin .gtr 10 (zI 1000000000)] [] (.ite 19 (.ret [zI 3])
 z06e)))
def z06g:T :=
 .lets [.bin .lss 9 (zI 0)] [] (.ite 16 (.ret [zI 3]) (.lets [.bin .geq 9 (zI 6)] [] (.ite 17 (.ret [zI 3]) z06f)))
def z06h:T :=
 .lets [.bin .lss 8 (zI 1)] [] (.ite 14 (.ret [zI 3]) (.lets [.bin .gtr 8 (zI 120)] [] (.ite 15 (.ret [zI 3])
 z06g)))
def z06i:T :=
 .lets [] [.inr 6 0 6] (.lets [.idx 0 6 0,.idx 0 6 1,.idx 0 6 2,.idx 0 6 3,.idx 0 6 4,.idx 0 6 5] []
 z06h)
def zy5:T :=
 .lets [.len 0] [] (.loop [zI 0,zI 0,zI 0] (.lets [.bin .lss 6 3] [] (.ite 7 z06i (.ret [zI 0]))))
def zh4:T :=
 .lets [.len 0] [] (.lets [.bin .gtr 1 (zI 720)] [] (.ite 2 (.ret [zI 2]) zy5))
theorem zrc:Meets Tryz.prog z51 44 ⟨[.one],[(false,[.scal])],true⟩:=by
 refine zj (sp:=(z07 [(3,zbk),(7,z2d)])) (sigs:=z0i) (cut:=[]) (hints:=[⟨5,[.t 3,.t 2,.t 12]⟩]) (fn:=Tryz.f44) (t:=zh4) (by kernel_rfl) (by kernel_rfl) (by kernel_rfl) ?_ ?_
 ·exact (z01 (L:=[(3,zbk),(7,z2d)]) ⟨za rfl z0f1,za rfl zaa,trivial⟩)
 ·rintro ds rs - h
  obtain ⟨l,-,rfl,rfl⟩:=zi h;clear h;refine ⟨⟨l.length+1,?_⟩,zy rfl⟩
  show den _ _ zh4 [.l 6 (l.map zd)] []=ret (zb l)
  unfold zh4 zb
  repeat' (first|refine dq1 ?_|exact z5 rfl rfl|refine tR (fun h=>?_) fun h=>?_|fail)
  (refine zw (fun (st:Point × Int) k=>[I st.2,I 0,I k]) (fun st k r=>z6a st.1 st.2 r) (fun st k=>((k=0∧st.1=⟨0,0⟩)∨(0<k∧∃ d,l[((k:Int) - 1).toNat]? = some d∧d.p=st.1))∧0≤st.2∧st.2≤1000000000) (⟨0,0⟩,0) l ?_ ?_ ?_ ?_ ?_;rfl;exact ⟨.inl ⟨rfl,rfl⟩,by decide,by decide⟩;exact zY1z _)
  ·rintro ⟨pv,s⟩ k c r hx hd hk ⟨hp,hs0,hs1⟩ again hag
   simp only at hp hs0 hs1 ⊢;rw [z6a]
   repeat' (first|refine dq1 ?_|refine dqc ?_|refine dqm ?_|refine dqk rfl (z6h _) ?_|exact z5 rfl rfl|((first|refine tR ?_ ?_|refine tO ?_ ?_) <;> intro h)|refine dqT ?_|fail)
   refine z36 rfl (fun h=>?_) (fun h=>?_)
   ·obtain ⟨hk0,-⟩|⟨hk0,d,hd',rfl⟩:=hp
    ·omega
    repeat' (first|refine dq1 ?_|refine dqc ?_|refine dqm ?_|refine dqk rfl (zrx _ _) ?_|exact z5 rfl rfl|refine tR (fun h=>?_) fun h=>?_|fail)
    exact z6 rfl rfl (hag (c.p,s+c.o.coin) ⟨.inr ⟨by omega,c,by simpa using hx,rfl⟩,by simp only;omega,by simp only;omega⟩)
   ·obtain ⟨rfl,rfl⟩|⟨hk0,-⟩:=hp
    ·have ho:¬ 0≤z1e ⟨0,0⟩ c.p:=by
      have:=zin ⟨0,0⟩ c.p;unfold ltP at this;simp only at this;omega
     rw [if_neg ho]
     repeat' (first|refine dq1 ?_|exact z5 rfl rfl|refine tR (fun h=>?_) fun h=>?_|fail)
     exact z6 rfl rfl (hag (c.p,s+c.o.coin) ⟨.inr ⟨by omega,c,by simpa using hx,rfl⟩,by simp only;omega,by simp only;omega⟩)
    ·omega
  ·intro st hI again
   simp only [z6a]
   repeat' (first|refine dq1 ?_|exact z5 rfl rfl|refine dqF ?_|fail)
structure CoinsOK (l:List Coin):Prop where
 len:l.length≤720
 good:∀ c ∈ l,z4b c=0
 sorted:z06 l
 total:zh l≤1000000000
theorem z3m {c:Coin} (h:z4b c=0):1≤c.p.tx∧c.p.tx≤120∧0≤c.p.at_∧c.p.at_≤5∧1≤c.o.coin∧c.o.coin≤1000000000∧1≤c.height∧c.height≤1000∧z7 c.o.lock=0:=by
 unfold z4b at h
 split at h
 ·cases h
 ·omega
theorem zls:∀ (l:List Coin) (p:Point) (s:Int),0≤s→s≤1000000000→(z6a p s l=0↔(∀ c ∈ l,z4b c=0)∧z06 l∧(∀ c ∈ l,ltP p c.p)∧s+zh l≤1000000000)
 | [],p,s,h0,h1=>by simp [z6a,z06,zh];omega
 | c::l,p,s,h0,h1=>by
  have ho:=zin p c.p;rw [z6a]
  by_cases hb:z4b c=0
  ·have hb':=hb
   unfold z4b at hb'
   split at hb'
   ·cases hb'
   rename_i hr;rw [if_neg hr,if_neg (by simp [hb'])];obtain ⟨_,_,_,_,hc1,hc2,_,_,_⟩:=z3m hb
   by_cases hlt:ltP p c.p
   ·rw [if_neg (by have:=ho.2 hlt;omega)]
    by_cases hf:1000000000<s+c.o.coin
    ·rw [if_pos hf]
     constructor
     ·intro h;cases h
     ·rintro ⟨h2,h3,h4,h5⟩
      have:∀ l:List Coin,(∀ c ∈ l,z4b c=0)→0≤zh l:=by
       intro l
       induction l with
       | nil=>intro _;simp [zh]
       | cons d l ih =>
        intro h;have:=z3m (h d (zY0h ..));have:=ih fun x hx=>h x (zY0d _ hx)
        simp only [zh];omega
      have:=this l fun x hx=>h2 x (zY0d _ hx)
      simp only [zh] at h5;omega
    ·rw [if_neg hf,zls l c.p (s+c.o.coin) (by omega) (by omega)]
     simp only [z06,zh,zY0i,forall_eq_or_imp,zY1q];constructor
     ·rintro ⟨h2,h3,h4,h5⟩
      exact ⟨⟨hb,h2⟩,⟨h4,h3⟩,⟨hlt,fun x hx=>z6v hlt (h4 x hx)⟩,by omega⟩
     ·rintro ⟨⟨_,h2⟩,⟨h4,h3⟩,_,h5⟩
      exact ⟨h2,h3,h4,by omega⟩
   ·rw [if_pos (by rcases Int.lt_or_le (z1e p c.p) 0 with h|h;exact absurd (ho.1 h) hlt;exact h)]
    constructor
    ·intro h;cases h
    ·rintro ⟨_,_,h4,_⟩
     exact absurd (h4 c (zY0h ..)) hlt
  ·constructor
   ·intro h
    exfalso
    apply hb;unfold z4b
    split
    ·rename_i hr
     rw [if_pos hr] at h;cases h
    ·rename_i hr
     rw [if_neg hr] at h
     by_cases hc:z7 c.o.lock=0
     ·exact hc
     ·rw [if_pos hc] at h;exact absurd h hc
   ·rintro ⟨h2,_⟩
    exact absurd (h2 c (zY0h ..)) hb
theorem zci {l:List Coin} (h:∀ c ∈ l,z4b c=0):0≤zh l:=by
 induction l with
 | nil=>simp [zh]
 | cons d l ih =>
  have:=z3m (h d (zY0h ..));have:=ih fun x hx=>h x (zY0d _ hx)
  simp only [zh];omega
theorem z1r (l:List Coin):zb l=0↔CoinsOK l:=by
 unfold zb
 by_cases h:(720:Int)<l.length
 ·rw [if_pos h]
  constructor
  ·intro h;cases h
  ·intro ok;have:=ok.len;omega
 ·rw [if_neg h,zls l ⟨0,0⟩ 0 (by decide) (by decide)]
  constructor
  ·rintro ⟨h1,h2,_,h4⟩;exact ⟨by omega,h1,h2,by omega⟩
  ·intro ok
   refine ⟨ok.good,ok.sorted,fun c hc=>?_,by have:=ok.total;omega⟩;have:=z3m (ok.good c hc);unfold ltP;simp only;omega
theorem z90 {l:List Op} (h:z7 l=0):l.length≤16:=by
 unfold z7 at h
 split at h
 ·cases h
 ·omega
end
section
open Go.RowKit Go.Shelf
open Go.Lib (itoa atoiAll atoiSat)
set_option maxRecDepth 100000
structure GoErr where
 is:Bool
instance:Enc GoErr:=⟨fun x=>[.e x.is],1,fun _=>rfl,fun x y h=>by cases x;cases y;simpa using h⟩
section
variable {P:Program} {W:World} {F:Nat→Prop}
theorem zbz {x:List UInt8} {v:Value} (h:Rep W F (.s x) v):v = .string ⟨x.toArray⟩∧x.length≤9223372036854775807:=by
 cases h
 exact ⟨rfl,by assumption⟩
theorem z0ip {l:List (List UInt8)} {v:Value} (h:Rep W F (.l 1 (l.map z0g)) v):∃ A c b o,v = .slice A l.length c∧l.length≤c∧c≤9223372036854775807∧(0<l.length→A=some ⟨b,o,none⟩∧F b)∧∀ (j:Nat) x,l[j]? = some x→W.cell? ⟨b,o+j,none⟩=some (.string ⟨x.toArray⟩):=by
 cases h with
 | l _ _ A n c b o vs h0 h1 h2 h3 h4 h5 h6 =>
  subst h0;refine ⟨A,c,b,o,by rw [zY0w],by simpa using h1,h2,by simpa using h4,fun j x hx=>?_⟩;have e1:=h5 j 0 (z0g x) (.s x) (by rw [zY0j,hx];rfl) rfl;have e2:=h6 j 0 (z0g x) (.s x) (by rw [zY0j,hx];rfl) rfl;rw [(zbz e2).1] at e1;simpa using e1
theorem z6y {α β:Type} [Enc α] [Enc β] {p:α→Prop} {f:α→β} {s:Sig} {fnum:Nat} (hpk:z41 s.args=false) (hen:En P fnum)
  (h:∀ x,p x→∀ W F us,zaw F W→PKRs W F s.args (Enc.e x) us→Calls P fnum us.toArray W fun r W'=>∃ v,r = .returned v∧Below W.heap.size W W'∧∃ us F',ResR W F W' s (Enc.e (f x)) v us F'):Meets P (spD p f) fnum s :=
 .mk hpk fun W F ds args rs hF ha hs=>by
  obtain ⟨x,hx,rfl,rfl⟩:=zi hs;exact .inl ⟨hen.run _ _,(h x hx W F args hF ha).mono fun r W' ⟨v,h1,h2,h3⟩=>⟨v,h1,h2,h3⟩⟩
theorem zlt {α:Type} [Enc α] {p:α→Prop} {f:α→List UInt8} {pk:List PK} {fnum:Nat} (hpk:z41 pk=false) (hen:En P fnum)
  (h:∀ x,p x→∀ W F us,zaw F W→PKRs W F pk (Enc.e x) us→(f x).length≤9223372036854775807∧Calls P fnum us.toArray W fun r W'=>r = .returned (.string ⟨(f x).toArray⟩)∧Below W.heap.size W W'):Meets P (spD p f) fnum ⟨pk,[(false,[.scal])],true⟩ :=
 z6y hpk hen fun x hx W F us hF ha=>(h x hx W F us hF ha).2.mono fun r W' ⟨h1,h2⟩=>⟨_,h1,h2,zjw rfl (.s _ (h x hx W F us hF ha).1)⟩
theorem z7h {α:Type} [Enc α] {p:α→Prop} {f:α→Int} {pk:List PK} {fnum:Nat} (hpk:z41 pk=false) (hen:En P fnum)
  (h:∀ x,p x→∀ W F us,zaw F W→PKRs W F pk (Enc.e x) us→I64 (f x)∧Calls P fnum us.toArray W fun r W'=>r = .returned (.int .i64 (f x))∧Below W.heap.size W W'):Meets P (spD p f) fnum ⟨pk,[(false,[.scal])],true⟩ :=
 z6y hpk hen fun x hx W F us hF ha=>(h x hx W F us hF ha).2.mono fun r W' ⟨h1,h2⟩=>⟨_,h1,h2,zjw rfl (.i _ _ (wrap_i64 (h x hx W F us hF ha).1))⟩
theorem z0a6 {s:List PK} {l:Bool} {W':World} {d1 d2:Dt} {v1 v2:Value} (h1:d1.scal=true) (h2:d2.scal=true) (r1:Rep W' F d1 v1) (r2:Rep W' F d2 v2):∃ us F',ResR W F W' ⟨s,[(false,[.scal]),(false,[.scal])],l⟩ [d1,d2] (.tuple #[v1,v2]) us F':=by
 refine ⟨[v1,v2],F,zf7 ⟨[v1,v2],rfl,v1,[v2],[v1],[v2],rfl,rfl,⟨rfl,rfl⟩,v2,[],[v2],[],rfl,rfl,⟨rfl,rfl⟩,rfl,rfl⟩ ?_ ?_ rfl ⟨r1,r2,trivial⟩ fun b hb=>.inl hb⟩
 ·intro c hc
  simp only [zn,zY1u,zY34,zY23,zY1j,zY11,zY0i,zY1i,or_false] at hc;rcases hc with rfl|rfl <;> exact .inl rfl
 ·intro j d hj hd
  match j,hd with
  | 0,hd=>simp only [zY04,zY00] at hd;subst hd;exact h1
  | 1,hd=>simp only [zY04,zY2a,zY00] at hd;subst hd;exact h2
  | j+2,hd=>simp at hd
end
theorem zcj (n:Int) (h:I64 n):(itoa n).length≤20:=by
 obtain ⟨h0,h1⟩:=h
 by_cases hn:n<0
 ·rw [zjy hn,zY0g]
  have:=z4r 18 n.natAbs (by omega);omega
 ·rw [zjz hn]
  have:=z4r 18 n.toNat (by omega);omega
noncomputable def z5j:z9:=spD (fun _:Int=>True) fun n=>itoa n
theorem z7i (n:Int):z5j [I n]=some [.s (itoa n)]:=zg (f:=fun n:Int=>itoa n) n trivial
theorem zy6:Meets Tryz.prog z5j 104 ⟨[.one],[(false,[.scal])],true⟩ :=
 zlt rfl (z23 (fn:=Tryz.f104) (by kernel_rfl) (by kernel_rfl) (by kernel_rfl)) fun n _ W F us hF h=>by
  obtain ⟨v,us,rfl,h1,h⟩:=z1f h;obtain rfl:=z2a h;obtain ⟨rfl,hn⟩:=zip h1;refine ⟨by have:=zcj n hn;omega,(Any.strconv_Itoa Tryz.lays171 n hn.1 hn.2 W hF.2.1).mono ?_⟩;rintro e w' ⟨rfl,k,os,rfl⟩;exact ⟨rfl,Go.Lib.below_grow _ _ (zY0m _) k os⟩
noncomputable def zbm:z9:=spD (fun x:List (List UInt8) × List UInt8=>x.1.length≤1000000∧(Go.Lib.join x.1 x.2).length≤1000000000) fun x=>Go.Lib.join x.1 x.2
theorem zry (l:List (List UInt8)) (s:List UInt8) (h:l.length≤1000000∧(Go.Lib.join l s).length≤1000000000):zbm [.l 1 (l.map z0g),.s s]=some [.s (Go.Lib.join l s)] :=
 zg (p:=fun x:List (List UInt8) × List UInt8=>x.1.length≤1000000∧(Go.Lib.join x.1 x.2).length≤1000000000) (f:=fun x:List (List UInt8) × List UInt8=>Go.Lib.join x.1 x.2) (l,s) h
theorem z0f3:Meets Tryz.prog zbm 143 ⟨[.one,.one],[(false,[.scal])],true⟩ :=
 zlt rfl (z23 (fn:=Tryz.f143) (by kernel_rfl) (by kernel_rfl) (by kernel_rfl)) fun ⟨l,s⟩ ⟨hl,hj⟩ W F us hF h=>by
  obtain ⟨v,us,rfl,h1,h⟩:=z1f h;obtain ⟨v2,us,rfl,h2,h⟩:=z1f h;obtain rfl:=z2a h;obtain ⟨A,c,b,o,rfl,hc,hcm,hp,hcell⟩:=z0ip h1;obtain ⟨rfl,-⟩:=zbz h2;simp only at hl hj hc hp hcell;refine ⟨by simp only;omega,?_⟩
  by_cases h0:l.length=0
  ·obtain rfl:l=[]:=zY07 h0
   exact (Any.strings_Join_none Tryz.lays156 Tryz.Builder_Extra_156 A c ⟨s.toArray⟩ W).mono fun e w' ⟨h1,h2⟩=>⟨h1,h2 ▸ Below.refl _ _⟩
  ·obtain ⟨rfl,hb⟩:=hp (by omega)
   have hd:∀ l:List (List UInt8),(l.map fun x=>(⟨x.toArray⟩:ByteArray)).map (·.data.toList)=l:=fun l=>by rw [zY3o];exact (List.map_congr_left fun x _=>rfl).trans (List.map_id l)
   have key:=Any.strings_Join Tryz.lays156 Tryz.Builder_Extra_156 b o c (l.map fun x=>(⟨x.toArray⟩:ByteArray)) ⟨s.toArray⟩ W (fun j x hx=>by
    rw [zY0j] at hx;obtain ⟨y,hy,rfl⟩:=zY0o.1 hx;exact hcell j y hy) (hF.1 b hb) (by rw [zY0w];omega) (by rw [zY0w];omega) (by rw [hd];simp only;omega)
   rw [hd,zY0w] at key;exact key
end
section
open Go.RowKit Go.Shelf
open Go.Lib (itoa atoiAll atoiSat)
set_option maxRecDepth 100000
theorem z0os (x:List UInt8):(⟨x.toArray⟩:ByteArray).size=x.length:=by
 show x.toArray.size=x.length
 simp
section
variable {P:Program} {W:World} {F:Nat→Prop}
theorem zy7 (t:Nat) (L:List (List UInt8)) (hx:∀ x ∈ L,x.length≤9223372036854775807) (hL:L.length≤9223372036854775807) :
  Rep (W.alloc (.cells (L.map fun x=>Value.string ⟨x.toArray⟩).toArray t)) (fun b=>F b∨b=W.heap.size) (.l 1 (L.map z0g)) (.slice (some ⟨W.heap.size,0,none⟩) L.length L.length):=by
 refine .l 1 _ _ _ _ W.heap.size 0 (fun i _=>.string ⟨((L[i]?).getD []).toArray⟩) (by rw [zY0w]) (by rw [zY0w];exact zY0m _) hL (fun x hx=>?_) (fun _=>⟨rfl,.inr rfl⟩) (fun i j x d hi hj=>?_) (fun i j x d hi hj=>?_)
 ·obtain ⟨y,_,rfl⟩:=zY2q.1 hx;rfl
 ·rw [zY0j] at hi
  obtain ⟨y,hy,rfl⟩:=zY0o.1 hi
  match j,hj with
  | 0,hj =>
   have hc:(W.alloc (.cells (L.map fun x=>Value.string ⟨x.toArray⟩).toArray t)).heap[W.heap.size]? = some (.cells (L.map fun x=>Value.string ⟨x.toArray⟩).toArray t):=heap_alloc_new W _;rw [hy];simp only [World.cell?,hc,zY0q,Nat.mul_one,zY2c,zY2h,zY0j,hy,zY10,zY1y];rfl
 ·rw [zY0j] at hi
  obtain ⟨y,hy,rfl⟩:=zY0o.1 hi
  match j,hj with
  | 0,hj =>
   simp only [z0g,zY04,zY00] at hj;subst hj;rw [hy];exact .s y (hx y (zY0f hy))
theorem z0iq {s:List PK} {l:Bool} {t:Nat} {L:List (List UInt8)} (hx:∀ x ∈ L,x.length≤9223372036854775807) (hL:L.length≤9223372036854775807) :
  ∃ us F',ResR W F (W.alloc (.cells (L.map fun x=>Value.string ⟨x.toArray⟩).toArray t)) ⟨s,[(false,[.pure])],l⟩ (Enc.e L) (.slice (some ⟨W.heap.size,0,none⟩) L.length L.length) us F':=by
 refine ⟨[_],fun b=>F b∨b=W.heap.size,zf7 ⟨rfl,rfl⟩ ?_ ?_ rfl ⟨zy7 t L hx hL,trivial⟩ fun b hb=>?_⟩
 ·intro c hc
  simp only [zn,zY1u,zY34,zY23,zY0i,zY1i,or_false] at hc;exact .inr hc
 ·intro j d hj hd
  match j,hj with
  | 0,hj=>cases hj
  | j+1,hj=>simp [zn] at hj
 ·rcases hb with hb|rfl
  ·exact .inl hb
  ·exact .inr ⟨zY0m _,by simp⟩
end
noncomputable def z5k:z9:=spD (fun x:List UInt8=>x.length≤1000000∧(∀ b ∈ x,b.toNat<128)∧(Go.Lib.fields x).length≤1000000∧∀ y ∈ Go.Lib.fields x,y.length≤1000000) fun x=>Go.Lib.fields x
theorem zlu (x:List UInt8) (h:x.length≤1000000∧(∀ b ∈ x,b.toNat<128)∧(Go.Lib.fields x).length≤1000000∧∀ y ∈ Go.Lib.fields x,y.length≤1000000):z5k [.s x]=some [.l 1 ((Go.Lib.fields x).map z0g)] :=
 zg (p:=fun x:List UInt8=>x.length≤1000000∧(∀ b ∈ x,b.toNat<128)∧(Go.Lib.fields x).length≤1000000∧∀ y ∈ Go.Lib.fields x,y.length≤1000000) (f:=fun x:List UInt8=>Go.Lib.fields x) x h
theorem z06j:Meets Tryz.prog z5k 131 ⟨[.one],[(false,[.pure])],false⟩ :=
 z6y rfl (z23 (fn:=Tryz.f131) (by kernel_rfl) (by kernel_rfl) (by kernel_rfl)) fun s ⟨hs,ha,hn,hy⟩ W F us hF h=>by
  obtain ⟨v,us,rfl,h1,h⟩:=z1f h;obtain rfl:=z2a h;obtain ⟨rfl,-⟩:=zbz h1;refine (Any.strings_Fields_laid Tryz.lays157 ⟨s.toArray⟩ W (by rw [z0os];omega) (fun j b hb=>ha b (zY0f hb)) hF.2.2.2.2).mono ?_;rintro e w' ⟨rfl,rfl⟩;refine ⟨_,rfl,(Below.refl _ _).alloc (zY0m _) _,?_⟩;have e:Go.Lib.fields (⟨s.toArray⟩:ByteArray).data.toList=Go.Lib.fields s:=rfl;rw [e];exact z0iq (fun x hx=>by have:=hy x hx;omega) (by omega)
def zck (s:List UInt8):Int × GoErr:=match atoiAll s with
 | .ok v=>(v,⟨false⟩)
 | .range=>(atoiSat s,⟨true⟩)
 | _=>(0,⟨true⟩)
end
section
open Go.RowKit Go.Shelf
open Go.Lib (itoa atoiAll atoiSat)
set_option maxRecDepth 100000
end
section
open Go.RowKit
theorem zrd:∀ {l:List Out},z0v l=0→∀ o ∈ l,z3h o=0
 | [],_,o,ho=>by cases ho
 | x::l,h,o,ho=>by
  rw [z0v] at h
  split at h
  ·rename_i hb;exact absurd h hb
  ·rename_i hb
   rcases zY0i.1 ho with rfl|ho
   ·exact zY0s.1 hb
   ·exact zrd h o ho
theorem z0f4 {o:Out} (h:z3h o=0):1≤o.coin∧z7 o.lock=0:=by
 unfold z3h at h
 split at h
 ·cases h
 ·exact ⟨by omega,h⟩
theorem zy8:∀ (l:List Int) (s:Int),(za9 l s).2=0→∀ x ∈ l,0≤x∧x≤1000000000
 | [],_,_,x,hx=>by cases hx
 | y::l,s,h,x,hx=>by
  unfold za9 at h
  by_cases hb:0≤y∧y≤1000000000
  ·rw [if_pos hb] at h
   by_cases hf:1000000000<s+y
   ·rw [if_pos hf] at h;cases h
   ·rw [if_neg hf] at h
    rcases zY0i.1 hx with rfl|hx
    ·exact hb
    ·exact zy8 l _ h x hx
  ·rw [if_neg hb] at h;cases h
structure TxOK (t:Tx):Prop where
 ins:t.ins.length≤6
 outs:t.outs.length≤6
 some:0<t.outs.length
 head:z1q t=0
 insOk:z13 t.ins []=0
 good:∀ o ∈ t.outs,1≤o.coin∧o.coin≤1000000000∧z7 o.lock=0
theorem z7j {t:Tx} (h:zf t=0):TxOK t:=by
 unfold zf at h
 split at h
 ·rename_i hb;exact absurd h hb
 rename_i h1
 split at h
 ·rename_i hb;exact absurd h hb
 rename_i h2
 split at h
 ·rename_i hb;exact absurd h hb
 rename_i h3;have h1:z1q t=0:=zY0s.1 h1;have h3:z0v t.outs=0:=zY0s.1 h3;have h1':=h1;unfold z1q at h1'
 split at h1'
 ·cases h1'
 split at h1'
 ·cases h1'
 refine ⟨by omega,by omega,by omega,h1,zY0s.1 h2,fun o ho=>?_⟩;have a:=z0f4 (zrd h3 o ho);have b:=zy8 _ _ h o.coin (zY2q.2 ⟨o,ho,rfl⟩);exact ⟨a.1,b.2,a.2⟩
theorem zy9 {x:In} (h:z2k x=0):1≤x.p.tx∧x.p.tx≤120∧0≤x.p.at_∧x.p.at_<6∧z7 x.key=0:=by
 unfold z2k at h
 split at h
 ·cases h
 ·exact ⟨by omega,by omega,by omega,by omega,h⟩
theorem zk3:∀ {l seen:List In},z13 l seen=0→∀ x ∈ l,z2k x=0
 | [],_,_,_,h=>by cases h
 | y::l,seen,h,x,hx=>by
  rw [z13] at h
  split at h
  ·rename_i hb;exact absurd h hb
  ·rename_i hb
   split at h
   ·cases h
   ·rcases zY0i.1 hx with rfl|hx
    ·exact zY0s.1 hb
    ·exact zk3 h x hx
structure BlkOK (b:Block):Prop where
 range:¬ z4f b
 len:b.txs.length≤4
 some:0<b.txs.length
 go:z45 b.height b.txs 0=0
 each:∀ t ∈ b.txs,zf t=0
end
section
open Go.Lib (itoa)
def z3i (x:In):List UInt8:=[105,110,32]++itoa x.p.tx++[32]++itoa x.p.at_++[58]++(z3b x.key).1++[10]
def z2l (x:Out):List UInt8:=[111,117,116,32]++itoa x.coin++[58]++(z3b x.lock).1++[10]
def z4c (t:Tx):List UInt8:=[116,120,32]++itoa t.height++[10]
def z0d (t:Tx):List UInt8:=z4c t++t.ins.flatMap z3i++t.outs.flatMap z2l
def z0a (t:Tx):List UInt8 × Int:=if zf t≠0 then ([],zf t) else (z0d t,0)
theorem zbn (l:List Op):(z3b l).1.length≤144:=by
 unfold z3b
 by_cases h:z7 l=0
 ·rw [if_neg (fun k=>k h)];exact za8 h
 ·rw [if_pos h];simp
def z0ir (b:Block):List UInt8:=[98,108,111,99,107,32]++itoa b.parent++[32]++itoa b.height++[32]++itoa b.work++[32]++itoa b.nonce++[10]
def z8l (b:Block):List UInt8:=z0ir b++b.txs.flatMap z0d
def z9t (b:Block):List UInt8 × Int:=if zq b≠0 then ([],zq b) else (z8l b,0)
theorem zfg {α:Type} (f:α→List UInt8) (m:Nat):∀ l:List α,(∀ x ∈ l,(f x).length≤m)→(l.flatMap f).length≤m * l.length
 | [],_=>by simp
 | x::r,h=>by
  have h1:=h x (by simp);have h2:=zfg f m r fun y hy=>h y (zY0d _ hy)
  simp only [zY1u,zY06,zY0g,Nat.mul_add,Nat.mul_one];omega
theorem z8m {n:Int} (h0 : -1000000000≤n) (h1:n≤1000000000):(itoa n).length≤20:=by
 by_cases hn:n<0
 ·rw [zjy hn,zY0g]
  have:=z4r 18 n.natAbs (by omega);omega
 ·rw [zjz hn]
  have:=z4r 18 n.toNat (by omega);omega
theorem zre {x:In} (h:z2k x=0):(z3i x).length≤200:=by
 obtain ⟨h1,h2,h3,h4,h5⟩:=zy9 h;have:=z8m (n:=x.p.tx) (by omega) (by omega);have:=z8m (n:=x.p.at_) (by omega) (by omega);have:=zbn x.key;simp [z3i];omega
theorem zlv {x:Out} (h1:1≤x.coin) (h2:x.coin≤1000000000):(z2l x).length≤200:=by
 have:=z8m (n:=x.coin) (by omega) (by omega);have:=zbn x.lock;simp [z2l];omega
theorem zg0 {t:Tx} (h:z1q t=0):0≤t.height∧t.height≤1000:=by
 unfold z1q at h
 split at h
 ·cases h
 split at h
 ·cases h
 split at h
 ·cases h
 omega
theorem z0f5 {t:Tx} (h:zf t=0):(z0d t).length≤2500:=by
 have ok:=z7j h;have h0:=zg0 ok.head;have h1:=z8m (n:=t.height) (by omega) (by omega);have h2:=zfg z3i 200 t.ins fun x hx=>zre (zk3 ok.insOk x hx)
 have h3:=zfg z2l 200 t.outs fun x hx=>zlv (ok.good x hx).1 (ok.good x hx).2.1
 have h4:=ok.ins;have h5:=ok.outs;simp only [z0d,z4c,zY06,zY0g,zY13];omega
theorem z0bj (t:Tx):(z0a t).1.length≤2500:=by
 unfold z0a
 by_cases h:zf t=0
 ·rw [if_neg (fun k=>k h)];exact z0f5 h
 ·rw [if_pos h];simp
theorem zfh {t:Tx} (h:zf t=0):z0a t=(z0d t,0):=by
 unfold z0a;rw [if_neg (fun k=>k h)]
end
section
open Go.Lib (itoa atoiAll)
open Go.RowKit
def z0f6:List (List UInt8)→Option (List Int)
 | []=>some []
 | w::r=>match znx w with
  | none=>none
  | some n=>(z0f6 r).map fun l=>n::l
def tIn:List UInt8:=[105,110]
def tOut:List UInt8:=[111,117,116]
def tTx:List UInt8:=[116,120,32]
def z0m1 (o:List Out) (i:List In) (x:List UInt8) (n:List Int):Option (List Out × List In) :=
 if (zll (Go.Lib.cut x [58]).2.1).2≠0 then none else if Go.Lib.contains x [58]=false then none else
 if (z6g 32 (Go.Lib.cut x [58]).1).headD []=tIn∧n.length=2∧o.length=0 then some (o,i++[⟨⟨n.getD 0 0,n.getD 1 0⟩,(zll (Go.Lib.cut x [58]).2.1).1⟩]) else
 if (z6g 32 (Go.Lib.cut x [58]).1).headD []=tOut∧n.length=1 then some (o++[⟨n.getD 0 0,(zll (Go.Lib.cut x [58]).2.1).1⟩],i) else none
def z0is (o:List Out) (i:List In) (x:List UInt8):Option (List Out × List In):=match z0f6 ((z6g 32 (Go.Lib.cut x [58]).1).drop 1) with
 | none=>none
 | some n=>z0m1 o i x n
def zTx:Tx:=⟨0,[],[]⟩
def z0a7 (n:Int) (o:List Out) (i:List In):List (List UInt8)→Tx × Int
 | []=>if zf ⟨n,i,o⟩≠0 then (zTx,zf ⟨n,i,o⟩) else (⟨n,i,o⟩,0)
 | x::r=>match z0is o i x with
  | none=>(zTx,1)
  | some p=>z0a7 n p.1 p.2 r
def z0f7 (s:List UInt8):Tx × Int:=if 4000<(s.length:Int) then (zTx,2) else
 if Go.Lib.hasSuffix s [10]=false then (zTx,1) else
 if Go.Lib.hasPrefix ((z6g 10 (Go.Lib.trimSuffix s [10])).headD []) tTx=false then (zTx,1) else
 match znx (Go.Lib.trimPrefix ((z6g 10 (Go.Lib.trimSuffix s [10])).headD []) tTx) with
 | none=>(zTx,1)
 | some n=>z0a7 n [] [] ((z6g 10 (Go.Lib.trimSuffix s [10])).drop 1)
end
section
open Go.Lib (itoa atoiAll)
open Go.RowKit
end
section
open Go.RowKit
def z3k (n:Int):Prop:=-1000000≤n∧n≤1000000
def z18 (b:Bool):Int:=if b=true then 1 else 0
def z15 (x:Int):Int:=(x * 7919+104729).tmod 1000003
def z91 (n:Int):Int:=(z15 (z15 (z15 (n+1000000)))).tmod 1000001
def z87 (s:List Int) (n:Int):Option (List Int):=if (s.length:Int)=16∨n < -1000000∨1000000<n then none else some (s++[n])
def z4o (s:List Int):Option (Int × List Int):=match s.getLast? with
 | none=>none
 | some a=>some (a,s.dropLast)
def z1k (s:List Int) (f:Int→Int):Option (List Int):=(z4o s).bind fun p=>z87 p.2 (f p.1)
def z1c (s:List Int) (f:Int→Int→Int):Option (List Int):=(z4o s).bind fun p=>(z4o p.2).bind fun q=>z87 q.2 (f q.1 p.1)
def z2s (h:Int) (s:List Int) (o:Op):Option (List Int) :=
 if o.kind=1 then z87 s o.n
 else if o.kind=2 then (z4o s).bind fun p=>(z87 p.2 p.1).bind fun s=>z87 s p.1
 else if o.kind=3 then (z4o s).bind fun p=>(z4o p.2).bind fun q=>(z87 q.2 p.1).bind fun s=>z87 s q.1
 else if o.kind=4 then (z4o s).bind fun p=>some p.2
 else if o.kind=5 then z1c s fun a b=>a+b
 else if o.kind=6 then z1c s fun a b=>a - b
 else if o.kind=7 then z1c s fun a b=>z18 (decide (a=b))
 else if o.kind=8 then z1c s fun a b=>z18 (decide (a<b))
 else if o.kind=10 then z1c s fun a b=>z18 (decide (a≠0) && decide (b≠0))
 else if o.kind=9 then z1k s fun a=>z18 (decide (a=0))
 else if o.kind=13 then z1k s z91
 else if o.kind=11 then (z4o s).bind fun p=>if p.1=0 then none else some p.2
 else if o.kind=12 then z87 s h
 else some s
def z2q (h:Int):List Int→List Op→Option (List Int)
 | s,[]=>some s
 | s,o::r=>match z2s h s o with
  | none=>none
  | some s'=>z2q h s' r
def z1g (s:List Int):Prop:=s.length≤16∧∀ x ∈ s,z3k x
instance (n:Int):Decidable (z3k n):=by unfold z3k;infer_instance
def z3y (l:List Op) (s:List Int) (h:Int):List Int × Int :=
 if z7 l≠0 then ([],z7 l)
 else if h<0∨1000<h∨16<(s.length:Int) then ([],3)
 else if ∀ x ∈ s,z3k x then (match z2q h s l with|none=>([],8)|some s'=>(s',0)) else ([],3)
theorem zda {s:List Int} (h:s.length=0):z4o s=none:=by
 rw [zY07 h];rfl
theorem zdb {s:List Int} (h:s.length≠0):∃ a t,z4o s=some (a,t)∧s=t++[a]∧(s.length:Int)=t.length+1∧s[((s.length:Int) - 1).toNat]? = some a∧s.take ((s.length:Int) - 1).toNat=t:=by
 rcases List.eq_nil_or_concat s with rfl|⟨t,a,rfl⟩
 ·exact absurd rfl h
 ·refine ⟨a,t,by simp [z4o],by simp,by simp,?_,?_⟩
  ·rw [show (((t.concat a).length:Int) - 1).toNat=t.length by simp];simp
  ·rw [show (((t.concat a).length:Int) - 1).toNat=t.length by simp];simp
theorem z29 {s:List Int} {n:Int} (h:(s.length:Int)=16∨n < -1000000∨1000000<n):z87 s n=none:=if_pos h
theorem z0b {s:List Int} {n:Int} (h1:¬ (s.length:Int)=16) (h2:¬ n < -1000000) (h3:¬ 1000000<n):z87 s n=some (s++[n]):=if_neg (by omega)
theorem z6z {s s':List Int} {n:Int} (hs:z1g s) (h:z87 s n=some s'):z1g s':=by
 unfold z87 at h
 split at h
 ·cases h
 ·rename_i hc
  cases h
  obtain ⟨h1,h2⟩:=hs;refine ⟨by simp;omega,fun x hx=>?_⟩;rcases zY0z.1 hx with hx|hx
  ·exact h2 x hx
  ·simp only [zY19] at hx;subst hx;exact ⟨by omega,by omega⟩
theorem z4s {s t:List Int} {a:Int} (hs:z1g s) (h:z4o s=some (a,t)):z3k a∧z1g t:=by
 rcases List.eq_nil_or_concat s with rfl|⟨u,b,rfl⟩
 ·cases h
 ·have:z4o (u.concat b)=some (b,u):=by simp [z4o]
  rw [this] at h
  cases h
  obtain ⟨h1,h2⟩:=hs;exact ⟨h2 _ (by simp),by simp at h1;omega,fun x hx=>h2 x (by simp [hx])⟩
theorem z6b {α:Type} {x:Option α} {f:α→Option (List Int)} {s':List Int} (h:x.bind f=some s'):∃ y,x=some y∧f y=some s':=zY01.1 h
theorem ze9 {s s':List Int} {f:Int→Int→Int} (hs:z1g s) (h:z1c s f=some s'):z1g s':=by
 obtain ⟨⟨a,t⟩,h1,h⟩:=z6b h;obtain ⟨⟨b,u⟩,h2,h⟩:=z6b h;exact z6z (z4s (z4s hs h1).2 h2).2 h
theorem z0a8 {s s':List Int} {f:Int→Int} (hs:z1g s) (h:z1k s f=some s'):z1g s':=by
 obtain ⟨⟨a,t⟩,h1,h⟩:=z6b h;exact z6z (z4s hs h1).2 h
theorem zfi {h:Int} {s s':List Int} {o:Op} (hs:z1g s) (he:z2s h s o=some s'):z1g s':=by
 unfold z2s at he
 by_cases k1:o.kind=1
 ·rw [if_pos k1] at he
  exact z6z hs he
 rw [if_neg k1] at he
 by_cases k2:o.kind=2
 ·rw [if_pos k2] at he
  obtain ⟨⟨a,t⟩,h1,he⟩:=z6b he;obtain ⟨u,h2,he⟩:=z6b he;exact z6z (z6z (z4s hs h1).2 h2) he
 rw [if_neg k2] at he
 by_cases k3:o.kind=3
 ·rw [if_pos k3] at he
  obtain ⟨⟨a,t⟩,h1,he⟩:=z6b he;obtain ⟨⟨b,u⟩,h2,he⟩:=z6b he;obtain ⟨v,h3,he⟩:=z6b he;exact z6z (z6z (z4s (z4s hs h1).2 h2).2 h3) he
 rw [if_neg k3] at he
 by_cases k4:o.kind=4
 ·rw [if_pos k4] at he
  obtain ⟨⟨a,t⟩,h1,he⟩:=z6b he
  cases he
  exact (z4s hs h1).2
 rw [if_neg k4] at he
 by_cases k5:o.kind=5
 ·rw [if_pos k5] at he
  exact ze9 hs he
 rw [if_neg k5] at he
 by_cases k6:o.kind=6
 ·rw [if_pos k6] at he
  exact ze9 hs he
 rw [if_neg k6] at he
 by_cases k7:o.kind=7
 ·rw [if_pos k7] at he
  exact ze9 hs he
 rw [if_neg k7] at he
 by_cases k8:o.kind=8
 ·rw [if_pos k8] at he
  exact ze9 hs he
 rw [if_neg k8] at he
 by_cases k10:o.kind=10
 ·rw [if_pos k10] at he
  exact ze9 hs he
 rw [if_neg k10] at he
 by_cases k9:o.kind=9
 ·rw [if_pos k9] at he
  exact z0a8 hs he
 rw [if_neg k9] at he
 by_cases k13:o.kind=13
 ·rw [if_pos k13] at he
  exact z0a8 hs he
 rw [if_neg k13] at he
 by_cases k11:o.kind=11
 ·rw [if_pos k11] at he
  obtain ⟨⟨a,t⟩,h1,he⟩:=z6b he
  by_cases ha:a=0
  ·have he:(if a=0 then none else some t)=some s':=he
   rw [if_pos ha] at he;cases he
  ·have he:(if a=0 then none else some t)=some s':=he
   rw [if_neg ha] at he;cases he;exact (z4s hs h1).2
 rw [if_neg k11] at he
 by_cases k12:o.kind=12
 ·rw [if_pos k12] at he
  exact z6z hs he
 rw [if_neg k12] at he
 cases he;exact hs
def zea (r:List Int × Int):Bool × Int:=if r.2=3 then (false,r.2) else if r.2=0 then (if (r.1.length:Int)=1 then (decide (r.1.headD 0≠0),0) else (false,0)) else (false,0)
def z1z (l k:List Op) (h:Int):Bool × Int :=
 if z7 l≠0 then (false,z7 l) else if z7 k≠0 then (false,z7 k) else
  if (z3y k [] h).2=0 then zea (z3y l (z3y k [] h).1 h) else zea (z3y k [] h)
end
section
open Go.RowKit
set_option maxRecDepth 100000
set_option maxHeartbeats 4000000
attribute [local irreducible] z00 spD z1e
noncomputable def z3n:z9:=spD (fun _:Bool=>True) fun b=>z18 b
noncomputable def z92:z9:=spD z3k z91
noncomputable def zeb:z9:=spD (fun x:Int × Int=>z3k x.1∧z3k x.2) fun x=>x.1+x.2
noncomputable def zec:z9:=spD (fun x:Int × Int=>z3k x.1∧z3k x.2) fun x=>x.1 - x.2
noncomputable def zcl:z9:=spD (fun _:Int × Int=>True) fun x=>z18 (decide (x.1=x.2))
noncomputable def zcm:z9:=spD (fun _:Int × Int=>True) fun x=>z18 (decide (x.1<x.2))
noncomputable def zed:z9:=spD (fun _:Int × Int=>True) fun x=>z18 (decide (x.1≠0) && decide (x.2≠0))
noncomputable def zee:z9:=spD (fun _:Int=>True) fun x=>z18 (decide (x=0))
theorem z65 (b:Bool):z3n [.b b]=some [I (z18 b)]:=zg (f:=fun b=>z18 b) b trivial
theorem zg1 (n:Int) (h:z3k n):z92 [I n]=some [I (z91 n)]:=zg (f:=z91) n h
theorem z0bk (a b:Int) (h:z3k a∧z3k b):zeb [I a,I b]=some [I (a+b)]:=zg (p:=fun x:Int × Int=>z3k x.1∧z3k x.2) (f:=fun x:Int × Int=>x.1+x.2) (a,b) h
theorem z0bl (a b:Int) (h:z3k a∧z3k b):zec [I a,I b]=some [I (a - b)]:=zg (p:=fun x:Int × Int=>z3k x.1∧z3k x.2) (f:=fun x:Int × Int=>x.1 - x.2) (a,b) h
theorem z06k (a b:Int):zcl [I a,I b]=some [I (z18 (decide (a=b)))]:=zg (f:=fun x:Int × Int=>z18 (decide (x.1=x.2))) (a,b) trivial
theorem z06l (a b:Int):zcm [I a,I b]=some [I (z18 (decide (a<b)))]:=zg (f:=fun x:Int × Int=>z18 (decide (x.1<x.2))) (a,b) trivial
theorem z0bm (a b:Int):zed [I a,I b]=some [I (z18 (decide (a≠0) && decide (b≠0)))]:=zg (f:=fun x:Int × Int=>z18 (decide (x.1≠0) && decide (x.2≠0))) (a,b) trivial
theorem zlw (a:Int):zee [I a]=some [I (z18 (decide (a=0)))]:=zg (f:=fun x:Int=>z18 (decide (x=0))) a trivial
def zya:T :=
 .lets [.bin .add 0 1] [] (.ret [2])
def zyb:T :=
 .lets [.bin .sub 0 1] [] (.ret [2])
def zo7:T :=
 .lets [.bin .eql 0 1] [] (.lets [.call 36 [2] 0] [] (.ret [3]))
def zo8:T :=
 .lets [.bin .lss 0 1] [] (.lets [.call 36 [2] 0] [] (.ret [3]))
def zyc:T :=
 .lets [.bin .neq 0 (zI 0)] [] (.ite 2 (.lets [.bin .neq 1 (zI 0)] [] (.lets [.call 36 [3] 0] [] (.ret [4]))) (.lets [.call 36 [.c (.b
 false)] 0] [] (.ret [3])))
def zyd:T :=
 .lets [.bin .eql 0 (zI 0)] [] (.lets [.call 36 [1] 0] [] (.ret [2]))
def zh5:T :=
 .ite 0 (.ret [zI 1]) (.ret [zI 0])
def z06m:T :=
 .lets [.bin .add 5 (zI 104729)] [] (.lets [.bin .rem 6 (zI 1000003)] [] (.lets [.bin .add 3 (zI 1)] [] (.again 0 [7,8])))
def z06n:T :=
 .lets [.bin .lss 3 (zI 3)] [] (.ite 4 (.lets [.bin .mul 2 (zI 7919)] [] z06m) (.lets [.bin .rem 2 (zI 1000001)] [] (.ret [.v
 5])))
def zao:T :=
 .lets [.bin .add 0 (zI 1000000)] [] (.loop [1,zI 0] z06n)
theorem zdc:Meets Tryz.prog z3n 213 ⟨[.one],[(false,[.scal])],true⟩:=by
 refine zj (sp:=(z07 [])) (sigs:=z0i) (cut:=[]) (hints:=[]) (fn:=Tryz.f213) (t:=zh5) (by kernel_rfl) (by kernel_rfl) (by kernel_rfl) ?_ ?_
 ·exact (z01 (L:=[]) trivial)
 ·rintro ds rs - h
  obtain ⟨b,-,rfl,rfl⟩:=zi h;clear h;refine ⟨⟨1,?_⟩,zy rfl⟩
  show den _ _ zh5 [.b b] []=ret (z18 b)
  unfold zh5 z18
  repeat' (first|exact z5 rfl rfl|refine tB (fun h=>?_) fun h=>?_|fail)
theorem z0ot:Meets Tryz.prog zeb 210 ⟨[.one,.one],[(false,[.scal])],true⟩:=by
 refine zj (sp:=(z07 [])) (sigs:=z0i) (cut:=[]) (hints:=[]) (fn:=Tryz.f210) (t:=zya) (by kernel_rfl) (by kernel_rfl) (by kernel_rfl) ?_ ?_
 ·exact (z01 (L:=[]) trivial)
 ·rintro ds rs - h
  obtain ⟨⟨a,b⟩,⟨⟨h1,h2⟩,h3,h4⟩,rfl,rfl⟩:=zi h;clear h;simp only at h1 h2 h3 h4;refine ⟨⟨1,?_⟩,zy rfl⟩
  show den _ _ zya [I a,I b] []=ret (a+b)
  unfold zya
  repeat' (first|refine dq1 ?_|exact z5 rfl rfl|fail)
theorem z0ou:Meets Tryz.prog zec 211 ⟨[.one,.one],[(false,[.scal])],true⟩:=by
 refine zj (sp:=(z07 [])) (sigs:=z0i) (cut:=[]) (hints:=[]) (fn:=Tryz.f211) (t:=zyb) (by kernel_rfl) (by kernel_rfl) (by kernel_rfl) ?_ ?_
 ·exact (z01 (L:=[]) trivial)
 ·rintro ds rs - h
  obtain ⟨⟨a,b⟩,⟨⟨h1,h2⟩,h3,h4⟩,rfl,rfl⟩:=zi h;clear h;simp only at h1 h2 h3 h4;refine ⟨⟨1,?_⟩,zy rfl⟩
  show den _ _ zyb [I a,I b] []=ret (a - b)
  unfold zyb
  repeat' (first|refine dq1 ?_|exact z5 rfl rfl|fail)
theorem z0m2:Meets Tryz.prog zcl 212 ⟨[.one,.one],[(false,[.scal])],true⟩:=by
 refine zj (sp:=(z07 [(36,z3n)])) (sigs:=z0i) (cut:=[]) (hints:=[]) (fn:=Tryz.f212) (t:=zo7) (by kernel_rfl) (by kernel_rfl) (by kernel_rfl) ?_ ?_
 ·exact (z01 (L:=[(36,z3n)]) ⟨za rfl zdc,trivial⟩)
 ·rintro ds rs - h
  obtain ⟨⟨a,b⟩,-,rfl,rfl⟩:=zi h;clear h;refine ⟨⟨1,?_⟩,zy rfl⟩
  show den _ _ zo7 [I a,I b] []=ret (z18 (decide (a=b)))
  unfold zo7
  repeat' (first|refine dq1 ?_|refine dqk rfl (z65 _) ?_|exact z5 rfl rfl|fail)
theorem z0m3:Meets Tryz.prog zcm 214 ⟨[.one,.one],[(false,[.scal])],true⟩:=by
 refine zj (sp:=(z07 [(36,z3n)])) (sigs:=z0i) (cut:=[]) (hints:=[]) (fn:=Tryz.f214) (t:=zo8) (by kernel_rfl) (by kernel_rfl) (by kernel_rfl) ?_ ?_
 ·exact (z01 (L:=[(36,z3n)]) ⟨za rfl zdc,trivial⟩)
 ·rintro ds rs - h
  obtain ⟨⟨a,b⟩,-,rfl,rfl⟩:=zi h;clear h;refine ⟨⟨1,?_⟩,zy rfl⟩
  show den _ _ zo8 [I a,I b] []=ret (z18 (decide (a<b)))
  unfold zo8
  repeat' (first|refine dq1 ?_|refine dqk rfl (z65 _) ?_|exact z5 rfl rfl|fail)
theorem z0ov:Meets Tryz.prog zee 216 ⟨[.one],[(false,[.scal])],true⟩:=by
 refine zj (sp:=(z07 [(36,z3n)])) (sigs:=z0i) (cut:=[]) (hints:=[]) (fn:=Tryz.f216) (t:=zyd) (by kernel_rfl) (by kernel_rfl) (by kernel_rfl) ?_ ?_
 ·exact (z01 (L:=[(36,z3n)]) ⟨za rfl zdc,trivial⟩)
 ·rintro ds rs - h
  obtain ⟨a,-,rfl,rfl⟩:=zi h;clear h;refine ⟨⟨1,?_⟩,zy rfl⟩
  show den _ _ zyd [I a] []=ret (z18 (decide (a=0)))
  unfold zyd
  repeat' (first|refine dq1 ?_|refine dqk rfl (z65 _) ?_|exact z5 rfl rfl|fail)
theorem z0ow:Meets Tryz.prog zed 215 ⟨[.one,.one],[(false,[.scal])],true⟩:=by
 refine zj (sp:=(z07 [(36,z3n)])) (sigs:=z0i) (cut:=[]) (hints:=[]) (fn:=Tryz.f215) (t:=zyc) (by kernel_rfl) (by kernel_rfl) (by kernel_rfl) ?_ ?_
 ·exact (z01 (L:=[(36,z3n)]) ⟨za rfl zdc,trivial⟩)
 ·rintro ds rs - h
  obtain ⟨⟨a,b⟩,-,rfl,rfl⟩:=zi h;clear h;refine ⟨⟨1,?_⟩,zy rfl⟩
  show den _ _ zyc [I a,I b] []=ret (z18 (decide (a≠0) && decide (b≠0)))
  unfold zyc
  repeat' (first|refine dq1 ?_|fail)
  refine z36 rfl (fun h=>?_) (fun h=>?_)
  ·rw [decide_eq_true h,zY2y]
   repeat' (first|refine dq1 ?_|refine dqk rfl (z65 _) ?_|exact z5 rfl rfl|fail)
  ·rw [decide_eq_false h,zY3l]
   repeat' (first|refine dqk rfl (z65 _) ?_|exact z5 rfl rfl|fail)
theorem zfj {x:Int} (h0:0≤x):0≤z15 x∧z15 x<1000003:=by
 unfold z15;exact ⟨zY3p _ (by omega),Int.tmod_lt_of_pos _ (by omega)⟩
theorem z0f8:Meets Tryz.prog z92 217 ⟨[.one],[(false,[.scal])],true⟩:=by
 refine zj (sp:=(z07 [])) (sigs:=z0i) (cut:=[]) (hints:=[⟨3,[.t 0,.t 5]⟩]) (fn:=Tryz.f217) (t:=zao) (by kernel_rfl) (by kernel_rfl) (by kernel_rfl) ?_ ?_
 ·exact (z01 (L:=[]) trivial)
 ·rintro ds rs - h
  obtain ⟨n,⟨h1,h2⟩,rfl,rfl⟩:=zi h;clear h;refine ⟨⟨5,?_⟩,zy rfl⟩
  show den _ _ zao [I n] []=ret (z91 n)
  have b1:=zfj (x:=n+1000000) (by omega);have b2:=zfj b1.1;have b3:=zfj b2.1;unfold zao
  repeat' (first|refine dq1 ?_|fail)
  refine zgv (fun (s:Nat × Int)=>[I s.2,I s.1]) (fun s=>(s=(0,n+1000000)∨s=(1,z15 (n+1000000))∨s=(2,z15 (z15 (n+1000000)))∨s=(3,z15 (z15 (z15 (n+1000000)))))) (fun s=>3 - s.1) (0,n+1000000) rfl (.inl rfl) (by omega) ?_;have go:∀ (again:List Dt→Option (List Dt)) (i:Int) (x:Int) (nx:Int),0≤x→x≤3000000→nx=z15 x→i<3→0≤i→again [I nx,I (i+1)]=ret (z91 n)→den (fun ci=>([]:List z9).getD ci fun _=>none) 5 (match zao with | .lets _ _ (.loop _ b)=>b|_=>.ret []) [I n,I (n+1000000),I x,I i] [again]=ret (z91 n):=by
   intro again i x nx hx0 hx1 hnx hi hi0 hag;subst hnx;unfold z15 at hag
   show den _ _ _ _ _=_
   simp only [zao]
   repeat' (first|refine dq1 ?_|refine dqT ?_|refine z4 (ze6 rfl rfl (by omega)) ?_|refine z4 (znt rfl rfl (by decide)) ?_|exact z6 rfl rfl hag|fail)
  rintro s hs again hag;rcases hs with rfl|rfl|rfl|rfl
  ·exact go again 0 _ _ (by omega) (by omega) rfl (by omega) (by omega) (hag (1,z15 (n+1000000)) (.inr (.inl rfl)) (by simp))
  ·exact go again 1 _ _ (by omega) (by omega) rfl (by omega) (by omega) (hag (2,z15 (z15 (n+1000000))) (.inr (.inr (.inl rfl))) (by simp))
  ·exact go again 2 _ _ (by omega) (by omega) rfl (by omega) (by omega) (hag (3,z15 (z15 (z15 (n+1000000)))) (.inr (.inr (.inr rfl))) (by simp))
  ·unfold z91
   repeat' (first|refine dq1 ?_|refine dqF ?_|refine z4 (znt rfl rfl (by decide)) ?_|exact z5 rfl rfl|fail)
end
section
open Go.RowKit
set_option maxRecDepth 100000
set_option maxHeartbeats 8000000
attribute [local irreducible] z00 spD z1e z91 z18
attribute [local irreducible] den denX z0f z0k
noncomputable def z93:z9:=spD (fun x:List Op × List Int × Int=>True) fun x=>z3y x.1 x.2.1 x.2.2
theorem zo9 (l:List Op) (s:List Int) (h:Int):z93 [.l 2 (l.map eOp),.l 1 (s.map z19),I h]=some [.l 1 ((z3y l s h).1.map z19),I (z3y l s h).2]:=zg (f:=fun x:List Op × List Int × Int=>z3y x.1 x.2.1 x.2.2) (l,s,h) trivial
theorem zg2 (l:List Op) (s:List Int) (h:Int) (hs:s.length≤1000000):z93 [.l 2 (l.map eOp),.l 1 (s.map z19),I h]=some [.l 1 ((z3y l s h).1.map z19),I (z3y l s h).2]:=zo9 l s h
def z06o:T :=
 .lets [.bin .gtr 16 (zI 1000000)] [] (.ite 18 (.ret [.c (.nil 1),zI 3]) (.lets [.bin .add 14 (zI 1)] [] (.again 0 [12,13,.v
 19])))
def z06p:T :=
 .lets [] [.inr 1 1 14] (.lets [.idx 1 14 0] [] (.lets [.bin .lss 16 (.c (.i .i64 (-1000000)))] [] (.ite 17 (.ret [.c (.nil 1),zI 3])
 z06o)))
def z06q:T :=
 .ite 28 (.ret [.c (.nil 1),zI 8]) (.lets [.mk 1 [[23]]] [] (.lets [.app 1 17 29] [] (.lets [.bin .add 20 (zI 1)] [] (.again 1 [30,.v
 18,19,31]))))
def z06r:T :=
 .lets [.bin .lss 23 (.c (.i .i64 (-1000000)))] [] (.ite 27 (.ret [.c (.nil 1),zI 8]) (.lets [.bin .gtr 23 (zI 1000000)] [] z06q))
def z06s:T :=
 .lets [.bin .gtr 30 (zI 1000000)] [] (.ite 39 (.ret [.c (.nil 1),zI 8]) (.lets [.mk 1 [[30]]] [] (.lets [.app 1 33 40] [] (.ret [.c (.nil
 1),zI 8]))))
def z06t:T :=
 .ite 37 (.ret [.c (.nil 1),zI 8]) (.lets [.bin .lss 30 (.c (.i .i64 (-1000000)))] [] (.ite 38 (.ret [.c (.nil 1),zI 8]) z06s))
def z06u:T :=
 .lets [.bin .gtr 30 (zI 1000000)] [] (.ite 40 (.ret [.c (.nil 1),zI 8]) (.lets [.mk 1 [[30]]] [] (.lets [.app 1 33 41] [] (.ret [.c (.nil
 1),zI 8]))))
def z06v:T :=
 .ite 38 (.ret [.c (.nil 1),zI 8]) (.lets [.bin .lss 30 (.c (.i .i64 (-1000000)))] [] (.ite 39 (.ret [.c (.nil 1),zI 8]) z06u))
def z06w:T :=
 .lets [.bin .gtr 30 (zI 1000000)] [] (.ite 41 (.ret [.c (.nil 1),zI 8]) (.lets [.mk 1 [[30]]] [] (.lets [.app 1 33 42] [] (.ret [.c (.nil
 1),zI 8]))))
def z06x:T :=
 .ite 39 (.ret [.c (.nil 1),zI 8]) (.lets [.bin .lss 30 (.c (.i .i64 (-1000000)))] [] (.ite 40 (.ret [.c (.nil 1),zI 8]) z06w))
def zye:T :=
 .ite 43 (.ret [.c (.nil 1),zI 8]) (.lets [.mk 1 [[30]]] [] (.lets [.app 1 39 44] [] (.lets [.bin .add 20 (zI 1)] [] (.again 1 [45,.v
 18,19,46]))))
def zyf:T :=
 .lets [.bin .lss 30 (.c (.i .i64 (-1000000)))] [] (.ite 42 (.ret [.c (.nil 1),zI 8]) (.lets [.bin .gtr 30 (zI 1000000)] [] zye))
def zyg:T :=
 .lets [.app 1 33 38] [] (.lets [.len 39] [] (.lets [.bin .eql 40 (zI 16)] [] (.ite 41 (.ret [.c (.nil 1),zI 8]) zyf)))
def zyh:T :=
 .lets [.bin .gtr 30 (zI 1000000)] [] (.ite 37 (.lets [.len 33] [] (.lets [.bin .eql 38 (zI 16)] [] z06x)) (.lets [.mk 1 [[30]]] []
 zyg))
def zyi:T :=
 .lets [.bin .lss 30 (.c (.i .i64 (-1000000)))] [] (.ite 36 (.lets [.len 33] [] (.lets [.bin .eql 37 (zI 16)] [] z06v)) zyh)
def zyj:T :=
 .lets [.bin .eql 34 (zI 16)] [] (.ite 35 (.lets [.len 33] [] (.lets [.bin .eql 36 (zI 16)] [] z06t)) zyi)
def zyk:T :=
 .lets [.idx 17 29 0] [] (.lets [.len 17] [] (.lets [.bin .sub 31 (zI 1)] [] (.lets [.sub 1 17 none (some 32)] [] (.lets [.len 33] []
 zyj))))
def zyl:T :=
 .ite 27 (.ret [.c (.nil 1),zI 8]) (.lets [.len 17] [] (.lets [.bin .sub 28 (zI 1)] [] (.lets [] [.inr 1 17 29] zyk)))
def zym:T :=
 .lets [.idx 17 32 0] [] (.lets [.len 17] [] (.lets [.bin .sub 34 (zI 1)] [] (.lets [.sub 1 17 none (some 35)] [] (.ret [.c (.nil 1),.c (.i
 .i64 8)]))))
def zyn:T :=
 .ite 30 (.ret [.c (.nil 1),zI 8]) (.lets [.len 17] [] (.lets [.bin .sub 31 (zI 1)] [] (.lets [] [.inr 1 17 32] zym)))
def zyo:T :=
 .lets [.bin .gtr 39 (zI 1000000)] [] (.ite 48 (.ret [.c (.nil 1),zI 8]) (.lets [.mk 1 [[39]]] [] (.lets [.app 1 42 49] [] (.ret [.c (.nil
 1),zI 8]))))
def zyp:T :=
 .ite 46 (.ret [.c (.nil 1),zI 8]) (.lets [.bin .lss 39 (.c (.i .i64 (-1000000)))] [] (.ite 47 (.ret [.c (.nil 1),zI 8]) zyo))
def zyq:T :=
 .lets [.bin .gtr 39 (zI 1000000)] [] (.ite 49 (.ret [.c (.nil 1),zI 8]) (.lets [.mk 1 [[39]]] [] (.lets [.app 1 42 50] [] (.ret [.c (.nil
 1),zI 8]))))
def zyr:T :=
 .ite 47 (.ret [.c (.nil 1),zI 8]) (.lets [.bin .lss 39 (.c (.i .i64 (-1000000)))] [] (.ite 48 (.ret [.c (.nil 1),zI 8]) zyq))
def zys:T :=
 .lets [.bin .gtr 39 (zI 1000000)] [] (.ite 50 (.ret [.c (.nil 1),zI 8]) (.lets [.mk 1 [[39]]] [] (.lets [.app 1 42 51] [] (.ret [.c (.nil
 1),zI 8]))))
def zyt:T :=
 .ite 48 (.ret [.c (.nil 1),zI 8]) (.lets [.bin .lss 39 (.c (.i .i64 (-1000000)))] [] (.ite 49 (.ret [.c (.nil 1),zI 8]) zys))
def zyu:T :=
 .ite 52 (.ret [.c (.nil 1),zI 8]) (.lets [.mk 1 [[39]]] [] (.lets [.app 1 48 53] [] (.lets [.bin .add 20 (zI 1)] [] (.again 1 [54,.v
 18,19,55]))))
def zyv:T :=
 .lets [.bin .lss 39 (.c (.i .i64 (-1000000)))] [] (.ite 51 (.ret [.c (.nil 1),zI 8]) (.lets [.bin .gtr 39 (zI 1000000)] [] zyu))
def zyw:T :=
 .lets [.app 1 42 47] [] (.lets [.len 48] [] (.lets [.bin .eql 49 (zI 16)] [] (.ite 50 (.ret [.c (.nil 1),zI 8]) zyv)))
def zyx:T :=
 .lets [.bin .gtr 31 (zI 1000000)] [] (.ite 46 (.lets [.len 42] [] (.lets [.bin .eql 47 (zI 16)] [] zyt)) (.lets [.mk 1 [[31]]] []
 zyw))
def zyy:T :=
 .lets [.bin .lss 31 (.c (.i .i64 (-1000000)))] [] (.ite 45 (.lets [.len 42] [] (.lets [.bin .eql 46 (zI 16)] [] zyr)) zyx)
def zyz:T :=
 .lets [.bin .eql 43 (zI 16)] [] (.ite 44 (.lets [.len 42] [] (.lets [.bin .eql 45 (zI 16)] [] zyp)) zyy)
def zz0:T :=
 .lets [.idx 34 38 0] [] (.lets [.len 34] [] (.lets [.bin .sub 40 (zI 1)] [] (.lets [.sub 1 34 none (some 41)] [] (.lets [.len 42] []
 zyz))))
def zz1:T :=
 .ite 36 (.ret [.c (.nil 1),zI 8]) (.lets [.len 34] [] (.lets [.bin .sub 37 (zI 1)] [] (.lets [] [.inr 1 34 38] zz0)))
def zz2:T :=
 .lets [.bin .sub 32 (zI 1)] [] (.lets [.sub 1 17 none (some 33)] [] (.lets [.len 34] [] (.lets [.bin .eql 35 (zI 0)] [] zz1)))
def zz3:T :=
 .lets [.len 17] [] (.lets [.bin .sub 29 (zI 1)] [] (.lets [] [.inr 1 17 30] (.lets [.idx 17 30 0] [] (.lets [.len 17] []
 zz2))))
def zz4:T :=
 .lets [.len 17] [] (.lets [.bin .eql 27 (zI 0)] [] (.ite 28 (.lets [.len 17] [] (.lets [.bin .eql 29 (zI 0)] [] zyn))
 zz3))
def zz5:T :=
 .lets [.bin .sub 33 (zI 1)] [] (.lets [.sub 1 17 none (some 34)] [] (.lets [.bin .add 20 (zI 1)] [] (.again 1 [35,18,19,36])))
def zz6:T :=
 .lets [.len 17] [] (.lets [.bin .sub 30 (zI 1)] [] (.lets [] [.inr 1 17 31] (.lets [.idx 17 31 0] [] (.lets [.len 17] []
 zz5))))
def zz7:T :=
 .lets [.idx 17 34 0] [] (.lets [.len 17] [] (.lets [.bin .sub 36 (zI 1)] [] (.lets [.sub 1 17 none (some 37)] [] (.ret [.c (.nil 1),.c (.i
 .i64 8)]))))
def zz8:T :=
 .ite 32 (.ret [.c (.nil 1),zI 8]) (.lets [.len 17] [] (.lets [.bin .sub 33 (zI 1)] [] (.lets [] [.inr 1 17 34] zz7)))
def zz9:T :=
 .ite 49 (.ret [.c (.nil 1),zI 8]) (.lets [.mk 1 [[45]]] [] (.lets [.app 1 44 50] [] (.lets [.bin .add 20 (zI 1)] [] (.again 1 [51,.v
 18,19,52]))))
def zza:T :=
 .lets [.bin .lss 45 (.c (.i .i64 (-1000000)))] [] (.ite 48 (.ret [.c (.nil 1),zI 8]) (.lets [.bin .gtr 45 (zI 1000000)] [] zz9))
def zzb:T :=
 .lets [.call 30 [41,33] 0] [] (.lets [.len 44] [] (.lets [.bin .eql 46 (zI 16)] [] (.ite 47 (.ret [.c (.nil 1),zI 8]) zza)))
def zzc:T :=
 .lets [.idx 36 40 0] [] (.lets [.len 36] [] (.lets [.bin .sub 42 (zI 1)] [] (.lets [.sub 1 36 none (some 43)] [] zzb)))
def zzd:T :=
 .ite 38 (.ret [.c (.nil 1),zI 8]) (.lets [.len 36] [] (.lets [.bin .sub 39 (zI 1)] [] (.lets [] [.inr 1 36 40] zzc)))
def zze:T :=
 .lets [.bin .sub 34 (zI 1)] [] (.lets [.sub 1 17 none (some 35)] [] (.lets [.len 36] [] (.lets [.bin .eql 37 (zI 0)] [] zzd)))
def zzf:T :=
 .lets [.len 17] [] (.lets [.bin .sub 31 (zI 1)] [] (.lets [] [.inr 1 17 32] (.lets [.idx 17 32 0] [] (.lets [.len 17] []
 zze))))
def zzg:T :=
 .lets [.len 17] [] (.lets [.bin .eql 29 (zI 0)] [] (.ite 30 (.lets [.len 17] [] (.lets [.bin .eql 31 (zI 0)] [] zz8))
 zzf))
def zzh:T :=
 .lets [.idx 17 35 0] [] (.lets [.len 17] [] (.lets [.bin .sub 37 (zI 1)] [] (.lets [.sub 1 17 none (some 38)] [] (.ret [.c (.nil 1),.c (.i
 .i64 8)]))))
def zzi:T :=
 .ite 33 (.ret [.c (.nil 1),zI 8]) (.lets [.len 17] [] (.lets [.bin .sub 34 (zI 1)] [] (.lets [] [.inr 1 17 35] zzh)))
def zzj:T :=
 .ite 50 (.ret [.c (.nil 1),zI 8]) (.lets [.mk 1 [[46]]] [] (.lets [.app 1 45 51] [] (.lets [.bin .add 20 (zI 1)] [] (.again 1 [52,.v
 18,19,53]))))
def zzk:T :=
 .lets [.bin .lss 46 (.c (.i .i64 (-1000000)))] [] (.ite 49 (.ret [.c (.nil 1),zI 8]) (.lets [.bin .gtr 46 (zI 1000000)] [] zzj))
def zzl:T :=
 .lets [.call 31 [42,34] 0] [] (.lets [.len 45] [] (.lets [.bin .eql 47 (zI 16)] [] (.ite 48 (.ret [.c (.nil 1),zI 8]) zzk)))
def zzm:T :=
 .lets [.idx 37 41 0] [] (.lets [.len 37] [] (.lets [.bin .sub 43 (zI 1)] [] (.lets [.sub 1 37 none (some 44)] [] zzl)))
def zzn:T :=
 .ite 39 (.ret [.c (.nil 1),zI 8]) (.lets [.len 37] [] (.lets [.bin .sub 40 (zI 1)] [] (.lets [] [.inr 1 37 41] zzm)))
def zzo:T :=
 .lets [.bin .sub 35 (zI 1)] [] (.lets [.sub 1 17 none (some 36)] [] (.lets [.len 37] [] (.lets [.bin .eql 38 (zI 0)] [] zzn)))
def zzp:T :=
 .lets [.len 17] [] (.lets [.bin .sub 32 (zI 1)] [] (.lets [] [.inr 1 17 33] (.lets [.idx 17 33 0] [] (.lets [.len 17] []
 zzo))))
def zzq:T :=
 .lets [.len 17] [] (.lets [.bin .eql 30 (zI 0)] [] (.ite 31 (.lets [.len 17] [] (.lets [.bin .eql 32 (zI 0)] [] zzi))
 zzp))
def zzr:T :=
 .lets [.idx 17 36 0] [] (.lets [.len 17] [] (.lets [.bin .sub 38 (zI 1)] [] (.lets [.sub 1 17 none (some 39)] [] (.ret [.c (.nil 1),.c (.i
 .i64 8)]))))
def zzs:T :=
 .ite 34 (.ret [.c (.nil 1),zI 8]) (.lets [.len 17] [] (.lets [.bin .sub 35 (zI 1)] [] (.lets [] [.inr 1 17 36] zzr)))
def zzt:T :=
 .ite 51 (.ret [.c (.nil 1),zI 8]) (.lets [.mk 1 [[47]]] [] (.lets [.app 1 46 52] [] (.lets [.bin .add 20 (zI 1)] [] (.again 1 [53,.v
 18,19,54]))))
def zzu:T :=
 .lets [.bin .lss 47 (.c (.i .i64 (-1000000)))] [] (.ite 50 (.ret [.c (.nil 1),zI 8]) (.lets [.bin .gtr 47 (zI 1000000)] [] zzt))
def zzv:T :=
 .lets [.call 32 [43,35] 0] [] (.lets [.len 46] [] (.lets [.bin .eql 48 (zI 16)] [] (.ite 49 (.ret [.c (.nil 1),zI 8]) zzu)))
def zzw:T :=
 .lets [.idx 38 42 0] [] (.lets [.len 38] [] (.lets [.bin .sub 44 (zI 1)] [] (.lets [.sub 1 38 none (some 45)] [] zzv)))
def zzx:T :=
 .ite 40 (.ret [.c (.nil 1),zI 8]) (.lets [.len 38] [] (.lets [.bin .sub 41 (zI 1)] [] (.lets [] [.inr 1 38 42] zzw)))
def zzy:T :=
 .lets [.bin .sub 36 (zI 1)] [] (.lets [.sub 1 17 none (some 37)] [] (.lets [.len 38] [] (.lets [.bin .eql 39 (zI 0)] [] zzx)))
def zzz:T :=
 .lets [.len 17] [] (.lets [.bin .sub 33 (zI 1)] [] (.lets [] [.inr 1 17 34] (.lets [.idx 17 34 0] [] (.lets [.len 17] []
 zzy))))
def z000:T :=
 .lets [.len 17] [] (.lets [.bin .eql 31 (zI 0)] [] (.ite 32 (.lets [.len 17] [] (.lets [.bin .eql 33 (zI 0)] [] zzs))
 zzz))
def z001:T :=
 .lets [.idx 17 37 0] [] (.lets [.len 17] [] (.lets [.bin .sub 39 (zI 1)] [] (.lets [.sub 1 17 none (some 40)] [] (.ret [.c (.nil 1),.c (.i
 .i64 8)]))))
def z002:T :=
 .ite 35 (.ret [.c (.nil 1),zI 8]) (.lets [.len 17] [] (.lets [.bin .sub 36 (zI 1)] [] (.lets [] [.inr 1 17 37] z001)))
def z003:T :=
 .ite 52 (.ret [.c (.nil 1),zI 8]) (.lets [.mk 1 [[48]]] [] (.lets [.app 1 47 53] [] (.lets [.bin .add 20 (zI 1)] [] (.again 1 [54,.v
 18,19,55]))))
def z004:T :=
 .lets [.bin .lss 48 (.c (.i .i64 (-1000000)))] [] (.ite 51 (.ret [.c (.nil 1),zI 8]) (.lets [.bin .gtr 48 (zI 1000000)] [] z003))
def z005:T :=
 .lets [.call 33 [44,36] 0] [] (.lets [.len 47] [] (.lets [.bin .eql 49 (zI 16)] [] (.ite 50 (.ret [.c (.nil 1),zI 8]) z004)))
def z006:T :=
 .lets [.idx 39 43 0] [] (.lets [.len 39] [] (.lets [.bin .sub 45 (zI 1)] [] (.lets [.sub 1 39 none (some 46)] [] z005)))
def z007:T :=
 .ite 41 (.ret [.c (.nil 1),zI 8]) (.lets [.len 39] [] (.lets [.bin .sub 42 (zI 1)] [] (.lets [] [.inr 1 39 43] z006)))
def z008:T :=
 .lets [.bin .sub 37 (zI 1)] [] (.lets [.sub 1 17 none (some 38)] [] (.lets [.len 39] [] (.lets [.bin .eql 40 (zI 0)] [] z007)))
def z009:T :=
 .lets [.len 17] [] (.lets [.bin .sub 34 (zI 1)] [] (.lets [] [.inr 1 17 35] (.lets [.idx 17 35 0] [] (.lets [.len 17] []
 z008))))
def z00a:T :=
 .lets [.len 17] [] (.lets [.bin .eql 32 (zI 0)] [] (.ite 33 (.lets [.len 17] [] (.lets [.bin .eql 34 (zI 0)] [] z002))
 z009))
def z00b:T :=
 .lets [.idx 17 38 0] [] (.lets [.len 17] [] (.lets [.bin .sub 40 (zI 1)] [] (.lets [.sub 1 17 none (some 41)] [] (.ret [.c (.nil 1),.c (.i
 .i64 8)]))))
def z00c:T :=
 .ite 36 (.ret [.c (.nil 1),zI 8]) (.lets [.len 17] [] (.lets [.bin .sub 37 (zI 1)] [] (.lets [] [.inr 1 17 38] z00b)))
def z00d:T :=
 .ite 53 (.ret [.c (.nil 1),zI 8]) (.lets [.mk 1 [[49]]] [] (.lets [.app 1 48 54] [] (.lets [.bin .add 20 (zI 1)] [] (.again 1 [55,.v
 18,19,56]))))
def z00e:T :=
 .lets [.bin .lss 49 (.c (.i .i64 (-1000000)))] [] (.ite 52 (.ret [.c (.nil 1),zI 8]) (.lets [.bin .gtr 49 (zI 1000000)] [] z00d))
def z00f:T :=
 .lets [.call 34 [45,37] 0] [] (.lets [.len 48] [] (.lets [.bin .eql 50 (zI 16)] [] (.ite 51 (.ret [.c (.nil 1),zI 8]) z00e)))
def z00g:T :=
 .lets [.idx 40 44 0] [] (.lets [.len 40] [] (.lets [.bin .sub 46 (zI 1)] [] (.lets [.sub 1 40 none (some 47)] [] z00f)))
def z00h:T :=
 .ite 42 (.ret [.c (.nil 1),zI 8]) (.lets [.len 40] [] (.lets [.bin .sub 43 (zI 1)] [] (.lets [] [.inr 1 40 44] z00g)))
def z00i:T :=
 .lets [.bin .sub 38 (zI 1)] [] (.lets [.sub 1 17 none (some 39)] [] (.lets [.len 40] [] (.lets [.bin .eql 41 (zI 0)] [] z00h)))
def z00j:T :=
 .lets [.len 17] [] (.lets [.bin .sub 35 (zI 1)] [] (.lets [] [.inr 1 17 36] (.lets [.idx 17 36 0] [] (.lets [.len 17] []
 z00i))))
def z00k:T :=
 .lets [.len 17] [] (.lets [.bin .eql 33 (zI 0)] [] (.ite 34 (.lets [.len 17] [] (.lets [.bin .eql 35 (zI 0)] [] z00c))
 z00j))
def z00l:T :=
 .ite 46 (.ret [.c (.nil 1),zI 8]) (.lets [.mk 1 [[42]]] [] (.lets [.app 1 41 47] [] (.lets [.bin .add 20 (zI 1)] [] (.again 1 [48,.v
 18,19,49]))))
def z00m:T :=
 .lets [.bin .lss 42 (.c (.i .i64 (-1000000)))] [] (.ite 45 (.ret [.c (.nil 1),zI 8]) (.lets [.bin .gtr 42 (zI 1000000)] [] z00l))
def z00n:T :=
 .lets [.call 35 [38] 0] [] (.lets [.len 41] [] (.lets [.bin .eql 43 (zI 16)] [] (.ite 44 (.ret [.c (.nil 1),zI 8]) z00m)))
def z00o:T :=
 .lets [.idx 17 37 0] [] (.lets [.len 17] [] (.lets [.bin .sub 39 (zI 1)] [] (.lets [.sub 1 17 none (some 40)] [] z00n)))
def z00p:T :=
 .ite 35 (.ret [.c (.nil 1),zI 8]) (.lets [.len 17] [] (.lets [.bin .sub 36 (zI 1)] [] (.lets [] [.inr 1 17 37] z00o)))
def z00q:T :=
 .ite 47 (.ret [.c (.nil 1),zI 8]) (.lets [.mk 1 [[43]]] [] (.lets [.app 1 42 48] [] (.lets [.bin .add 20 (zI 1)] [] (.again 1 [49,.v
 18,19,50]))))
def z00r:T :=
 .lets [.bin .lss 43 (.c (.i .i64 (-1000000)))] [] (.ite 46 (.ret [.c (.nil 1),zI 8]) (.lets [.bin .gtr 43 (zI 1000000)] [] z00q))
def z00s:T :=
 .lets [.call 37 [39] 0] [] (.lets [.len 42] [] (.lets [.bin .eql 44 (zI 16)] [] (.ite 45 (.ret [.c (.nil 1),zI 8]) z00r)))
def z00t:T :=
 .lets [.idx 17 38 0] [] (.lets [.len 17] [] (.lets [.bin .sub 40 (zI 1)] [] (.lets [.sub 1 17 none (some 41)] [] z00s)))
def z00u:T :=
 .ite 36 (.ret [.c (.nil 1),zI 8]) (.lets [.len 17] [] (.lets [.bin .sub 37 (zI 1)] [] (.lets [] [.inr 1 17 38] z00t)))
def z00v:T :=
 .lets [.bin .eql 40 (zI 0)] [] (.ite 44 (.ret [.c (.nil 1),zI 8]) (.lets [.bin .add 20 (zI 1)] [] (.again 1 [43,18,19,.v
 45])))
def zrz:T :=
 .lets [.idx 17 39 0] [] (.lets [.len 17] [] (.lets [.bin .sub 41 (zI 1)] [] (.lets [.sub 1 17 none (some 42)] [] z00v)))
def zs0:T :=
 .ite 37 (.ret [.c (.nil 1),zI 8]) (.lets [.len 17] [] (.lets [.bin .sub 38 (zI 1)] [] (.lets [] [.inr 1 17 39] zrz)))
def zs1:T :=
 .ite 40 (.ret [.c (.nil 1),zI 8]) (.lets [.mk 1 [[2]]] [] (.lets [.app 1 17 41] [] (.lets [.bin .add 20 (zI 1)] [] (.again 1 [42,.v
 18,19,43]))))
def zs2:T :=
 .lets [.bin .lss 2 (.c (.i .i64 (-1000000)))] [] (.ite 39 (.ret [.c (.nil 1),zI 8]) (.lets [.bin .gtr 2 (zI 1000000)] [] zs1))
def zs3:T :=
 .ite 36 (.lets [.len 17] [] (.lets [.bin .eql 37 (zI 16)] [] (.ite 38 (.ret [.c (.nil 1),zI 8]) zs2))) (.lets [.bin .add 20
 (zI 1)] [] (.again 1 [17,18,19,37]))
def zs4:T :=
 .ite 35 (.lets [.len 17] [] (.lets [.bin .eql 36 (zI 0)] [] zs0)) (.lets [.bin .eql 22 (zI 12)] [] zs3)
def zs5:T :=
 .ite 34 (.lets [.len 17] [] (.lets [.bin .eql 35 (zI 0)] [] z00u)) (.lets [.bin .eql 22 (zI 11)] [] zs4)
def zs6:T :=
 .ite 33 (.lets [.len 17] [] (.lets [.bin .eql 34 (zI 0)] [] z00p)) (.lets [.bin .eql 22 (zI 13)] [] zs5)
def zs7:T :=
 .ite 31 z00a (.lets [.bin .eql 22 (zI 10)] [] (.ite 32 z00k (.lets [.bin .eql 22 (zI 9)] [] zs6)))
def zs8:T :=
 .ite 29 zzq (.lets [.bin .eql 22 (zI 7)] [] (.ite 30 z000 (.lets [.bin .eql 22 (zI 8)] [] zs7)))
def zs9:T :=
 .ite 27 (.lets [.len 17] [] (.lets [.bin .eql 28 (zI 0)] [] (.ite 29 (.ret [.c (.nil 1),zI 8]) zz6))) (.lets [.bin .eql 22 (.c
 (.i .i64 5))] [] (.ite 28 zzg (.lets [.bin .eql 22 (zI 6)] [] zs8)))
def zsa:T :=
 .ite 25 (.lets [.len 17] [] (.lets [.bin .eql 26 (zI 0)] [] zyl)) (.lets [.bin .eql 22 (zI 3)] [] (.ite 26 zz4 (.lets
 [.bin .eql 22 (zI 4)] [] zs9)))
def zsb:T :=
 .ite 24 (.lets [.len 17] [] (.lets [.bin .eql 25 (zI 16)] [] (.ite 26 (.ret [.c (.nil 1),zI 8]) z06r))) (.lets [.bin .eql 22 (.c
 (.i .i64 2))] [] zsa)
def zsc:T :=
 .ite 21 (.lets [] [.inr 2 0 20] (.lets [.idx 0 20 0,.idx 0 20 1] [] (.lets [.bin .eql 22 (zI 1)] [] zsb))) (.ret [17,
 .c (.i .i64 0)])
def zsd:T :=
 .lets [.bin .lss 14 11] [] (.ite 15 z06p (.lets [.len 0] [] (.loop [10,12,13,zI 0] (.lets [.bin .lss 20 16] []
 zsc))))
def zse:T :=
 .ite 8 (.ret [.c (.nil 1),zI 3]) (.lets [.mk 1 []] [] (.lets [.app 1 9 1] [] (.lets [.len 1] [] (.loop [.c (.nil 1),zI 0,zI 0]
 zsd))))
def zsf:T :=
 .lets [.bin .gtr 2 (zI 1000)] [] (.ite 6 (.ret [.c (.nil 1),zI 3]) (.lets [.len 1] [] (.lets [.bin .gtr 7 (zI 16)] []
 zse)))
def zsg:T :=
 .lets [.bin .neq 3 (zI 0)] [] (.ite 4 (.ret [.c (.nil 1),3]) (.lets [.bin .lss 2 (zI 0)] [] (.ite 5 (.ret [.c (.nil 1),zI 3])
 zsf)))
def zh6:T :=
 .lets [.call 7 [0] 0] [] zsg
attribute [local irreducible] z2d z92 zeb zed zcm zee zcl zec
theorem z0f9:Meets Tryz.prog z93 165 ⟨[.one,.one,.one],[(false,[.fresh 3 1]),(false,[.scal])],false⟩:=by
 refine z5r (sp:=(z07 [(7,z2d),(30,zeb),(31,zec),(32,zcl),(33,zcm),(34,zed),(35,zee),(37,z92)])) (sigs:=z0i) (cut:=[]) (hints:=[⟨8,[.r 6 3 1,.t 7,.t 38]⟩,⟨14,[.c 35 0 360,.r 6 3 1,.t 7,.t 51,.o 32,.z 34,.z 32]⟩]) (fns:=[z6s 192 Tryz.f192 [] [],z6s 207 Tryz.f207 [] [35],z6s 208 Tryz.f208 [] [],z6s 218 Tryz.f218 [] [],z6s 206 Tryz.f206 [] [],z6s 209 Tryz.f209 [] []]) (dep:=6) (pool:=300) (fn:=Tryz.f165) (t:=zh6) (by kernel_rfl) (by kernel_rfl) (by kernel_rfl) ?_ ?_ ?_
 ·exact (z1x (fn:=Tryz.f192) (by kernel_rfl) (by kernel_rfl) (by kernel_rfl) (by kernel_rfl) (by kernel_rfl) (z1x (fn:=Tryz.f207) (by kernel_rfl) (by kernel_rfl) (by kernel_rfl) (by kernel_rfl) (by kernel_rfl) (z1x (fn:=Tryz.f208) (by kernel_rfl) (by kernel_rfl) (by kernel_rfl) (by kernel_rfl) (by kernel_rfl) (z1x (fn:=Tryz.f218) (by kernel_rfl) (by kernel_rfl) (by kernel_rfl) (by kernel_rfl) (by kernel_rfl) (z1x (fn:=Tryz.f206) (by kernel_rfl) (by kernel_rfl) (by kernel_rfl) (by kernel_rfl) (by kernel_rfl) (z1x (fn:=Tryz.f209) (by kernel_rfl) (by kernel_rfl) (by kernel_rfl) (by kernel_rfl) (by kernel_rfl) z6t))))))
 ·exact (z01 (L:=[(7,z2d),(30,zeb),(31,zec),(32,zcl),(33,zcm),(34,zed),(35,zee),(37,z92)]) ⟨za rfl zaa,za rfl z0ot,za rfl z0ou,za rfl z0m2,za rfl z0m3,za rfl z0ow,za rfl z0ov,za rfl z0f8,trivial⟩)
 ·rintro ds rs - h
  obtain ⟨⟨l,s0,ht⟩,-,rfl,rfl⟩:=zi h;clear h;refine ⟨⟨l.length+s0.length+1,?_⟩,?_⟩
  ·show den _ _ zh6 [.l 2 (l.map eOp),.l 1 (s0.map z19),I ht] []=ret (z3y l s0 ht)
   unfold zh6 z3y
   repeat' (first|refine dq1 ?_|refine dqk rfl (z6h _) ?_|exact z5 rfl rfl|((first|refine tR ?_ ?_|refine tO ?_ ?_) <;> intro h)|fail)
   have hc0:z7 l=0:=zY0s.1 (by assumption);refine z4 (z28 (r:=[]) rfl rfl (by simp)) ?_;refine z4 (zam (l:=([]:List Int)) (l':=s0) (f:=z19) rfl rfl (by simp;omega)) ?_
   repeat' (first|refine dq1 ?_|fail)
   (refine zw (fun (_:Unit) k=>[.l 1 (([]:List Int).map z19),I 0,I k]) (fun (_:Unit) _ (r:List Int)=>if ∀ x ∈ r,z3k x then (match z2q ht s0 l with|none=>(([]:List Int),(8:Int))|some s'=>(s',0)) else (([]:List Int),(3:Int))) (fun _ k=>∀ x ∈ s0.take k,z3k x) () s0 ?_ ?_ ?_ ?_ ?_;rfl;exact (fun x hx=>by simp at hx);omega)
   ·rintro _ k x r hx hd hk hp again hag
    repeat' (first|refine dq1 ?_|refine dqc ?_|refine dqT ?_|fail)
    refine z36 rfl (fun h=>?_) (fun h=>?_)
    ·rw [if_neg (fun hh=>by have:=(hh x (zY0h ..)).1;omega)]
     repeat' (first|exact z5 rfl rfl|fail)
    repeat' (first|refine dq1 ?_|fail)
    refine z36 rfl (fun h=>?_) (fun h=>?_)
    ·rw [if_neg (fun hh=>by have:=(hh x (zY0h ..)).2;omega)]
     repeat' (first|exact z5 rfl rfl|fail)
    repeat' (first|refine dq1 ?_|fail)
    refine z6 rfl rfl ((hag () ?_).trans ?_)
    ·intro y hy
     rw [List.take_add_one,hx] at hy;rcases zY0z.1 hy with hy|hy
     ·exact hp y hy
     ·simp only [Option.toList_some,zY19] at hy;subst hy;exact ⟨by omega,by omega⟩
    ·have:(∀ y ∈ x::r,z3k y)↔∀ y ∈ r,z3k y:=by
      simp only [zY0i,forall_eq_or_imp];exact ⟨fun h=>h.2,fun h=>⟨⟨by omega,by omega⟩,h⟩⟩
     simp only [this]
   ·rintro _ hp again
    rw [zY1a] at hp;rw [if_pos (by simp)]
    repeat' (first|refine dq1 ?_|refine dqF ?_|fail)
    (refine zw (fun (s:List Int) k=>[.l 1 (s.map z19),.l 1 (([]:List Int).map z19),I 0,I k]) (fun (s:List Int) _ (r:List Op)=>(match z2q ht s r with|none=>(([]:List Int),(8:Int))|some s'=>(s',0))) (fun s _=>z1g s) s0 l ?_ ?_ ?_ ?_ ?_;rfl;exact ⟨by omega,hp⟩;omega)
    ·rintro s k o r hx hd hk hs again' hag
     have hF:z2s ht s o=none→(match z2q ht s (o::r) with|none=>(([]:List Int),(8:Int))|some s'=>(s',0))=([],8):=fun e=>by rw [z2q,e]
     have hO:∀ s',z2s ht s o=some s'→again' [.l 1 (s'.map z19),.l 1 (([]:List Int).map z19),I 0,I ((k:Int)+1)]=ret (match z2q ht s (o::r) with|none=>(([]:List Int),(8:Int))|some s'=>(s',0)):=fun s' e=>by rw [z2q,e];exact hag s' (zfi hs e)
     generalize (match z2q ht s (o::r) with|none=>(([]:List Int),(8:Int))|some s'=>(s',0))=R at hF hO ⊢;have hsl:=hs.1;have hfit:=hs;have hll:l.length≤16:=z90 hc0;clear hag hd hp hs;have hk13:o.kind=1∨o.kind=2∨o.kind=3∨o.kind=4∨o.kind=5∨o.kind=6∨o.kind=7∨o.kind=8∨o.kind=9∨o.kind=10∨o.kind=11∨o.kind=12∨o.kind=13∨(o.kind≠1∧o.kind≠2∧o.kind≠3∧o.kind≠4∧o.kind≠5∧o.kind≠6∧o.kind≠7∧o.kind≠8∧o.kind≠9∧o.kind≠10∧o.kind≠11∧o.kind≠12∧o.kind≠13):=by omega
     have hcase:(s.length=0∧z4o s=none)∨(∃ a t,z3k a∧z4o s=some (a,t)∧(s.length:Int)=t.length+1∧s[((s.length:Int) - 1).toNat]? = some a∧s.take ((s.length:Int) - 1).toNat=t∧((t.length=0∧z4o t=none)∨∃ b u,z3k b∧z4o t=some (b,u)∧(t.length:Int)=u.length+1∧t[((t.length:Int) - 1).toNat]? = some b∧t.take ((t.length:Int) - 1).toNat=u)):=by
      by_cases h0:s.length=0
      ·exact .inl ⟨h0,zda h0⟩
      ·obtain ⟨a,t,p1,p2,p3,p4,p5⟩:=zdb h0
       have f1:=z4s hfit p1;refine .inr ⟨a,t,f1.1,p1,p3,p4,p5,?_⟩
       by_cases h1:t.length=0
       ·exact .inl ⟨h1,zda h1⟩
       ·obtain ⟨b,u,q1,q2,q3,q4,q5⟩:=zdb h1
        exact .inr ⟨b,u,(z4s f1.2 q1).1,q1,q3,q4,q5⟩
     rcases hk13 with hk|hk|hk|hk|hk|hk|hk|hk|hk|hk|hk|hk|hk|hk
     all_goals
      try simp only [z2s,hk,Int.reduceEq,if_true,if_false] at hF hO
      rcases hcase with ⟨c1,c2⟩|⟨a,t,fa,p1,p3,p4,p5,⟨c1,c2⟩|⟨b,u,fb,q1,q3,q4,q5⟩⟩
      ·try simp only [c2,z1c,z1k,zY09] at hF hO
       repeat' (first|refine dq1 ?_|refine dqc ?_|refine dqm ?_|refine dqT ?_|refine dqF ?_|exact z5 rfl (by rw [hF (by (repeat' (first|rw [z29 (by omega)]|simp only [zY05,zY09]|fail)))];rfl)|exact z6 rfl rfl (hO _ (by (repeat' (first|rfl|rw [z0b (by omega) (by omega) (by omega)]|fail))))|refine z36 rfl (fun h=>?_) (fun h=>?_)|fail)
      ·try simp only [p1,c2,z1c,z1k,zY09,zY05] at hF hO
       obtain ⟨fa1,fa2⟩:=id fa
       repeat' (first|refine dq1 ?_|refine dqc ?_|refine dqm ?_|refine dqk rfl (zg1 _ (by assumption)) ?_|refine dqk rfl (zlw _) ?_|refine dqT ?_|refine dqF ?_|exact z5 rfl (by rw [hF (by (repeat' (first|rw [z29 (by omega)]|rw [z0b (by omega) (by omega) (by omega)]|rw [if_pos (by omega)]|simp only [zY05,zY09]|fail)))];rfl)|exact z6 rfl rfl (hO _ (by (repeat' (first|rfl|rw [z0b (by omega) (by omega) (by omega)]|rw [if_neg (by omega)]|simp only [zY05,zY09]|fail))))|refine z36 rfl (fun h=>?_) (fun h=>?_)|fail)
      ·try simp only [p1,q1,z1c,z1k,zY09,zY05] at hF hO
       obtain ⟨fa1,fa2⟩:=id fa;obtain ⟨fb1,fb2⟩:=id fb
       repeat' (first|refine dq1 ?_|refine dqc ?_|refine dqm ?_|refine dqk rfl (zg1 _ (by assumption)) ?_|refine dqk rfl (z0bk _ _ ⟨by assumption,by assumption⟩) ?_|refine dqk rfl (z0bl _ _ ⟨by assumption,by assumption⟩) ?_|refine dqk rfl (z06k _ _) ?_|refine dqk rfl (z06l _ _) ?_|refine dqk rfl (z0bm _ _) ?_|refine dqk rfl (zlw _) ?_|refine dqT ?_|refine dqF ?_|exact z5 rfl (by rw [hF (by (repeat' (first|rw [z29 (by omega)]|rw [z0b (by omega) (by omega) (by omega)]|rw [if_pos (by omega)]|simp only [zY05,zY09]|fail)))];rfl)|exact z6 rfl rfl (hO _ (by (repeat' (first|rfl|rw [z0b (by omega) (by omega) (by omega)]|rw [if_neg (by omega)]|simp only [zY05,zY09]|fail))))|refine z36 rfl (fun h=>?_) (fun h=>?_)|fail)
    ·rintro s hs again'
     repeat' (first|refine dq1 ?_|exact z5 rfl rfl|refine dqF ?_|fail)
  ·intro i d hi hd
   match i,hi,hd with
   | 0,hi,_=>simp [zn] at hi
   | 1,_,hd=>simp only [Enc.e,z19,zY1j,zY11,zY04,zY2a,zY00] at hd;subst hd;rfl
   | i+2,hi,hd=>simp [zn] at hi
end
section
open Go.RowKit
set_option maxRecDepth 100000
set_option maxHeartbeats 4000000
attribute [local irreducible] z00 spD z1e z3y
noncomputable def z94:z9:=spD (fun _:List Op × List Op × Int=>True) fun x=>z1z x.1 x.2.1 x.2.2
theorem zlx (l k:List Op) (h:Int):z94 [.l 2 (l.map eOp),.l 2 (k.map eOp),I h]=some [.b (z1z l k h).1,I (z1z l k h).2]:=zg (f:=fun x:List Op × List Op × Int=>z1z x.1 x.2.1 x.2.2) (l,k,h) trivial
theorem z0a9 {h:Int}:∀ {l:List Op} {s s':List Int},z1g s→z2q h s l=some s'→z1g s'
 | [],s,s',hs,he=>by cases he;exact hs
 | o::l,s,s',hs,he=>by
  rw [z2q] at he
  cases hm:z2s h s o with
  | none=>rw [hm] at he;cases he
  | some t=>rw [hm] at he;exact z0a9 (zfi hs hm) he
theorem zrf (l:List Op) (s:List Int) (h:Int):(z3y l s h).1.length≤16:=by
 unfold z3y
 split
 ·simp
 split
 ·simp
 rename_i h2
 split
 ·rename_i h3
  have hs:z1g s:=⟨by omega,h3⟩
  cases hm:z2q h s l with
  | none=>simp
  | some t=>exact (z0a9 hs hm).1
 ·simp
theorem z0m4 {l:List Int} (h:(l.length:Int)=1):l[(0:Int).toNat]? = some (l.headD 0):=by
 match l,h with
 | [x],_=>rfl
def zsh:T :=
 .lets [.bin .neq 8 (zI 0)] [] (.ite 9 (.ret [.c (.b false),8]) (.lets [.bin .add 5 (zI 1)] [] (.again 0 [3,4,10])))
def zsi:T :=
 .lets [] [.inr 1 10 (zI 0)] (.lets [.idx 10 (zI 0) 0] [] (.lets [.bin .neq 16 (zI 0)] [] (.ret [17,zI 0])))
def zsj:T :=
 .ite 13 (.lets [.len 10] [] (.lets [.bin .eql 14 (zI 1)] [] (.ite 15 zsi (.ret [.c (.b false),zI 0])))) (.ret [.c (.b false),.c
 (.i .i64 0)])
def zsk:T :=
 .lets [.call 29 [0,7,2] 0,.call 29 [0,7,2] 1] [] (.lets [.bin .eql 11 (zI 3)] [] (.ite 12 (.ret [.c (.b false),11]) (.lets [.bin .eql
 11 (zI 0)] [] zsj)))
def zsl:T :=
 .lets [] [.inr 1 7 (zI 0)] (.lets [.idx 7 (zI 0) 0] [] (.lets [.bin .neq 14 (zI 0)] [] (.ret [15,zI 0])))
def zsm:T :=
 .ite 11 (.lets [.len 7] [] (.lets [.bin .eql 12 (zI 1)] [] (.ite 13 zsl (.ret [.c (.b false),zI 0])))) (.ret [.c (.b false),.c
 (.i .i64 0)])
def zsn:T :=
 .ite 9 zsk (.lets [.bin .eql 8 (zI 3)] [] (.ite 10 (.ret [.c (.b false),8]) (.lets [.bin .eql 8 (zI 0)] [] zsm)))
def zso:T :=
 .ite 6 (.lets [.sel [0,1] 5] [] (.lets [.call 7 [7] 0] [] zsh)) (.lets [.call 29 [1,.c (.nil 1),2] 0,.call 29 [1,.c (.nil 1),2] 1] []
 (.lets [.bin .eql 8 (zI 0)] [] zsn))
def zdo:T :=
 .loop [.c (.b false),zI 0,zI 0] (.lets [.bin .lss 5 (zI 2)] [] zso)
theorem z06y:Meets Tryz.prog z94 144 ⟨[.one,.one,.one],[(false,[.scal]),(false,[.scal])],true⟩:=by
 refine zj (sp:=(z07 [(7,z2d),(29,z93)])) (sigs:=z0i) (cut:=[]) (hints:=[⟨2,[.t 6,.t 7,.t 16]⟩]) (fn:=Tryz.f144) (t:=zdo) (by kernel_rfl) (by kernel_rfl) (by kernel_rfl) ?_ ?_
 ·exact (z01 (L:=[(7,z2d),(29,z93)]) ⟨za rfl zaa,za rfl z0f9,trivial⟩)
 ·rintro ds rs - h
  obtain ⟨⟨l,k,ht⟩,-,rfl,rfl⟩:=zi h;clear h;refine ⟨⟨3,?_⟩,zf8 rfl rfl⟩
  show den _ _ zdo [.l 2 (l.map eOp),.l 2 (k.map eOp),I ht] []=ret (z1z l k ht)
  unfold zdo z1z;refine z0r rfl ?_;rw [z04]
  repeat' (first|refine dq1 ?_|refine dqk rfl (z6h _) ?_|exact z5 rfl rfl|refine tR (fun h=>?_) fun h=>?_|fail)
  refine z6 rfl rfl ?_;rw [z04];have hr1:=zrf k [] ht;have hr2:=zrf l (z3y k [] ht).1 ht;unfold zea
  repeat' (first|refine dq1 ?_|refine dqc ?_|refine dqK rfl (zg2 k [] ht (by simp)) ?_|refine dqK rfl (zg2 l _ ht (by omega)) ?_|exact z5 rfl rfl|refine tR (fun h=>?_) fun h=>?_|fail)
  all_goals
   have hx:=z0m4 (by assumption)
   repeat' (first|refine dq1 ?_|exact z5 rfl rfl|fail)
end
section
open Go.RowKit
def zly (r:Option (List Int)):List Int × Int:=match r with
 | none=>([],8)
 | some s=>(s,0)
theorem zrg {l:List Op} {s:List Int} {h:Int} (hl:z7 l=0) (h0:0≤h) (h1:h≤1000) (hs:z1g s):z3y l s h=zly (z2q h s l):=by
 unfold z3y;rw [if_neg (fun e=>e hl),if_neg (by have:=hs.1;omega),if_pos hs.2];rfl
theorem zab:z1g []:=⟨by simp,by simp⟩
theorem zk4 {h:Int}:∀ {l:List Op} {s s':List Int},z1g s→z2q h s l=some s'→z1g s'
 | [],s,s',hs,he=>by cases he;exact hs
 | o::l,s,s',hs,he=>by
  rw [z2q] at he
  cases hm:z2s h s o with
  | none=>rw [hm] at he;cases he
  | some t=>rw [hm] at he;exact zk4 (zfi hs hm) he
def zlz (r:Option (List Int)):Bool:=match r with
 | some [x]=>decide (x≠0)
 | _=>false
theorem z06z (r:Option (List Int)):zea (zly r)=(zlz r,0):=by
 match r with
 | none=>rfl
 | some []=>rfl
 | some [x]=>simp [zea,zly,zlz]
 | some (x::y::t) =>
  show (if (0:Int)=3 then (false,0) else if (0:Int)=0 then (if ((x::y::t).length:Int)=1 then (decide ((x::y::t).headD 0≠0),0) else (false,0)) else (false,0))=(false,0)
  rw [if_neg (by decide),if_pos rfl,if_neg (by simp only [zY0g];omega)]
theorem z0bn {l k:List Op} {h:Int} (hl:z7 l=0) (hk:z7 k=0) (h0:0≤h) (h1:h≤1000):z1z l k h=(zlz ((z2q h [] k).bind fun s=>z2q h s l),0):=by
 unfold z1z;rw [if_neg (fun e=>e hl),if_neg (fun e=>e hk),zrg hk h0 h1 zab]
 cases hm:z2q h [] k with
 | none=>rfl
 | some s =>
  have hs:=zk4 zab hm;rw [if_pos (show (zly (some s)).2=0 from rfl),show (zly (some s)).1=s from rfl,zrg hl h0 h1 hs,z06z];rfl
end
section
open Go.RowKit
open Go.Lib (itoa)
set_option maxRecDepth 100000
set_option maxHeartbeats 4000000
def z3r:z9:=fun ds=>match ds with
 | []=>some (opNames.map Dt.s)
 | _::_=>none
theorem zm0:z3r []=some [.s [],.s [],.s [100,117,112],.s [115,119,97,112],.s [100,114,111,112],.s [97,100,100],.s [115,117,98],.s [115,97,109,101],.s [108,101,115,115],.s [110,111,116],.s [97,110,100],.s [118,101,114,105,102,121],.s [104,101,105,103,104,116],.s [109,105,120]]:=rfl
def z070:T :=
 .ret [.c (.s []),.c (.s []),.c (.s [100,117,112]),.c (.s [115,119,97,112]),.c (.s [100,114,111,112]),.c (.s [97,100,100]),.c (.s [115,117,98]),.c (.s [115,97,
 109,101]),.c (.s [108,101,115,115]),.c (.s [110,111,116]),.c (.s [97,110,100]),.c (.s [118,101,114,105,102,121]),.c (.s [104,101,105,103,104,116]),.c (.s
 [109,105,120])]
def zsp:T :=
 .lets [.call 38 [8] 0] [] (.lets [.mk 1 [[25]]] [] (.lets [.app 1 4 26] [] (.lets [.bin .add 5 (zI 1)] [] (.again 0 [27,28]))))
def zsq:T :=
 .ite 24 zsp (.lets [.mk 1 [[23]]] [] (.lets [.app 1 4 25] [] (.lets [.bin .add 5 (zI 1)] [] (.again 0 [26,27]))))
def zsr:T :=
 .lets [.sel [9,10,11,12,13,14,15,16,17,18,19,20,21,22] 7] [] (.lets [.bin .eql 7 (zI 1)] [] zsq)
def zss:T :=
 .lets [.call 40 [] 0,.call 40 [] 1,.call 40 [] 2,.call 40 [] 3,.call 40 [] 4,.call 40 [] 5,.call 40 [] 6,.call 40 [] 7,.call 40 [] 8,.call 40 [] 9,.call 40 [] 10,.call 40
 [] 11,.call 40 [] 12,.call 40 [] 13] [] zsr
def zst:T :=
 .ite 6 (.lets [] [.inr 2 0 5] (.lets [.idx 0 5 0,.idx 0 5 1] [] zss)) (.lets [.call 39 [4,.c (.s [32])] 0] [] (.ret [7,.c (.i
 .i64 0)]))
def zsu:T :=
 .lets [.bin .neq 1 (zI 0)] [] (.ite 2 (.ret [.c (.s []),1]) (.lets [.len 0] [] (.loop [.c (.nil 1),zI 0] (.lets [.bin .lss 5 3] []
 zst))))
def zdp:T :=
 .lets [.call 7 [0] 0] [] zsu
theorem z071:Meets Tryz.prog z3r 142 ⟨[],[(true,[.scal,.scal,.scal,.scal,.scal,.scal,.scal,.scal,.scal,.scal,.scal,.scal,.scal,.scal])],true⟩:=by
 refine zj (sp:=(z07 [])) (sigs:=z0i) (cut:=[]) (hints:=[]) (fn:=Tryz.f142) (t:=z070) (by kernel_rfl) (by kernel_rfl) (by kernel_rfl) ?_ ?_
 ·exact (z01 (L:=[]) trivial)
 ·rintro ds rs - h
  cases ds with
  | cons d ds=>cases h
  | nil =>
   cases h
   refine ⟨⟨1,rfl⟩,fun i d hi hd=>?_⟩;rw [zY0j] at hd;obtain ⟨x,_,rfl⟩:=zY0o.1 hd;rfl
noncomputable def zh7:z9:=spD (fun _:List Op=>True) fun l=>z3b l
theorem zm1 (l:List Op):zh7 [.l 2 (l.map eOp)]=some [.s (z3b l).1,I (z3b l).2]:=zg (f:=fun l:List Op=>z3b l) l trivial
theorem z0py {k:Int} (h0:1≤k) (h1:k≤13):(opNames.map Dt.s)[k.toNat]? = some (.s ((opNames[k.toNat]?).getD [])):=by
 rcases z0bd h0 h1 with rfl|rfl|rfl|rfl|rfl|rfl|rfl|rfl|rfl|rfl|rfl|rfl|rfl <;> rfl
attribute [local irreducible] z00 spD z1e itoa z7 z1z z3v z3r
theorem z072:Meets Tryz.prog zh7 114 ⟨[.one],[(false,[.scal]),(false,[.scal])],true⟩:=by
 refine zj (sp:=(z07 [(7,z2d),(38,z5j),(39,zbm),(40,z3r)])) (sigs:=z0i) (cut:=[]) (hints:=[⟨6,[.r 5 9 1,.t 16]⟩]) (fn:=Tryz.f114) (t:=zdp) (by kernel_rfl) (by kernel_rfl) (by kernel_rfl) ?_ ?_
 ·exact (z01 (L:=[(7,z2d),(38,z5j),(39,zbm),(40,z3r)]) ⟨za rfl zaa,za rfl zy6,za rfl z0f3,za rfl z071,trivial⟩)
 ·rintro ds rs - h
  obtain ⟨l,-,rfl,rfl⟩:=zi h;clear h;refine ⟨⟨l.length+1,?_⟩,zf8 rfl rfl⟩
  show den _ _ zdp [.l 2 (l.map eOp)] []=ret (z3b l)
  unfold zdp z3b
  repeat' (first|refine dq1 ?_|refine dqk rfl (z6h _) ?_|exact z5 rfl rfl|refine tR (fun h=>?_) fun h=>?_|fail)
  have hc0:z7 l=0:=zY0s.1 (by assumption);obtain ⟨hl16,hall⟩:=zch hc0
  (refine zw (fun (s:List (List UInt8)) k=>[.l 1 (s.map z0g),I k]) (fun (s:List (List UInt8)) _ (r:List Op)=>(z3v 32 (s++r.map z1p),(0:Int))) (fun s k=>s=(l.take k).map z1p) [] l ?_ ?_ ?_ ?_ ?_;rfl;exact rfl;omega)
  ·rintro s k o r hx hd hk hs again hag
   have hsl:s.length≤16:=by rw [hs,zY0w,zY0b];omega
   have ho:=zk0 (hall o (zY0f hx));obtain ⟨ho1,ho2,-⟩:=ho;have hn:=z0py ho1 ho2;have hnext:s++[z1p o]=(l.take (k+1)).map z1p:=by rw [hs,List.take_add_one,hx,zY24];rfl
   have hag:=hag (s++[z1p o]) hnext;rw [← List.append_cons] at hag;rw [zY1t]
   repeat' (first|refine dq1 ?_|refine dqc ?_|refine dqm ?_|refine dqK rfl (zm0) ?_|refine dqT ?_|fail)
   refine z4 (z0eq rfl rfl (by omega) hn) ?_
   repeat' (first|refine dq1 ?_|fail)
   refine z36 rfl (fun h=>?_) (fun h=>?_)
   ·have ht:z1p o=itoa o.n:=if_pos h
    rw [ht] at hag ⊢
    repeat' (first|refine dq1 ?_|refine dqk rfl (z7i _) ?_|refine z4 (z28 rfl rfl (by simp)) ?_|fail)
    exact z6 rfl rfl hag
   ·have ht:z1p o=(opNames[o.kind.toNat]?).getD []:=if_neg h
    rw [ht] at hag ⊢
    repeat' (first|refine dq1 ?_|refine z4 (z28 rfl rfl (by simp)) ?_|fail)
    exact z6 rfl rfl hag
  ·rintro s hs again
   rw [zY1a] at hs;subst hs;have hln:=za8 hc0;have hj:=zlk 32 (l.map z1p);have ht:z3v 32 (l.map z1p)=z5i l:=rfl;simp only [zY30,zY23];rw [← hj]
   repeat' (first|refine dq1 ?_|refine dqk rfl (zry (l.map z1p) [32] ⟨by rw [zY0w];omega,by rw [hj,ht];omega⟩) ?_|exact z5 rfl rfl|refine dqF ?_|fail)
end
section
open Go.RowKit Go.Shelf
open Go.Lib (itoa)
set_option maxRecDepth 100000
def FactsW (w:World) (F:Nat→Prop) (Δ:List Res):Prop:=∀ r ∈ Δ,r.block=none∧r.holds w.heap.size F w
theorem FactsW.nil {w:World} {F:Nat→Prop}:FactsW w F []:=fun _ h=>by cases h
theorem FactsW.cons {w:World} {F:Nat→Prop} {Δ:List Res} {r:Res} (h1:r.block=none) (h2:r.holds w.heap.size F w) (h:FactsW w F Δ):FactsW w F (r::Δ):=fun q hq=>by
 rcases zY0i.1 hq with rfl|hq
 ·exact ⟨h1,h2⟩
 ·exact h q hq
theorem z0ff {α:Type} {S:Sh α} {xs:List α} {A:Option Addr} {n c:Nat}:(rds xs A n c S).block=none:=by unfold rds zjx;rfl
theorem z0fg {α:Type} {S:Sh α} {xs:List α} {A:Option Addr} {n c h0:Nat} {w:World} {F:Nat→Prop} (h:Rds S w F xs A n c):(rds xs A n c S).holds h0 F w:=by unfold rds zjx;exact h
theorem FactsW.rds {w:World} {F:Nat→Prop} {Δ:List Res} {α:Type} {S:Sh α} {xs:List α} {A:Option Addr} {n c:Nat} (h:Rds S w F xs A n c) (hΔ:FactsW w F Δ):FactsW w F (rds xs A n c S::Δ):=.cons z0ff (z0fg h) hΔ
def sb (gb:Nat) (l:List UInt8):Res:={
 block:=some gb
 holds h0 F W:=h0≤gb∧∃ v p,W.heap[gb]? = some (.cells #[p,v] 177 (0,0))∧W.ownsRow gb 5 1 v l.length (Lib.byteCells l)∧v.ownBlock≠some gb∧(∀ g,v.ownBlock=some g→F g)∧(p = .pointer none∨p = .pointer (some ⟨gb,0,none⟩))
 keep:=fun ha hF hb ⟨h0,v,p,h1,h2,h3,h4,h5⟩=>⟨h0,v,p,(hb _ rfl).trans h1,zgu h2 (fun g hg=>ha g (h4 g hg)),h3,fun g hg=>hF g (h4 g hg),h5⟩
 lt:=fun ⟨h0,v,p,h1,_⟩ e=>by injection e with e;subst e;exact ⟨h0,(zY17.1 h1).1⟩ }
section
variable {w0 W:World} {F0:Nat→Prop} {Γ Δ:List Res} {gb:Nat} {l:List UInt8}
theorem FactsW.sep {r:Res} (hΔ:FactsW w0 F0 Δ) (hb:Below w0.heap.size w0 W) (hF:∀ b,F0 b→b<w0.heap.size) (hr:r.holds w0.heap.size (Free w0.heap.size F0 (r::Δ) W) W) (hg:∀ g,r.block=some g→w0.heap.size≤g):Sep w0 F0 (r::Δ) W:=by
 refine ⟨hb,hF,?_,?_⟩
 ·intro q hq
  rcases zY0i.1 hq with rfl|hq
  ·exact hr
  ·refine q.keep (fun b hb'=>hb.block b (hF b hb')) (fun b hb'=>⟨.inl hb',fun p hp e=>?_⟩) (fun g hg'=>by rw [(hΔ q hq).1] at hg';cases hg') (hΔ q hq).2
   rcases zY0i.1 hp with rfl|hp
   ·have:=hg b e;have:=hF b hb';omega
   ·rw [(hΔ p hp).1] at e;cases e
 ·refine zY1q.2 ⟨fun q hq g _ h2=>(by rw [(hΔ q hq).1] at h2;cases h2),?_⟩
  exact List.pairwise_of_forall_mem_list fun q hq p hp g h1 _=>by rw [(hΔ q hq).1] at h1;cases h1
theorem Sep.sbStart {w:World} {F:Nat→Prop} (hF:∀ b,F b→b<w.heap.size) (hΔ:FactsW w F Δ):Sep w F (sb w.heap.size []::Δ) (w.alloc (.cells #[.pointer none,.slice none 0 0] 177)) :=
 hΔ.sep ((Below.refl _ _).alloc (zY0m _) _) hF ⟨zY0m _,.slice none 0 0,.pointer none,heap_alloc_new w _,World.ownsRow_nil _ _ _ _,by simp [Value.ownBlock],fun g hg=>by simp [Value.ownBlock] at hg,.inl rfl⟩ (fun g hg=>by injection hg with hg;omega)
theorem Sep.sbIs (hS:Sep w0 F0 Γ W) (hm:At Γ (sb gb l)):Lib.IsBuilder 177 5 gb gb (Lib.byteCells l) W:=by
 obtain ⟨h0,v,p,h1,h2,h3,-,h5⟩:=hS.get hm;have e:(Lib.byteCells l).length=l.length:=Lib.byteCells_length l;rcases h5 with rfl|rfl
 ·exact .inl ⟨zY0m _,v,h1,by rw [e];exact h2,h3⟩
 ·exact .inr ⟨zY0m _,v,h1,by rw [e];exact h2,h3⟩
theorem Sep.write (hS:Sep w0 F0 Γ W) (hm:At Γ (sb w0.heap.size l)) (hΔ:FactsW w0 F0 Δ) (s:ByteArray) (hl:l.length+s.size≤1000000) :
  Calls Tryz.prog 112 #[.pointer (some ⟨w0.heap.size,0,none⟩),.string s] W fun e W'=>(∃ v,e = .returned v)∧Sep w0 F0 (sb w0.heap.size (l++s.data.toList)::Δ) W':=by
 have hB:=hS.sbIs hm;have e:(Lib.byteCells l).length=l.length:=Lib.byteCells_length l;refine (Any.Builder_WriteString { Tryz.lays156 with } Tryz.Builder_Extra_156 w0.heap.size w0.heap.size (Lib.byteCells l) s W hB (by rw [e];omega) hS.size).mono ?_;rintro e w' ⟨rfl,⟨-,v,h1,h2,h3⟩,h4⟩;refine ⟨⟨_,rfl⟩,?_⟩;have hb:Below w0.heap.size w0 w':=hS.below.trans h4;rw [Lib.strCells_eq,← Lib.byteCells_append] at h2;rw [Lib.byteCells_length] at h2;refine hΔ.sep hb hS.low ⟨zY0m _,v,_,h1,h2,h3,fun g hg=>⟨.inr ?_,?_⟩,.inr rfl⟩ (fun g hg=>by injection hg with hg;omega)
 ·exact h2.lt g hg
 ·intro q hq e
  rcases zY0i.1 hq with rfl|hq
  ·exact h3 (hg.trans e.symm)
  ·rw [(hΔ q hq).1] at e;cases e
theorem Sep.text (hS:Sep w0 F0 Γ W) (hm:At Γ (sb w0.heap.size l)) :
  Calls Tryz.prog 113 #[.pointer (some ⟨w0.heap.size,0,none⟩)] W fun e W'=>e = .returned (.string ⟨l.toArray⟩)∧Below w0.heap.size w0 W' :=
 (Any.Builder_String_any Tryz.lays169 Tryz.Builder_Extra_169 w0.heap.size w0.heap.size l W (hS.sbIs hm) hS.size).mono fun e w' ⟨h1,h2⟩=>⟨h1,hS.below.trans h2⟩
section
variable {P:Program} {ops:Array Oper} {Q:Exit→Act→World→Prop} {a:Act} {rest:List Oper} {o:Oper}
theorem wsb (hgd:Region.wanted o (yielded ops a.tmps)=true) (ho:o.op = .alloc 177) (hz:z4y P 177 [.pointer none,.slice none 0 0]) (hΔ:FactsW W (Lt W.heap.size) Δ)
  (k:∀ W',Sep W (Lt W.heap.size) (sb W.heap.size []::Δ) W'→wpList P ops Q rest (a.put o.dst (.pointer (some ⟨W.heap.size,0,none⟩))) W'):wpList P ops Q (o::rest) a W :=
 BigFrame.wpList_want hgd fun K hK=>by
  obtain ⟨z,hz1,hz2⟩:=hz;unfold Oper.wp execOp;simp only [ho,Instr.alloc,newVar,newRow,Sem.run_bind,run_newObj_alloc,Result.andThen_ok,Sem.run_pure,hz2,hz1];exact hK _ _ (k _ (Sep.sbStart (fun _ h=>h) hΔ))
end
end
attribute [irreducible] sb
theorem Yl.cat {P:Program} {w0:World} {F0:Nat→Prop} {Γ:List Res} {o:Oper} {a:Act} {t t':TypeId} {x y:Operand} {s r:List UInt8} (ho:o.op = .binOp .add t x y t') (hx:a.eval x = .string ⟨s.toArray⟩) (hy:a.eval y = .string ⟨r.toArray⟩) (hl:s.length+r.length≤1000000):Yl P w0 F0 Γ o a (.string ⟨(s++r).toArray⟩) :=
 Yl.pure fun W=>by
  have e3:(⟨s.toArray⟩++⟨r.toArray⟩:ByteArray)=⟨(s++r).toArray⟩:=by
   apply ByteArray.ext;simp
  have hn:¬ ((((⟨s.toArray⟩:ByteArray).size+(⟨r.toArray⟩:ByteArray).size:Nat):Int) > IntKind.i64.max):=by
   simp only [ByteArray.size,zY2i,IntKind.max,IntKind.bits,IntKind.signed];omega
  unfold execOp;simp only [ho,hx,hy,binOp,Op.stringOp,if_neg hn,e3];rfl
theorem z_sb:z4y Tryz.prog 177 [.pointer none,.slice none 0 0]:=⟨.agg #[.pointer none,.slice none 0 0],rfl,Tryz.zeroValue177⟩
section
variable {P:Program} {W:World} {F:Nat→Prop}
theorem z00z {spec:z9} {f:Nat} {pk:List PK} {d1 d2:Dt} (hpk:z41 pk=false) (hen:En P f) (hM:Meets P spec f ⟨pk,[(false,[.scal]),(false,[.scal])],true⟩) {ds:List Dt} {us:List Value} (hF:zaw F W) (hs:spec ds=some [d1,d2]) (hargs:PKRs W F pk ds us) :
  Calls P f us.toArray W fun e w'=>(∃ v1 v2 F',e = .returned (.tuple #[v1,v2])∧Rep w' F' d1 v1∧Rep w' F' d2 v2)∧Below W.heap.size W w':=by
 rcases hM.1 hpk W F ds us _ hF hargs hs with ⟨_,h⟩|⟨v,W',h1,_⟩
 ·refine h.mono fun e w' ⟨v,h1,h2,us,F',hR⟩=>⟨?_,h2⟩
  obtain ⟨vs,rfl,v1,vs1,u1,u2,rfl,rfl,⟨rfl,-⟩,v2,vs2,u3,u4,rfl,rfl,⟨rfl,-⟩,rfl,rfl⟩:=hR.val;exact ⟨v1,v2,F',h1,(hR.cells 0 .scal d1 v1 rfl rfl rfl).2,(hR.cells 1 .scal d2 v2 rfl rfl rfl).2⟩
 ·rw [hen.run] at h1;cases h1
end
theorem zm6 (n:Int) (hn:I64 n) {W:World} (hG:Glob W):Calls Tryz.prog 104 #[.int .i64 n] W fun e w'=>e = .returned (.string ⟨(itoa n).toArray⟩)∧Below W.heap.size W w':=by
 refine (Any.strconv_Itoa Tryz.lays171 n hn.1 hn.2 W hG.1).mono ?_;rintro e w' ⟨rfl,k,os,rfl⟩;exact ⟨rfl,Go.Lib.below_grow _ _ (zY0m _) k os⟩
theorem zj5 (l:List Op) {A:Option Addr} {n c:Nat} {W:World} {F:Nat→Prop} (hF:zaw F W) (h:Rds shOp W F l A n c) :
  Calls Tryz.prog 114 #[.slice A n c] W fun e w'=>e = .returned (.tuple #[.string ⟨(z3b l).1.toArray⟩,.int .i64 (z3b l).2])∧Below W.heap.size W w':=by
 refine (z00z (us:=[.slice A n c]) rfl (z23 (fn:=Tryz.f114) (by kernel_rfl) (by kernel_rfl) (by kernel_rfl)) z072 hF (zm1 l) (z34 (z7d z7z h) zf4)).mono ?_;rintro e w' ⟨⟨v1,v2,F',rfl,h1,h2⟩,h3⟩;obtain ⟨rfl,-⟩:=zbz h1;obtain ⟨rfl,-⟩:=zip h2;exact ⟨rfl,h3⟩
end
section
open Go.RowKit Go.Shelf
open Go.Lib (itoa)
set_option maxRecDepth 100000
set_option maxHeartbeats 4000000 in
theorem z0fh (t:Tx) (cs:List Value) {w0 W:World} {F0:Nat→Prop} {Γ:List Res} (hS:Sep w0 F0 Γ W) (ht:At Γ (rep t cs shTx)) (hG:Glob w0) :
  Calls Tryz.prog 71 #[.agg cs.toArray] W (RV w0 F0 Γ (.tuple #[.string ⟨(z0a t).1.toArray⟩,.int .i64 (z0a t).2])):=by
 (have hO:=hS.open_tx ht;clear hS;obtain ⟨A,n,c,A2,n2,c2,rfl,i1,hS⟩:=hO)
 obtain ⟨hl1,hn1,hc1⟩:=hS.len (xs:=t.ins) (by repeat (with_reducible exact At.z))
 obtain ⟨hl2,hn2,hc2⟩:=hS.len (xs:=t.outs) (by repeat (first|with_reducible exact At.z|apply At.s))
 have HP:=Lib.hid (show z0a t=if zf t≠0 then ([],zf t) else (z0d t,0) from rfl)
 generalize z0a t=R at *
 have L1:=Lib.hid hl1
 have L2:=Lib.hid hl2
 clear hl1 hl2
 go_enter Tryz.func71,Tryz.ntmps71
 (go_wp2_with ((refine Sep.wbox hS (by rfl) rfl rfl ?_;clear hS;intro gt W hS;refine Stop.go ?_));refine Stop.mk ?_)
 go_wp2_with (((refine Sep.wloadNb hS (by rfl) rfl rfl (by repeat (with_reducible exact At.z)) (z3j rfl) ?_)))
 refine (hS.old (zdn t [_,_,_] _ _ (hS.ltsRep (At.s (At.s (At.s ht)))) (fun b hb=>hb))).mono ?_;clear hS;rintro e W ⟨rfl,hS⟩
 rcases Classical.em (zf t=0) with h0|h0
 ·rw [h0]
  have HR:Hid (R=(z0d t,0)):=Lib.hid (by rw [HP.out,if_neg (fun h=>h h0)])
  have H0:=Lib.hid h0
  have hlen:n≤6∧n2≤6:=by
   have q:=h0
   unfold zf z1q at q
   have:=L1.out
   have:=L2.out
   by_cases h6:6<t.ins.length∨6<t.outs.length
   ·rw [if_pos h6] at q;simp at q
   ·omega
  clear h0 HP
  have b0:=hS.boxCell (g:=gt) At.z 0 _ rfl
  have b1:=hS.boxCell (g:=gt) At.z 1 _ rfl
  have b2:=hS.boxCell (g:=gt) At.z 2 _ rfl
  have gl:gt<W.heap.size:=(zY17.1 (hS.getBox (g:=gt) At.z).2).1
  have hΔ:FactsW W (Lt W.heap.size) [rds t.ins A n c shIn,rds t.outs A2 n2 c2 shOut]:=.rds (hS.ltsRds (by repeat (first|with_reducible exact At.z|apply At.s))) (.rds (hS.ltsRds (by repeat (first|with_reducible exact At.z|apply At.s))) .nil)
  have hG1:Glob W:=hG.on hS.below
  obtain ⟨h,ins,outs⟩:=t
  simp only at *
  rename World=>Wb
  have hSo:=hS
  clear hS
  (go_wp2_with (first|(refine wsb (by rfl) rfl z_sb hΔ ?_;intro W1 hS;refine Stop.go ?_));refine Stop.mk ?_)
  have c0:=(hS.below.cell (p:=⟨gt,0,none⟩) gl).trans b0
  go_wp2_with fail
  refine (hS.old (zm6 h i1 (hG1.on hS.below))).mono ?_;clear hS;rintro e W ⟨rfl,hS⟩
  have li:=zcj h i1
  go_wp2_with fail
  refine (hS.write (l:=[]) (by repeat (with_reducible exact At.z)) hΔ _ (by simp [ByteArray.size];omega)).mono ?_
  clear hS
  rintro e W2 ⟨⟨v,rfl⟩,hS⟩
  have c1:=(hS.below.cell (p:=⟨gt,1,none⟩) gl).trans b1
  go_wp2_with fail
  have e0:[]++((⟨#[116,120,32]⟩:ByteArray)++⟨(itoa h).toArray⟩++⟨#[10]⟩).data.toList=z4c ⟨h,ins,outs⟩:=by simp [ByteArray.data_append,z4c]
  rw [e0] at hS
  clear e0
  have lh:(z4c ⟨h,ins,outs⟩).length≤24:=by simp [z4c];omega
  go_loopw [7,8,9,28] (fun _ _ _ i wr=>∃ k:Nat,k≤n∧i = .int .i64 k∧∃ l:List UInt8,l.length≤24+200 * k∧Hid (l=z4c ⟨h,ins,outs⟩++(ins.take k).flatMap z3i)∧Sep Wb (Lt Wb.heap.size) (sb Wb.heap.size l::rds ins A n c shIn::rds outs A2 n2 c2 shOut::[]) wr) (fun _ _ _ i _=>n - (intOf i).toNat)
  case atStart=>exact ⟨0,by omega,rfl,z4c ⟨h,ins,outs⟩,by omega,Lib.hid (by simp),hS.sub (by repeat (with_reducible exact Sub.refl))⟩
  case round =>
   clear hS c1 c0
   obtain ⟨k,hk,rfl,l,hl,HL,hS⟩:=hrel
   rcases Classical.em (k<n) with hlt|hlt
   ·(have hO:=hS.elemIn (xs:=ins) (by repeat (first|with_reducible exact At.z|apply At.s)) hlt;clear hS;obtain ⟨b,off,x,A1,n1,c1,rfl,hx,j1,j2,hS⟩:=hO)
    have HX:=Lib.hid hx
    have k1:(0:Int)≤(k:Int):=by omega
    have k2:(k:Int)<(n:Int):=by omega
    clear hx
    obtain ⟨⟨ptx,pat⟩,key⟩:=x
    simp only at j1 j2 hS
    (go_wp2_with (first|(refine Sep.wloadNz hS (by rfl) rfl rfl (by repeat (first|with_reducible exact At.z|apply At.s)) (z3j rfl) ?_)|(refine Sep.walloc hS (by rfl) rfl (by first|exact zk5|exact z_in) ?_;clear hS;intro g W hS)|(refine Sep.wstoreNb hS (by rfl) rfl rfl rfl (z3j rfl) (by simp [zce,Value.oneCell']) (by repeat (first|with_reducible exact At.z|apply At.s)) (by rfl) (by repeat (first|with_reducible exact Put.z|apply Put.s)) ?_;clear hS;intro W hS;refine Stop.go ?_));refine Stop.mk ?_)
    have x2:=hS.boxCell (g:=g) (cs:=[.int .i64 ptx,.int .i64 pat,.slice A1 n1 c1]) (by repeat (with_reducible exact At.z)) 2 _ rfl
    go_wp2_with fail
    refine (hS.old (zj5 key ⟨fun b hb=>hb,hG1.on hS.below⟩ (hS.ltsRds (by repeat (first|with_reducible exact At.z|apply At.s))))).mono ?_;clear hS;rintro e W ⟨rfl,hS⟩
    clear x2
    have lp:=zbn key
    have l1:=zcj ptx j1
    have l2:=zcj pat j2
    go_wp2_with fail
    (refine Sep.regionT hS [15] (by kernel_rfl) ?_;clear hS;intro W hS)
    (refine z7k 0 rfl rfl (by ((apply Yl.pure;intro W;go_simp;with_reducible rfl))) (hS.sub (by repeat (with_reducible exact Sub.refl))) (by kernel_rfl) (fun _ _ _ h=>h) ?_;simp only [Act.put,zY0u,zY1d,zY1e])
    (refine z7k 1 rfl rfl (by ((apply Yl.pure;intro W;go_simp;with_reducible rfl))) (hS.sub (by repeat (with_reducible exact Sub.refl))) (by kernel_rfl) (fun _ _ _ h=>h) ?_;simp only [Act.put,zY0u,zY1d,zY1e])
    (refine z7k 2 rfl rfl (by (exact Yl.load1b rfl rfl (zap rfl) (by repeat (with_reducible exact At.z)) rfl)) (hS.sub (by repeat (with_reducible exact Sub.refl))) (by kernel_rfl) (fun _ _ _ h=>h) ?_;simp only [Act.put,zY0u,zY1d,zY1e])
    (refine z7k 6 rfl rfl (by ((apply Yl.pure;intro W;go_simp;with_reducible rfl))) (hS.sub (by repeat (with_reducible exact Sub.refl))) (by kernel_rfl) (fun _ _ _ h=>h) ?_;simp only [Act.put,zY0u,zY1d,zY1e])
    (refine z7k 7 rfl rfl (by ((apply Yl.pure;intro W;go_simp;with_reducible rfl))) (hS.sub (by repeat (with_reducible exact Sub.refl))) (by kernel_rfl) (fun _ _ _ h=>h) ?_;simp only [Act.put,zY0u,zY1d,zY1e])
    (refine z7k 8 rfl rfl (by (exact Yl.load1b rfl rfl (zap rfl) (by repeat (with_reducible exact At.z)) rfl)) (hS.sub (by repeat (with_reducible exact Sub.refl))) (by kernel_rfl) (fun _ _ _ h=>h) ?_;simp only [Act.put,zY0u,zY1d,zY1e])
    (refine z7k 12 rfl rfl (by (exact Yl.move rfl)) (hS.sub (by repeat (with_reducible exact Sub.refl))) (by kernel_rfl) (fun _ _ _ h=>h) ?_;simp only [Act.put,zY0u,zY1d,zY1e])
    refine oneL 3 (by kernel_rfl) rfl ?_
    go_wp2_with fail
    refine (hS.old (zm6 ptx j1 (hG1.on hS.below))).mono ?_;clear hS;rintro e W ⟨rfl,hS⟩
    go_wp2_with fail
    (refine ⟨fun _=>hS.sub (by repeat (with_reducible exact Sub.refl)),?_⟩;try simp only [Act.put,zY0u,zY1d,zY1e])
    (refine z7k 4 rfl rfl (Yl.cat rfl rfl rfl (by simp only [zY06,zY0g,zY13];omega)) (hS.sub (by repeat (with_reducible exact Sub.refl))) (by kernel_rfl) (fun _ _ _ h=>h) ?_;simp only [Act.put,zY0u,zY1d,zY1e])
    (refine z7k 5 rfl rfl (Yl.cat rfl rfl rfl (by simp only [zY06,zY0g,zY13];omega)) (hS.sub (by repeat (with_reducible exact Sub.refl))) (by kernel_rfl) (fun _ _ _ h=>h) ?_;simp only [Act.put,zY0u,zY1d,zY1e])
    refine oneL 9 (by kernel_rfl) rfl ?_
    go_wp2_with fail
    refine (hS.old (zm6 pat j2 (hG1.on hS.below))).mono ?_;clear hS;rintro e W ⟨rfl,hS⟩
    go_wp2_with fail
    (refine ⟨fun _=>hS.sub (by repeat (with_reducible exact Sub.refl)),?_⟩;try simp only [Act.put,zY0u,zY1d,zY1e])
    (refine z7k 10 rfl rfl (Yl.cat rfl rfl rfl (by simp only [zY06,zY0g,zY13];omega)) (hS.sub (by repeat (with_reducible exact Sub.refl))) (by kernel_rfl) (fun _ _ _ h=>h) ?_;simp only [Act.put,zY0u,zY1d,zY1e])
    (refine z7k 11 rfl rfl (Yl.cat rfl rfl rfl (by simp only [zY06,zY0g,zY13];omega)) (hS.sub (by repeat (with_reducible exact Sub.refl))) (by kernel_rfl) (fun _ _ _ h=>h) ?_;simp only [Act.put,zY0u,zY1d,zY1e])
    (refine z7k 13 rfl rfl (Yl.cat rfl rfl rfl (by simp only [zY06,zY0g,zY13];omega)) (hS.sub (by repeat (with_reducible exact Sub.refl))) (by kernel_rfl) (fun _ _ _ h=>h) ?_;simp only [Act.put,zY0u,zY1d,zY1e])
    (refine z7k 14 rfl rfl (Yl.cat rfl rfl rfl (by simp only [zY06,zY0g,zY13];omega)) (hS.sub (by repeat (with_reducible exact Sub.refl))) (by kernel_rfl) (fun _ _ _ h=>h) ?_;simp only [Act.put,zY0u,zY1d,zY1e])
    refine oneL 15 (by kernel_rfl) rfl ?_
    go_wp2_with fail
    refine (hS.write (l:=l) (by repeat (first|with_reducible exact At.z|apply At.s)) hΔ _ (by simp [ByteArray.size];omega)).mono ?_
    clear hS
    rintro e W2 ⟨⟨v,rfl⟩,hS⟩
    go_wp2_with fail
    (refine ⟨fun h=>z0m6 (by kernel_rfl) h,?_⟩;try simp only [Act.put,zY0u,zY1d,zY1e])
    refine z075 (by kernel_rfl) ?_
    go_wp2_with fail
    rw [show l++105::110::32::(itoa ptx++32::(itoa pat++58::((z3b key).1++[10])))=l++z3i ⟨⟨ptx,pat⟩,key⟩ by simp [z3i]] at hS
    go_roundw
    case measure=>simp [intOf];omega
    case rel=>exact ⟨k+1,by omega,by go_num,l++z3i ⟨⟨ptx,pat⟩,key⟩,by simp [z3i];omega,Lib.hid (by rw [z2i HX.out,HL.out];simp),hS.sub (by repeat (with_reducible exact Sub.refl))⟩
   ·obtain rfl:k=n:=by omega
    have d2:=(hS.below.cell (p:=⟨gt,2,none⟩) gl).trans b2
    have HL2:Hid (l=z4c ⟨h,ins,outs⟩++ins.flatMap z3i):=Lib.hid (by rw [HL.out,zY0p (by have:=L1.out;omega)])
    clear HL
    go_wp2_with fail
    clear d2
    go_loopw [11,12,13,58] (fun _ _ _ i wr=>∃ k:Nat,k≤n2∧i = .int .i64 k∧∃ m:List UInt8,m.length≤l.length+200 * k∧Hid (m=l++(outs.take k).flatMap z2l)∧Sep Wb (Lt Wb.heap.size) (sb Wb.heap.size m::rds outs A2 n2 c2 shOut::[]) wr) (fun _ _ _ i _=>n2 - (intOf i).toNat)
    case atStart=>exact ⟨0,by omega,rfl,l,by omega,Lib.hid (by simp),hS.sub (by repeat (first|with_reducible exact Sub.nil|refine Sub.take (by repeat (first|with_reducible exact Del.z|apply Del.s)) ?_))⟩
    case round =>
     clear hS
     obtain ⟨k,hk,rfl,m,hm,HM,hS⟩:=hrel
     rcases Classical.em (k<n2) with hlt|hlt
     ·(have hO:=hS.elemOut (xs:=outs) (by repeat (first|with_reducible exact At.z|apply At.s)) hlt;clear hS;obtain ⟨b,off,x,A1,n1,c1,rfl,hx,j1,hS⟩:=hO)
      have HX:=Lib.hid hx
      have k1:(0:Int)≤(k:Int):=by omega
      have k2:(k:Int)<(n2:Int):=by omega
      clear hx
      obtain ⟨coin,lock⟩:=x
      simp only at j1 hS
      (go_wp2_with (first|(refine Sep.wloadNz hS (by rfl) rfl rfl (by repeat (first|with_reducible exact At.z|apply At.s)) (z3j rfl) ?_)|(refine Sep.walloc hS (by rfl) rfl (by first|exact zk5|exact z0kk) ?_;clear hS;intro g W hS)|(refine Sep.wstoreNb hS (by rfl) rfl rfl rfl (z3j rfl) (by simp [zce,Value.oneCell']) (by repeat (first|with_reducible exact At.z|apply At.s)) (by rfl) (by repeat (first|with_reducible exact Put.z|apply Put.s)) ?_;clear hS;intro W hS;refine Stop.go ?_));refine Stop.mk ?_)
      have x1:=hS.boxCell (g:=g) (cs:=[.int .i64 coin,.slice A1 n1 c1]) (by repeat (with_reducible exact At.z)) 1 _ rfl
      go_wp2_with fail
      refine (hS.old (zj5 lock ⟨fun b hb=>hb,hG1.on hS.below⟩ (hS.ltsRds (by repeat (first|with_reducible exact At.z|apply At.s))))).mono ?_;clear hS;rintro e W ⟨rfl,hS⟩
      clear x1
      have lp:=zbn lock
      have l1:=zcj coin j1
      have x0:=hS.boxCell (g:=g) (cs:=[.int .i64 coin,.slice A1 n1 c1]) (by repeat (with_reducible exact At.z)) 0 _ rfl
      go_wp2_with fail
      refine (hS.old (zm6 coin j1 (hG1.on hS.below))).mono ?_;clear hS;rintro e W ⟨rfl,hS⟩
      clear x0
      go_wp2_with fail
      refine (hS.write (l:=m) (by repeat (first|with_reducible exact At.z|apply At.s)) hΔ _ (by simp [ByteArray.size];omega)).mono ?_
      clear hS
      rintro e W2 ⟨⟨v,rfl⟩,hS⟩
      go_wp2_with fail
      have e2:((⟨#[111,117,116,32]⟩:ByteArray)++⟨(itoa coin).toArray⟩++⟨#[58]⟩++⟨(z3b lock).1.toArray⟩++⟨#[10]⟩).data.toList=z2l ⟨coin,lock⟩:=by simp [ByteArray.data_append,z2l]
      rw [e2] at hS
      clear e2
      go_roundw
      case measure=>simp [intOf];omega
      case rel=>exact ⟨k+1,by omega,by go_num,m++z2l ⟨coin,lock⟩,by simp [z2l];omega,Lib.hid (by rw [z2i HX.out,HM.out];simp),hS.sub (by repeat (first|with_reducible exact Sub.nil|refine Sub.take (by repeat (first|with_reducible exact Del.z|apply Del.s)) ?_))⟩
     ·obtain rfl:k=n2:=by omega
      go_wp2_with fail
      refine (hS.text (by repeat (with_reducible exact At.z))).mono ?_
      clear hS
      rintro e W3 ⟨rfl,hB⟩
      have hS:=hSo.belows hB
      go_wp2_with fail
      have em:m=z0d ⟨h,ins,outs⟩:=by rw [HM.out,HL2.out,zY0p (by have:=L2.out;omega)];rfl
      rw [em]
      refine bodyPost_ret (z00x rfl (by exact Got.tmp rfl) (by exact Got.tmp rfl)) rfl ?_
      exact ⟨by rw [HR.out];rfl,hS.sub (by repeat (first|with_reducible exact Sub.refl|apply Sub.skip))⟩
 ·have q:((zf t) != 0)=true:=by simp [h0]
  have HR:Hid (R=([],zf t)):=Lib.hid (by rw [HP.out,if_pos h0])
  clear h0 HP
  go_wp2_with fail
  refine bodyPost_ret (z00x rfl (by exact Got.tmp rfl) (by exact Got.tmp rfl)) rfl ?_
  exact ⟨by rw [HR.out];rfl,hS.sub (by repeat (first|with_reducible exact Sub.refl|apply Sub.skip))⟩
end
section
open Go.RowKit Go.Shelf
open Go.Lib (itoa)
set_option maxRecDepth 100000
noncomputable def z5w:z9:=spD (fun _:Tx=>True) fun t=>z0a t
theorem zsw (t:Tx):z5w (eTx t)=some [.s (z0a t).1,I (z0a t).2]:=zg (f:=fun t:Tx=>z0a t) t trivial
theorem z0bv (t:Tx):I64 (z0a t).2:=by
 unfold z0a
 split
 ·exact (zwj t).i64
 ·show I64 0
  exact ⟨by decide,by decide⟩
theorem z0fi:Meets Tryz.prog z5w 71 ⟨[.agg 3],[(false,[.scal]),(false,[.scal])],true⟩ :=
 z6y rfl (z23 (fn:=Tryz.f71) (by kernel_rfl) (by kernel_rfl) (by kernel_rfl)) fun t _ W F us hF h=>by
  obtain ⟨cs,rfl,hr⟩:=z8c h;have hS:Sep W F [rep t cs shTx] W:=(Sep.start W F hF.1).addRep (S:=shTx) (shTx.more (fun b hb=>⟨.inl hb,by simp⟩) (she_tx.of hr));refine (z0fh t cs hS At.z hF.2).mono ?_;rintro e w' ⟨rfl,hS'⟩;exact ⟨_,rfl,hS'.below,z0a6 rfl rfl (.s _ (by have:=z0bj t;omega)) (.i _ _ (wrap_i64 (z0bv t)))⟩
theorem Yl.base {P:Program} {w0:World} {F0:Nat→Prop} {Γ:List Res} {o:Oper} {a:Act} {t:TypeId} {x:Operand} {g j:Nat} {v:Value} (ho:o.op = .load t x) (hx:a.eval x = .pointer (some ⟨g,j,none⟩)) (h1:OneT P t) (hg:g<w0.heap.size) (hc:w0.cell? ⟨g,j,none⟩=some v):Yl P w0 F0 Γ o a v :=
 Yl.load ho hx fun W hS=>h1.load ((hS.below.cell (p:=⟨g,j,none⟩) hg).trans hc)
noncomputable def zj6:z9:=spD (fun _:Block=>True) fun t=>z9t t
end
section
open Go.RowKit
open Go.Lib (itoa atoiAll atoiSat)
set_option maxRecDepth 100000
set_option maxHeartbeats 4000000
section
variable {sp:Nat→z9} {N:Nat} {E E':Env} {ks:List (List Dt→Option (List Dt))} {res:Option (List Dt)}
end
def z010 (acc:List Op) (ws:List (List UInt8)):List Op × Int:=match zny ws with
 | none=>([],1)
 | some l=>if z7 (acc++l)≠0 then ([],z7 (acc++l)) else (acc++l,0)
attribute [local irreducible] den denX z0f z0k
attribute [local irreducible] z00 spD z1e itoa z7 z1z z3v z3r z010 zck z6g zxt zh0 zh1
end
section
open Go.RowKit
noncomputable def z0fj:z9:=spD (fun _:List Int × List Int=>True) fun x=>decide (x.1=x.2)
end
section
open Go.RowKit
open Go.Lib (itoa)
set_option maxRecDepth 100000
set_option maxHeartbeats 4000000
end
section
open Go.Lib (itoa)
open Go.RowKit
def z0q2:List UInt8:=[10,116,120,32]
def z011 (s:List UInt8):Int:=Go.Lib.index (s.drop 1) z0q2
def z0bw (s:List UInt8):List UInt8:=if 0≤z011 s then s.take (z011 s+2).toNat else s
def z0fk:Nat→List UInt8→List (List UInt8)
 | 0,_=>[]
 | f+1,s=>if s=[] then [] else z0bw s::z0fk f (s.drop (z0bw s).length)
structure PlainL (l:List UInt8):Prop where
 ne:∀ b ∈ l,b≠10
 no:∀ s,List.isPrefixOf tTx (l++s)=false
end
section
open Go.Lib (itoa)
open Go.RowKit
set_option maxRecDepth 100000
def z012:List UInt8→List (List UInt8)
 | []=>[[]]
 | b::l=>if b=10 then [10]::z012 l else match z012 l with
  | []=>[[b]]
  | x::xs=>(b::x)::xs
end
section
open Go.RowKit
set_option maxRecDepth 100000
set_option maxHeartbeats 4000000
attribute [local irreducible] z00 spD z1e
def z0bx:T :=
 .lets [.call 10 [9] 0] [] (.lets [] [.inr 6 4 3] (.lets [.set 4 3 3 [12]] [] (.lets [.bin .add 3 (zI 1)] [] (.again 0 [14,13]))))
def z0by:T :=
 .lets [] [.inr 6 4 3] (.lets [.idx 4 3 0,.idx 4 3 1,.idx 4 3 2,.idx 4 3 3,.idx 4 3 4,.idx 4 3 5] []
 z0bx)
def zk6:T :=
 .lets [.call 9 [0] 0] [] (.lets [.len 1] [] (.loop [zI 0,1] (.lets [.bin .lss 3 2] [] (.ite 5 z0by (.ret [4])))))
def z0fl:T :=
 .lets [.idx 3 6 0,.idx 3 6 1,.idx 3 6 2,.idx 3 6 3,.idx 3 6 4,.idx 3 6 5] [] (.lets [.bin .add 5 10] []
 (.lets [.bin .add 6 (zI 1)] [] (.again 0 [14,15])))
def z0fm:T :=
 .lets [.idx 2 10 0,.idx 2 10 1] [] (.lets [.bin .sub 9 12] [] (.lets [.bin .add 10 (zI 1)] [] (.again 1 [14,15])))
def z0fn:T :=
 .lets [.len 2] [] (.loop [5,zI 0] (.lets [.bin .lss 10 8] [] (.ite 11 (.lets [] [.inr 2 2 10] z0fm) (.ret [9]))))
def zoe:T :=
 .lets [.len 3] [] (.loop [zI 0,zI 0] (.lets [.bin .lss 6 4] [] (.ite 7 (.lets [] [.inr 6 3 6] z0fl) z0fn)))
def z95 (l:List Coin):Prop:=l.length≤1000000∧∀ c ∈ l,c.o.lock.length≤8796093022208
theorem CoinsOK.short {l:List Coin} (h:CoinsOK l):z95 l:=⟨by have:=h.len;omega,fun c hc=>by have:=z90 (z3m (h.good c hc)).2.2.2.2.2.2.2.2;omega⟩
noncomputable def z71:z9:=spD z95 fun l=>l
theorem zhb (l:List Coin) (h:z95 l):z71 [.l 6 (l.map zd)]=some [.l 6 (l.map zd)]:=zg (p:=z95) (f:=fun l:List Coin=>l) l h
theorem z013:Meets Tryz.prog z71 45 ⟨[.one],[(false,[.fresh 101 6])],false⟩:=by
 refine zj (sp:=(z07 [(9,z5s),(10,z3c)])) (sigs:=z0i) (cut:=[]) (hints:=[⟨3,[.t 9,.o 6]⟩]) (fn:=Tryz.f45) (t:=zk6) (by kernel_rfl) (by kernel_rfl) (by kernel_rfl) ?_ ?_
 ·exact (z01 (L:=[(9,z5s),(10,z3c)]) ⟨za rfl zy4,za rfl zh3,trivial⟩)
 ·rintro ds rs - h
  obtain ⟨l,⟨hl,hk⟩,rfl,rfl⟩:=zi h;clear h;refine ⟨⟨l.length+1,?_⟩,z062 (by simp [zn,CF.isScal])⟩
  show den _ _ zk6 [.l 6 (l.map zd)] []=ret l
  unfold zk6
  repeat' (first|refine dq1 ?_|refine dqk rfl (z8z _ hl) ?_|fail)
  (refine zw (fun (_:Unit) k=>[I k,.l 6 (l.map zd)]) (fun _ _ _=>l) (fun _ _=>True) () l ?_ ?_ ?_ ?_ ?_;rfl;exact trivial;exact zY1z _)
  ·rintro _ k c r hx hd hkl - again hag
   repeat' (first|refine dq1 ?_|refine dqc ?_|refine dqm ?_|refine dqk rfl (z5v _ (hk c (zY0f hx))) ?_|refine dqT ?_|fail)
   refine z4 (zfd rfl rfl rfl (by omega) (by simp) (by exact hx) rfl) ?_
   repeat' (first|refine dq1 ?_|exact z6 rfl rfl (hag () trivial)|fail)
  ·intro _ _ again
   repeat' (first|refine dq1 ?_|exact z5 rfl rfl|refine dqF ?_|fail)
theorem z079 (l:List Coin):∀ s:Int,l.foldl (fun s c=>s+c.o.coin) s=s+zh l:=by
 induction l with
 | nil=>intro s;simp [zh]
 | cons c l ih=>intro s;rw [List.foldl_cons,ih,zh];omega
def z16 (t:Tx) (l:List Coin):Int:=t.outs.foldl (fun s o=>s - o.coin) (l.foldl (fun s c=>s+c.o.coin) 0)
def z96 (x:Tx × List Coin):Prop:=x.2.length≤1000000∧(∀ c ∈ x.2,0≤c.o.coin∧c.o.coin≤1000000000)∧x.1.outs.length≤1000000∧∀ o ∈ x.1.outs,0≤o.coin∧o.coin≤1000000000
noncomputable def z72:z9:=spD z96 fun x=>z16 x.1 x.2
theorem zj7 (t:Tx) (l:List Coin) (h:z96 (t,l)):z72 [I t.height,.l 3 (t.ins.map eIn),.l 2 (t.outs.map z17),.l 6 (l.map zd)]=some [I (z16 t l)]:=zg (p:=z96) (f:=fun x:Tx × List Coin=>z16 x.1 x.2) (t,l) h
theorem z0ab:Meets Tryz.prog z72 74 ⟨[.agg 3,.one],[(false,[.scal])],true⟩:=by
 refine zj (sp:=(z07 [])) (sigs:=z0i) (cut:=[]) (hints:=[⟨3,[.t 5,.t 12]⟩,⟨8,[.t 5,.t 25]⟩]) (fn:=Tryz.f74) (t:=zoe) (by kernel_rfl) (by kernel_rfl) (by kernel_rfl) ?_ ?_
 ·exact (z01 (L:=[]) trivial)
 ·rintro ds rs - h
  obtain ⟨⟨t,l⟩,⟨h1,h2,h3,h4⟩,rfl,rfl⟩:=zi h;clear h;simp only at h1 h2 h3 h4;refine ⟨⟨l.length+t.outs.length+1,?_⟩,zy rfl⟩
  show den _ _ zoe [I t.height,.l 3 (t.ins.map eIn),.l 2 (t.outs.map z17),.l 6 (l.map zd)] []=ret (z16 t l)
  unfold zoe z16
  repeat' (first|refine dq1 ?_|fail)
  (refine zw (fun (s:Int) k=>[I s,I k]) (fun (s:Int) _ (r:List Coin)=>t.outs.foldl (fun s o=>s - o.coin) (r.foldl (fun s c=>s+c.o.coin) s)) (fun s k=>0≤s∧s≤k * 1000000000) (0:Int) l ?_ ?_ ?_ ?_ ?_;rfl;exact ⟨by omega,by omega⟩;omega)
  ·rintro s k c r hx hd hkl ⟨h0,h5⟩ again hag
   have hc:=h2 c (zY0f hx)
   repeat' (first|refine dq1 ?_|refine dqc ?_|refine dqm ?_|refine dqT ?_|fail)
   exact z6 rfl rfl (hag (s+c.o.coin) ⟨by omega,by omega⟩)
  ·rintro s ⟨h0,h5⟩ again
   repeat' (first|refine dq1 ?_|refine dqF ?_|fail)
   (refine zw (fun (s:Int) k=>[I s,I k]) (fun (s:Int) _ (r:List Out)=>r.foldl (fun s o=>s - o.coin) s) (fun s k => - (k * 1000000000)≤s∧s≤l.length * 1000000000) s t.outs ?_ ?_ ?_ ?_ ?_;rfl;exact ⟨by omega,by omega⟩;omega)
   ·rintro s k c r hx hd hkl ⟨h0,h5⟩ again' hag
    have hc:=h4 c (zY0f hx)
    repeat' (first|refine dq1 ?_|refine dqc ?_|refine dqm ?_|refine dqT ?_|fail)
    exact z6 rfl rfl (hag (s - c.coin) ⟨by omega,by omega⟩)
   ·rintro s ⟨h0,h5⟩ again'
    repeat' (first|refine dq1 ?_|exact z5 rfl rfl|refine dqF ?_|fail)
def z5x:Coin:=⟨⟨0,0⟩,⟨0,[]⟩,0,false⟩
def z014 (l:List Coin) (p:Point):Coin × Int:=if zb l≠0 then (z5x,zb l) else if z1n l p=true then ((l[zo l p]?).getD z5x,0) else (z5x,7)
end
end Go.Proofs.YtaddehddalnliaaGreatDoor
