/- Own texts, put together by wip/bundle.py: VdW, VdX, VdY1, VdY2, VdY3, VdY, VT0, VT1, VU1, VEr0, VU2, VS1, VS2, VS3, VTK, VT2, VT3, VT4, VL0, VL1, VL2, VL3, VLP, VL4, VB1, VB2, VB3, VL7, VS4, VB4, VR1, VR6. -/
import Derived.Test.YtaddehddalnliaaGreatDoorProg
import Derived.KernelRfl
import Derived.Lib.ItoaNum
import Derived.Lib.AtoiAll
import Derived.Lib.Join
import Derived.Lib.Split
import Derived.Test.YtaddehddalnliaaGreatDoorShelf3
import Derived.Lib.AppendIntMem
import Derived.Lib.SmallJoins
import Derived.Lib.FieldsLaws
import Derived.Test.YtaddehddalnliaaGreatDoorBCOwnB
import Derived.Test.YtaddehddalnliaaGreatDoorBCOwnC
import Derived.Test.YtaddehddalnliaaGreatDoorBCOwnR
import Derived.Test.YtaddehddalnliaaGreatDoorBCOwnS
import Derived.Test.YtaddehddalnliaaGreatDoorBCOwnV2
set_option linter.unusedVariables false
set_option linter.unusedSimpArgs false
namespace Go.Proofs.YtaddehddalnliaaGreatDoor
section
open Go.RowKit
def zmr:zij:=[(3,⟨1,false,[.i .i64 0],[],false,none,some .i64,none,none⟩),(5,⟨1,false,[.i .u8 0],[],false,none,some .u8,none,none⟩),(233,⟨1,false,[.i .u64 0],[],false,none,some .u64,none,none⟩),(4,⟨1,false,[.b false],[],false,none,none,none,none⟩),(9,⟨1,false,[.s []],[],false,none,none,none,none⟩),(31,⟨1,false,[.i .i64 0],[],false,none,some .i64,none,none⟩),(58,⟨1,false,[.nil 1],[],false,some (3,1,8),none,none,none⟩),(22,⟨1,false,[.nil 1],[],false,some (9,1,16),none,none,none⟩),(47,⟨1,false,[.nil 2],[],false,some (103,2,16),none,none,none⟩),(164,⟨1,false,[.nil 2],[],false,some (97,2,16),none,none,none⟩),(27,⟨1,false,[.nil 3],[],false,some (105,3,40),none,none,none⟩),(28,⟨1,false,[.nil 2],[],false,some (99,2,32),none,none,none⟩),(26,⟨1,false,[.nil 3],[],false,some (30,3,56),none,none,none⟩),(25,⟨1,false,[.nil 6],[],false,some (101,6,64),none,none,none⟩),(57,⟨1,false,[.nil 1],[],false,some (111,1,24),none,none,none⟩),(73,⟨1,false,[.nil 5],[],false,some (49,5,56),none,none,none⟩),(202,⟨1,false,[.nil 1],[],false,some (25,1,24),none,none,none⟩),(196,⟨1,false,[.nil 1],[],false,some (22,1,24),none,none,none⟩),(179,⟨1,false,[.er],[],false,none,none,none,none⟩),(103,⟨2,true,[.i .i64 0,.i .i64 0],[(0,1),(1,1)],true,none,none,none,none⟩),(97,⟨2,true,[.i .i64 0,.i .i64 0],[(0,1),(1,1)],true,none,none,none,none⟩),(105,⟨3,true,[.i .i64 0,.i .i64 0,.nil 2],[(0,2),(2,1)],false,none,none,none,none⟩),(99,⟨2,true,[.i .i64 0,.nil 2],[(0,1),(1,1)],false,none,none,none,none⟩),(30,⟨3,true,[.i .i64 0,.nil 3,.nil 2],[(0,1),(1,1),(2,1)],false,none,none,none,none⟩),(24,⟨1,true,[.nil 1],[(0,1)],false,none,none,none,none⟩),(101,⟨6,true,[.i .i64 0,.i .i64 0,.i .i64 0,.nil 2,.i .i64 0,.b false],[(0,2),(2,2),(4,1),(5,1)],false,none,none,none,none⟩),(111,⟨1,true,[.nil 6],[(0,1)],false,none,none,none,none⟩),(49,⟨5,true,[.i .i64 0,.i .i64 0,.i .i64 0,.i .i64 0,.nil 3],[(0,1),(1,1),(2,1),(3,1),(4,1)],false,none,none,none,none⟩),(75,⟨2,true,[.nil 1,.nil 5],[(0,1),(1,1)],false,none,none,none,none⟩),(268,⟨3,true,[.nil 1,.i .i64 0,.b false],[(0,1),(1,1),(2,1)],false,none,none,none,none⟩),(266,⟨1,false,[],[],false,none,none,none,none⟩),(149,⟨2,true,[.i .i64 0,.i .i64 0],[],false,none,none,some (2,3),none⟩),(210,⟨14,true,[.s [],.s [],.s [],.s [],.s [],.s [],.s [],.s [],.s [],.s [],.s [],.s [],.s [],.s []],[],false,none,none,some (14,9),none⟩),(241,⟨2,true,[.nil 2,.nil 2],[],false,none,none,some (2,47),none⟩),(148,⟨2,true,[.nil 1,.nil 1],[],false,none,none,some (2,58),none⟩),(143,⟨1,false,[],[],false,none,none,none,some (3,3)⟩)]
theorem zru:tabB Tryz.prog zmr=true:=by kernel_rfl
theorem zy6:Tryz.prog.follows .mixedOrders=true:=by kernel_rfl
def zau (f:Nat) (fn:Func) (hints:List Hint) (cut:List Nat):FnI:=⟨f,fn.ntmps,hints,cut,fn.results.toList,fn.body.getD .skip⟩
def fxOf (ty:zij) (sigs:List (Nat × Sig)) (fn:Func) (cut:List Nat) (hints:List Hint) (fns:List FnI) (dep:Nat):Fx :=
 ⟨⟨ty,sigs,cut⟩,fn.ntmps,hints,fns,4 * fn.ntmps+dep * 400,if dep=0 then 4 * fn.ntmps+10 else 4 * fn.ntmps+dep * 400+100,dep,4⟩
def fxIn (ty:zij) (sigs:List (Nat × Sig)) (fn:Func) (cut:List Nat) (hints:List Hint) (fns:List FnI) (dep pool:Nat):Fx:=⟨⟨ty,sigs,cut⟩,fn.ntmps,hints,fns,pool,pool+80,dep,1⟩
theorem z0i1 {sp:Nat→zd} {sigs:List (Nat × Sig)} {cut:List Nat} {hints:List Hint} {sig:Sig} {f:Nat} {fn:Func} {t:T} {spec:zd} {fns:List FnI} {dep pool:Nat} (hf:Tryz.prog.funcs[f]? = some fn) (hname:(fn.name == "runtime.NumGoroutine")=false)
  (hdec:decomp (fxIn zmr sigs fn cut hints fns dep pool) sig fn=some t) (hfn:∀ g ∈ fns,zc8 Tryz.prog g) (hsig:∀ ci f s,sigs[ci]? = some (f,s)→Meets Tryz.prog (sp ci) f s) (hspec:∀ ds rs,(∀ d ∈ ds,d.ok)→spec ds=some rs→(∃ N,den sp N t ds []=some rs)∧z61 sig rs):Meets Tryz.prog spec f sig :=
 zy0 hf hname hdec zru zy6 hfn hsig hspec
theorem zcb {P:Program}:∀ g ∈ ([]:List FnI),zc8 P g:=fun g h=>by cases h
theorem z3b {P:Program} {g:FnI} {l:List FnI} {fn:Func} (h1:P.funcs[g.f]? = some fn) (h2:(fn.name == "runtime.NumGoroutine")=false) (h3:fn.body=some g.body) (h4:fn.ntmps=g.nt) (h5:fn.results.toList=g.results) (hl:∀ g ∈ l,zc8 P g):∀ x ∈ g::l,zc8 P x:=by
 intro x hx;rcases zY0i.1 hx with he|hx
 ·rw [he];exact ⟨fn,h1,h2,h3,h4,h5⟩
 ·exact hl x hx
theorem z5p {sp:Nat→zd} {sigs:List (Nat × Sig)} {cut:List Nat} {hints:List Hint} {sig:Sig} {f:Nat} {fn:Func} {t:T} {spec:zd} (hf:Tryz.prog.funcs[f]? = some fn) (hname:(fn.name == "runtime.NumGoroutine")=false)
  (hdec:decomp (fxOf zmr sigs fn cut hints [] 0) sig fn=some t) (hsig:∀ ci f s,sigs[ci]? = some (f,s)→Meets Tryz.prog (sp ci) f s) (hspec:∀ ds rs,(∀ d ∈ ds,d.ok)→spec ds=some rs→(∃ N,den sp N t ds []=some rs)∧z61 sig rs):Meets Tryz.prog spec f sig :=
 zy0 hf hname hdec zru zy6 (fun g h=>by cases h) hsig hspec
theorem z2t {P:Program} {f:Nat} {fn:Func} (h1:P.funcs[f]? = some fn) (h2:(fn.name == "runtime.NumGoroutine")=false) (h3:fn.body.isSome=true):En P f:=by
 obtain ⟨c,hc⟩:=zY2t.1 h3;exact ⟨fn,c,h1,h2,hc⟩
section
variable {P:Program} {W W':World} {F F':Nat→Prop}
theorem zkg {s:Sig} {rs:List Dt} {v:Value} {us:List Value} (hv:zpa s.res v us) (hc:∀ c ∈ zq s,c = .scal∨c = .pure) (hs:∀ (j:Nat) (d:Dt),(zq s)[j]? = some .scal→rs[j]? = some d→d.scal=true)
  (hl:rs.length=(zq s).length) (hr:Reps W' F' rs us) (hF':∀ b,F' b→F b∨(W.heap.size≤b∧b<W'.heap.size)):ResR W F W' s rs v us F' where
 val:=hv
 lrs:=hl
 lus:=by rw [← hr.len,hl]
 cells:=fun j f d u hf hd hu=>by
  obtain ⟨u',hu',hR⟩:=hr.get hd;rw [hu] at hu'
  cases hu'
  rcases hc f (zY0a hf) with rfl|rfl
  ·exact ⟨hs j d hf hd,hR⟩
  ·exact hR
 own:=hF'
 apart:=fun j e sz u b hf=>by rcases hc _ (zY0a hf) with h|h <;> cases h
 dj:=fun j j' e sz e' sz' u u' b hf=>by rcases hc _ (zY0a hf) with h|h <;> cases h
theorem zdu {α β:Type} {S:Sh β} {eS:β→List Dt} (hE:ShE S eS) {e:α→List Dt} {xs:α→List β} {pk:List PK} {t sz:Nat} {f:Nat} (hpk:z45 pk=false) (hsz:S.size=sz) (hpos:0<S.size) (hen:En P f)
  (h:∀ x W F us,(∀ b,F b→b<W.heap.size)→PKRs W F pk (e x) us→Calls P f us.toArray W fun r W'=>∃ n,z8w S t W F (xs x) n r W') :
  Meets P (z00 e fun x=>[.l sz ((xs x).map eS)]) f ⟨pk,[(false,[.fresh t sz])],false⟩:=by
 refine .mk hpk ?_;intro W F ds args rs hF hargs hsp;obtain ⟨x,rfl,rfl⟩:=z2o hsp;refine .inl ⟨hen.run _ _,(h x W F args hF.1 hargs).mono ?_⟩;rintro r W' ⟨n,v,zs,rfl,hz,hr,ho,hb⟩;subst hsz;have hag:Agree F W W':=fun b hb'=>hb.block b (hF.1 b hb')
 have hzl:zs.length=n:=by
  have h1:=ho.1;rw [z58 fun z hz=>S.len (hr z hz)] at h1;exact Nat.eq_of_mul_eq_mul_right hpos h1
 refine ⟨v,rfl,hb,[v],F,⟨⟨rfl,rfl⟩,rfl,rfl,fun j c d u hf hd hu=>?_,fun b hb=>.inl hb,fun j e' sz' u b hf hu hbl hFb=>?_,fun j j' e sz e' sz' u u' b hf hu hf' hu' _ _=>?_⟩⟩
 ·cases j with
  | succ j=>simp [zq] at hf
  | zero =>
   simp only [zq,zY1z,zY2n,zY1e,zY05,zY00] at hf hd hu;subst hf;subst hd;subst hu;refine ⟨_,flat zs,rfl,fun y hy=>?_,?_,?_⟩
   ·obtain ⟨z,_,rfl⟩:=zY2g.1 hy
    exact hE.len z
   ·rw [zY0v,← hz,zY0v,hzl];exact ho
   ·rw [← hz]
    clear ho hz hzl
    induction zs with
    | nil=>exact trivial
    | cons z zs ih =>
     simp only [flat,zY1m,zY1o];exact (hE.to (S.keep hag (hr z (zY0p ..)))).append (ih fun z hz=>hr z (zY0n _ hz))
 ·cases j with
  | succ j=>simp [zq] at hf
  | zero =>
   simp only [zY05,zY00] at hu;subst hu;have h1:=zag ho hbl;have h2:=hF.1 b hFb;omega
 ·cases j <;> cases j' <;> simp [zq] at hf hf' ⊢
theorem za4 {α:Type} {e:α→List Dt} {d:α→Dt} {pk:List PK} {f:Nat} (hpk:z45 pk=false) (hen:En P f) (hd:∀ x,(d x).scal=true)
  (h:∀ x W F us,(∀ b,F b→b<W.heap.size)→PKRs W F pk (e x) us→Calls P f us.toArray W fun r W'=>∃ v,r = .returned v∧Below W.heap.size W W'∧Rep W' (fun _=>False) (d x) v):Meets P (z00 e fun x=>[d x]) f ⟨pk,[(false,[.scal])],true⟩:=by
 refine .mk hpk ?_;intro W F ds args rs hF hargs hs;obtain ⟨x,rfl,rfl⟩:=z2o hs;refine .inl ⟨hen.run _ _,(h x W F args hF.1 hargs).mono fun e w' ⟨v,h1,h2,h3⟩=>⟨v,h1,h2,zf9 (hd x) (h3.mono (fun _ h=>h.elim) (fun _ h=>h.elim))⟩⟩
end
end
section
open Go.RowKit
section
variable {sp:Nat→zd} {N:Nat} {E:Env} {ks:List (List Dt→Option (List Dt))} {res:Option (List Dt)}
theorem z0bg {ci:Nat} {args:List Atom} {xs:List X} {ds rs:List Dt} (hx:xs=(List.range rs.length).map fun j=>.call ci args j) (h:vals E args=some ds) (hs:sp ci ds=some rs):z0i sp E xs=some rs:=hx ▸ zrr h hs
theorem z6a {a b:Atom} {m n:Int} (ha:a.val E=some (I m)) (hb:b.val E=some (I n)) (h : -9223372036854775808≤m+n∧m+n≤9223372036854775807):denX sp E (.bin .add a b)=some (I (m+n)):=by
 have e:denX sp E (.bin .add a b)=some (I (IntKind.i64.wrap (m+n))):=by simp only [denX,ha,hb,zY09,zY06];rfl
 rw [e,wrap_i64 h]
end
section
variable {sp:Nat→zd} {N:Nat} {E:Env} {ks:List (List Dt→Option (List Dt))} {res:Option (List Dt)}
theorem z0kx {a b:Atom} {m n:Int} (ha:a.val E=some (I m)) (hb:b.val E=some (I n)) (h:m=n):denX sp E (.bin .neq a b)=some (.b false):=by
 have e:denX sp E (.bin .neq a b)=some (.b (!decide (m=n))):=by simp only [denX,ha,hb,zY09,zY06];rfl
 rw [e,decide_eq_true h];rfl
theorem z0j {a:Atom} {t e:T} (h:a.val E=some (.b true)) (ht:den sp N t E ks=res):den sp N (.ite a t e) E ks=res:=z1d h (fun _=>ht) (fun h=>by cases h)
theorem z0o {a:Atom} {t e:T} (h:a.val E=some (.b false)) (he:den sp N e E ks=res):den sp N (.ite a t e) E ks=res:=z1d h (fun h=>by cases h) (fun _=>he)
theorem z21 {a:Atom} {sz:Nat} {xs:List (List Dt)} {n:Int} (ha:a.val E=some (.l sz xs)) (h:(xs.length:Int)=n):denX sp E (.len a)=some (I n):=by
 simp only [denX,ha];rw [h]
end
section
variable {sp:Nat→zd} {N:Nat} {E:Env} {ks:List (List Dt→Option (List Dt))} {res:Option (List Dt)}
theorem z0ky {a b:Atom} {m n:Int} (ha:a.val E=some (I m)) (hb:b.val E=some (I n)) (h : -9223372036854775808≤m - n∧m - n≤9223372036854775807):denX sp E (.bin .sub a b)=some (I (m - n)):=by
 have e:denX sp E (.bin .sub a b)=some (I (IntKind.i64.wrap (m - n))):=by simp only [denX,ha,hb,zY09,zY06];rfl
 rw [e,wrap_i64 h]
theorem zed {a b:Atom} {m n:Int} (ha:a.val E=some (I m)) (hb:b.val E=some (I n)) (h : -9223372036854775808≤m * n∧m * n≤9223372036854775807):denX sp E (.bin .mul a b)=some (I (m * n)):=by
 have e:denX sp E (.bin .mul a b)=some (I (IntKind.i64.wrap (m * n))):=by simp only [denX,ha,hb,zY09,zY06];rfl
 rw [e,wrap_i64 h]
theorem zph {a b:Atom} {m n:Int} (ha:a.val E=some (I m)) (hb:b.val E=some (I n)) (h:n≠0):denX sp E (.bin .rem a b)=some (I (m.tmod n)):=by
 have e:denX sp E (.bin .rem a b)=(if n=0 then none else some (I (m.tmod n))):=by simp only [denX,ha,hb,zY09,zY06];rfl
 rw [e,if_neg h]
theorem zy7 {F:(List Dt→Option (List Dt))→List Dt→Option (List Dt)} {σ:Type} {st:σ→List Dt} {Inv:σ→Prop} {μ:σ→Nat} (step:∀ s,Inv s→∀ again,(∀ s',Inv s'→μ s'<μ s→again (st s')=res)→F again (st s)=res):∀ (N:Nat) (s:σ),Inv s→μ s<N→z01 F N (st s)=res
 | 0,s,_,h=>absurd h (Nat.not_lt_zero _)
 | N+1,s,hi,h=>step s hi _ fun s' h1 h2=>zy7 step N s' h1 (by omega)
theorem zh0 {ats:List Atom} {body:T} {σ:Type} (st:σ→List Dt) (Inv:σ→Prop) (μ:σ→Nat) (s0:σ) (h:vals E ats=some (st s0)) (h0:Inv s0) (hN:μ s0<N)
  (step:∀ s,Inv s→∀ again:List Dt→Option (List Dt),(∀ s',Inv s'→μ s'<μ s→again (st s')=res)→den sp N body (E++st s) (ks++[again])=res):den sp N (.loop ats body) E ks=res :=
 z0n h (zy7 (F:=fun again ds=>den sp N body (E++ds) (ks++[again])) step N s0 h0 hN)
end
theorem z04 {pk:List PK} {l:Bool} {d:Dt} (h:d.scal=true):z61 ⟨pk,[(false,[.scal])],l⟩ [d]:=by
 intro i x hi hd
 match i,hi,hd with
 | 0,_,hd=>simp only [zY05,zY00] at hd;subst hd;exact h
 | i+1,_,hd=>simp at hd
theorem zfa {pk:List PK} {l:Bool} {d d':Dt} (h:d.scal=true) (h':d'.scal=true):z61 ⟨pk,[(false,[.scal]),(false,[.scal])],l⟩ [d,d']:=by
 intro i x hi hd
 match i,hi,hd with
 | 0,_,hd=>simp only [zY05,zY00] at hd;subst hd;exact h
 | 1,_,hd=>simp only [zY05,zY24,zY00] at hd;subst hd;exact h'
 | i+2,_,hd=>simp at hd
theorem z06n {s:Sig} {ds:List Dt} (h:∀ c ∈ zq s,c.isScal=false):z61 s ds:=by
 intro i x hi hd;have:=h _ (zY0a hi)
 cases this
end
end Go.Proofs.YtaddehddalnliaaGreatDoor
noncomputable section
namespace Go.Proofs.YtaddehddalnliaaGreatDoor
open Go.RowKit
inductive Tri (α:Type) where
 | lf (x:α)
 | nd (n:Nat) (l r:Tri α)
 | em
def Tri.get {α:Type} (t:Tri α):Nat→Option α :=
 Tri.rec (motive:=fun _=>Nat→Option α) (fun x i=>Nat.rec (motive:=fun _=>Option α) (some x) (fun _ _=>none) i) (fun n _ _ gl gr i=>Bool.rec (motive:=fun _=>Option α) (gr (Nat.sub i n)) (gl i) (Nat.blt i n)) (fun _=>none) t
def Tri.set {α:Type} (t:Tri α):Nat→α→Tri α :=
 Tri.rec (motive:=fun _=>Nat→α→Tri α) (fun x i v=>Nat.rec (motive:=fun _=>Tri α) (.lf v) (fun _ _=>.lf x) i) (fun n l r sl sr i v=>Bool.rec (motive:=fun _=>Tri α) (.nd n l (sr (Nat.sub i n) v)) (.nd n (sl i v) r) (Nat.blt i n)) (fun _ _=>.em) t
def Tri.any {α:Type} (f:α→Bool) (t:Tri α):Bool:=Tri.rec (motive:=fun _=>Bool) (fun x=>f x) (fun _ _ _ a b=>Bool.rec (motive:=fun _=>Bool) b true a) false t
def Tri.all {α:Type} (f:α→Bool) (t:Tri α):Bool:=Tri.rec (motive:=fun _=>Bool) (fun x=>f x) (fun _ _ _ a b=>Bool.rec (motive:=fun _=>Bool) false b a) true t
def Tri.map {α β:Type} (f:α→β) (t:Tri α):Tri β:=Tri.rec (motive:=fun _=>Tri β) (fun x=>.lf (f x)) (fun n _ _ a b=>.nd n a b) .em t
def Tri.all2 {α:Type} (f:α→α→Bool) (t:Tri α):Tri α→Bool :=
 Tri.rec (motive:=fun _=>Tri α→Bool) (fun x u=>Tri.rec (motive:=fun _=>Bool) (fun y=>f x y) (fun _ _ _ _ _=>false) false u) (fun n _ _ a b u=>Tri.rec (motive:=fun _=>Bool) (fun _=>false) (fun m l r _ _=>Bool.rec (motive:=fun _=>Bool) false (Bool.rec (motive:=fun _=>Bool) false (b r) (a l)) (Nat.beq n m)) false u) (fun u=>Tri.rec (motive:=fun _=>Bool) (fun _=>false) (fun _ _ _ _ _=>false) true u) t
def Tri.size {α:Type} (t:Tri α):Nat:=Tri.rec (motive:=fun _=>Nat) (fun _=>1) (fun n _ _ _ b=>Nat.add n b) 0 t
def Tri.rep {α:Type} (x:α):Nat→Nat→Tri α
 | 0,_=>.em
 | d+1,n=>match n with
  | 0=>.em
  | 1=>.lf x
  | n=>.nd (n / 2) (Tri.rep x d (n / 2)) (Tri.rep x d (n - n / 2))
def Tri.puts {α:Type}:Nat→List α→Tri α→Tri α
 | _,[],t=>t
 | i,x::xs,t=>Tri.puts (i+1) xs (t.set i x)
def zcc {α:Type} (τ:Tri SV) (ω:Tri (Option Ob)) (m:Rd α):Option α :=
 Rd.rec (motive:=fun _=>Option α) (fun a=>some a) none (fun i _ ih=>Option.rec (motive:=fun _=>Option α) none (fun x=>ih x) (τ.get i)) (fun i _ ih=>Option.rec (motive:=fun _=>Option α) none (fun x=>ih x) (ω.get i)) m
def zy8 {α:Type} (τ:Tri SV) (ω:Tri (Option Ob)) (m:Rd α):List Loc :=
 Rd.rec (motive:=fun _=>List Loc) (fun _=>[]) [] (fun i _ ih=>Option.rec (motive:=fun _=>List Loc) [] (fun x=>.t i::ih x) (τ.get i)) (fun i _ ih=>Option.rec (motive:=fun _=>List Loc) [] (fun x=>.o i::ih x) (ω.get i)) m
structure SF where
 τ:Tri SV
 ω:Tri (Option Ob)
 n:Nat
 lvl:Nat
 kn:List (Nat × Bool)
 kb:Nat
 σ:List (Tri SV)
def fN {β:Type} (n:Nat) (k:Nat→β):β:=Nat.rec (motive:=fun _=>β) (k 0) (fun m _=>k (Nat.succ m)) n
def fL {α β:Type} (f:α→(α→β)→β) (l:List α):(List α→β)→β:=List.rec (motive:=fun _=>(List α→β)→β) (fun k=>k []) (fun x _ ih k=>f x fun x=>ih fun xs=>k (x::xs)) l
def fA {β:Type} (a:Atom) (k:Atom→β):β:=match a with
 | .v n=>fN n fun n=>k (.v n)
 | .c l=>k (.c l)
def fOp {β:Type} (o:Option Atom) (k:Option Atom→β):β:=match o with
 | none=>k none
 | some a=>fA a fun a=>k (some a)
def fPr {β:Type} (p:Atom × Atom) (k:Atom × Atom→β):β:=fA p.1 fun a=>fA p.2 fun b=>k (a,b)
def fX {β:Type} (x:X) (k:X→β):β:=match x with
 | .bin op a b=>fA a fun a=>fA b fun b=>k (.bin op a b)
 | .eqs n ps=>fL fPr ps fun ps=>k (.eqs n ps)
 | .beq n a b=>fA a fun a=>fA b fun b=>k (.beq n a b)
 | .not a=>fA a fun a=>k (.not a)
 | .neg a=>fA a fun a=>k (.neg a)
 | .conv c a=>fA a fun a=>k (.conv c a)
 | .len a=>fA a fun a=>k (.len a)
 | .slen a=>fA a fun a=>k (.slen a)
 | .inr s a i=>fN s fun s=>fA a fun a=>fA i fun i=>k (.inr s a i)
 | .idx a i j=>fA a fun a=>fA i fun i=>fN j fun j=>k (.idx a i j)
 | .sub s a l h=>fN s fun s=>fA a fun a=>fOp l fun l=>fOp h fun h=>k (.sub s a l h)
 | .mk s r=>fN s fun s=>fL (fL fA) r fun r=>k (.mk s r)
 | .app s a b=>fN s fun s=>fA a fun a=>fA b fun b=>k (.app s a b)
 | .set a i j vs=>fA a fun a=>fA i fun i=>fN j fun j=>fL fA vs fun vs=>k (.set a i j vs)
 | .ite c a b=>fA c fun c=>fA a fun a=>fA b fun b=>k (.ite c a b)
 | .scal a=>fA a fun a=>k (.scal a)
 | .call c l j=>fN c fun c=>fL fA l fun l=>fN j fun j=>k (.call c l j)
 | .sel l i=>fL fA l fun l=>fA i fun i=>k (.sel l i)
 | .ssub a l h=>fA a fun a=>fOp l fun l=>fOp h fun h=>k (.ssub a l h)
 | .mkz s z a=>fN s fun s=>fA a fun a=>k (.mkz s z a)
 | .mn a b=>fA a fun a=>fA b fun b=>k (.mn a b)
 | .ise n a=>fA a fun a=>k (.ise n a)
 | .mget z a i j=>fA a fun a=>fA i fun i=>fN j fun j=>k (.mget z a i j)
 | .mhas a i=>fA a fun a=>fA i fun i=>k (.mhas a i)
 | .mput v a i l=>fN v fun v=>fA a fun a=>fA i fun i=>fL fA l fun l=>k (.mput v a i l)
def fNN {β:Type} (p:Nat × Nat) (k:Nat × Nat→β):β:=fN p.1 fun a=>fN p.2 fun b=>k (a,b)
def fC {β:Type} (c:C1) (k:C1→β):β:=match c with
 | .top=>k .top
 | .und=>k .und
 | .at a=>fA a fun a=>k (.at a)
 | .bp a b=>fN a fun a=>fN b fun b=>k (.bp a b)
 | .ep a i o=>fA a fun a=>fA i fun i=>fN o fun o=>k (.ep a i o)
 | .row a=>fN a fun a=>k (.row a)
 | .rp a i s o=>fN a fun a=>fA i fun i=>fN s fun s=>fN o fun o=>k (.rp a i s o)
 | .fn f cs=>fN f fun f=>fL fNN cs fun cs=>k (.fn f cs)
def fBl {β:Type} (b:Bool) (k:Bool→β):β:=match b with
 | true=>k true
 | false=>k false
def fPt {β:Type} (p:Bool × List C1) (k:Bool × List C1→β):β:=fBl p.1 fun a=>fL fC p.2 fun b=>k (a,b)
def fV {β:Type} (v:SV) (k:SV→β):β:=match v with
 | .one c=>fC c fun c=>k (.one c)
 | .agg cs=>fL fC cs fun cs=>k (.agg cs)
 | .tup ps=>fL fPt ps fun ps=>k (.tup ps)
def fO {β:Type} (o:Option Ob) (k:Option Ob→β):β:=match o with
 | none=>k none
 | some (.box t cs)=>fN t fun t=>fL fC cs fun cs=>k (some (.box t cs))
 | some (.ext cs)=>fL fC cs fun cs=>k (some (.ext cs))
 | some (.row e s a)=>fN e fun e=>fN s fun s=>fA a fun a=>k (some (.row e s a))
 | some (.frz a)=>fA a fun a=>k (some (.frz a))
 | some .dead=>k (some .dead)
 | some (.gone a)=>fA a fun a=>k (some (.gone a))
 | some (.map t v g a)=>fN t fun t=>fN v fun v=>fBl g fun g=>fA a fun a=>k (some (.map t v g a))
def fW {β:Type} (w:Wr) (k:Wr→β):β:=match w with
 | .t i v=>fN i fun i=>fV v fun v=>k (.t i v)
 | .o i v=>fN i fun i=>fO v fun v=>k (.o i v)
def fE {β:Type} (e:Eff) (k:Eff→β):β:=fL fX e.xs fun xs=>fL fX e.ck fun ck=>fL fW e.ws fun ws=>k ⟨xs,ck,ws⟩
def fLo {β:Type} (l:Loc) (k:Loc→β):β:=match l with
 | .t i=>fN i fun i=>k (.t i)
 | .o i=>fN i fun i=>k (.o i)
namespace Fast
def fK {β:Type} (l:List (Nat × Bool)) (k:List (Nat × Bool)→β):β:=match l with
 | []=>k []
 | (a,b)::r=>fN a fun a=>k ((a,b)::r)
def wrT (τ:Tri SV) (ω:Tri (Option Ob)):List Wr→Tri SV × Tri (Option Ob)
 | []=>(τ,ω)
 | .t i v::ws=>wrT (τ.set i v) ω ws
 | .o i v::ws=>wrT τ (ω.set i v) ws
def guardOf (ops:List Oper) (s:SF) (o:Oper):Gd:=match o.guard with
 | none=>.yes
 | some (j,want)=>match (ops[j]?).bind (·.dst) with
  | none=>.fail
  | some d=>match s.τ.get d with
   | some (.one .und)=>.no
   | some (.one (.at a))=>match evB s.kn a with
    | some b=>if b=want then .yes else .no
    | none=>match a with
     | .v v=>.ask v
     | _=>.fail
   | _=>.fail
def regDo (cx:Cx) (nt:Nat) (ops:List Oper) (o:Oper) (s:SF) (k:SF→Rec→Option T):Option T :=
 let m:=zo cx s.kb s.n nt s.kn o
 match zcc s.τ s.ω m with
 | none=>none
 | some e=>fE e fun e=>fN (s.n+e.xs.length) fun n=>fL fLo (z6o ops o++zy8 s.τ s.ω m) fun lg =>
  let p:=wrT s.τ s.ω e.ws
  fK (zp4 cx s.n e.xs s.kn) fun kn =>
  match k { s with τ:=p.1,ω:=p.2,n:=n,kn:=kn } ⟨o,s.n,s.kn,true,e,lg⟩ with
  | none=>none
  | some t=>some (zx6 e t)
def regSkip (ops:List Oper) (o:Oper) (s:SF) (k:SF→Rec→Option T):Option T :=
 let e:Eff:=⟨[],[],zw o (.one .und)⟩
 let p:=wrT s.τ s.ω e.ws
 k { s with τ:=p.1,ω:=p.2 } ⟨o,s.n,s.kn,false,e,z6o ops o⟩
def learn (s:SF) (v:Nat) (b:Bool):SF:={ s with kn:=if Nat.ble knB v=true then s.kn else (v,b)::s.kn }
def regRun (cx:Cx) (nt:Nat) (ops:List Oper):List Oper→SF→List Rec→(SF→List Rec→Option T)→Option T
 | [],s,rs,k=>k s rs
 | o::rest,s,rs,k =>
  match guardOf ops s o with
  | .yes=>regDo cx nt ops o s fun s r=>regRun cx nt ops rest s (rs++[r]) k
  | .no=>regSkip ops o s fun s r=>regRun cx nt ops rest s (rs++[r]) k
  | .ask v =>
   let want:=match o.guard with|some (_,w)=>w|none=>true
   match regDo cx nt ops o (learn s v want) (fun s r=>regRun cx nt ops rest s (rs++[r]) k),regSkip ops o (learn s v (!want)) (fun s r=>regRun cx nt ops rest s (rs++[r]) k) with
   | some t,some e=>some (if want then .ite (.v v) t e else .ite (.v v) e t)
   | _,_=>none
  | .fail=>none
abbrev S3:=Tri SV × Tri (Option Ob) × List (Tri SV)
def renKey (k i:Nat) (p:S3):S3:=match p.2.1.get k,p.2.1.get i with
 | some (some o),some none=>if k=i then p else (p.1.map (SV.ren k i),((p.2.1.set k none).set i (some o)).map (Option.map (Ob.ren k i)),p.2.2.map (Tri.map (SV.ren k i)))
 | _,_=>p
def noRef (k:Nat) (τ:Tri SV) (ω:Tri (Option Ob)) (σ:List (Tri SV)):Bool:=!τ.any (SV.refs k) && (!ω.any fun o=>match o with
 | some o=>o.refs k
 | none=>false) && !σ.any (Tri.any (SV.refs k))
def topAll (τ:Tri SV):List Nat→Tri SV
 | []=>τ
 | i::is=>topAll (τ.set i (.one .top)) is
def dropAll (τ:Tri SV) (ω:Tri (Option Ob)) (σ:List (Tri SV)):List Nat→Tri (Option Ob)
 | []=>ω
 | k::ks=>match ω.get k with
  | some (some _)=>if noRef k τ ω σ then dropAll τ (ω.set k none) σ ks else dropAll τ ω σ ks
  | _=>dropAll τ ω σ ks
def rowKey (kb i e sz:Nat) (p:S3):S3 :=
 match p.1.get i with
 | some (.one (.at (.c (.nil z))))=>match p.2.1.get (kb+i) with
  | some none=>if z=sz then (p.1.set i (.one (.row (kb+i))),p.2.1.set (kb+i) (some (.row e sz (.c (.nil sz)))),p.2.2) else p
  | _=>p
 | some (.one (.row k))=>renKey k (kb+i) p
 | _=>p
def cellKey (k j key:Nat) (p:S3):S3:=match p.2.1.get (k) with
 | some (some (.box _ cs))=>match cs[j]? with
  | some (.row q)=>renKey q key p
  | _=>p
 | _=>p
def nilKey (k j key e sz:Nat) (p:S3):S3:=match p.2.1.get k with
 | some (some (.box t cs))=>match cs[j]? with
  | some (.at (.c (.nil z)))=>match p.2.1.get key with
   | some none=>if z=sz then (p.1,(p.2.1.set key (some (.row e sz (.c (.nil sz))))).set k (some (.box t (cs.set j (.row key)))),p.2.2) else p
   | _=>p
  | _=>p
 | _=>p
def rowKeys (kb:Nat) (p:S3):List Cy→S3
 | []=>p
 | .n k j key e sz::cs=>rowKeys kb (nilKey k j key e sz p) cs
 | .r i e sz::cs=>rowKeys kb (rowKey kb i e sz p) cs
 | .c k j key::cs=>rowKeys kb (cellKey k j key p) cs
 | _::cs=>rowKeys kb p cs
def normS (ds:List Nat) (cy:List Cy) (s:SF):S3 :=
 let keep:=cyT cy
 let τ:=topAll s.τ ((ds.filter fun d => !keep.contains d)++cyZ cy)
 let ω:=dropAll τ s.ω s.σ (List.range s.ω.size)
 rowKeys s.kb (τ,ω,s.σ) cy
def genL (kb n:Nat) (τ:Tri SV) (ω:Tri (Option Ob)):Cy→(Tri SV × Tri (Option Ob)) × List Atom
 | .t i=>match τ.get i with
  | some (.one (.at a))=>((τ.set i (.one (.at (.v n))),ω),[a])
  | some (.agg cs)=>let r:=zp5 n cs;((τ.set i (.agg r.1),ω),r.2)
  | _=>((τ,ω),[])
 | .r i _ _=>match ω.get (kb+i) with
  | some (some (.row e sz a))=>((τ,ω.set (kb+i) (some (.row e sz (.v n)))),[a])
  | _=>((τ,ω),[])
 | .o k | .c _ _ k=>match ω.get k with
  | some (some (.row e sz a))=>((τ,ω.set k (some (.row e sz (.v n)))),[a])
  | some (some (.box t cs))=>let r:=zp5 n cs;((τ,ω.set k (some (.box t r.1))),r.2)
  | some (some (.map t vs g a))=>((τ,ω.set k (some (.map t vs g (.v n)))),[a])
  | _=>((τ,ω),[])
 | .z _ | .n .. => ((τ,ω),[])
def gen (kb n:Nat) (τ:Tri SV) (ω:Tri (Option Ob)):List Cy→(Tri SV × Tri (Option Ob)) × List Atom
 | []=>((τ,ω),[])
 | c::cs =>
  let p:=genL kb n τ ω c
  let q:=gen kb (n+p.2.length) p.1.1 p.1.2 cs
  (q.1,p.2++q.2)
def oT (m:Nat):Option Ob→Bool
 | some o=>inO m o
 | none=>true
def bqA (a b:Atom):Bool:=match a,b with
 | .v n,.v m=>Nat.beq n m
 | .c x,.c y=>decide (x=y)
 | _,_=>false
def bqP:List (Nat × Nat)→List (Nat × Nat)→Bool
 | [],[]=>true
 | (a,b)::r,(c,d)::s=>Nat.beq a c && Nat.beq b d && bqP r s
 | _,_=>false
def bqC (a b:C1):Bool:=match a,b with
 | .top,.top=>true
 | .und,.und=>true
 | .at a,.at b=>bqA a b
 | .bp a b,.bp c d=>Nat.beq a c && Nat.beq b d
 | .ep a i o,.ep a' i' o'=>bqA a a' && bqA i i' && Nat.beq o o'
 | .row a,.row b=>Nat.beq a b
 | .rp a i s o,.rp a' i' s' o'=>Nat.beq a a' && bqA i i' && Nat.beq s s' && Nat.beq o o'
 | .fn f cs,.fn g ds=>Nat.beq f g && bqP cs ds
 | _,_=>false
def bqCs:List C1→List C1→Bool
 | [],[]=>true
 | a::r,b::s=>bqC a b && bqCs r s
 | _,_=>false
def bqB (a b:Bool):Bool:=match a with
 | true=>b
 | false => !b
def bqPs:List (Bool × List C1)→List (Bool × List C1)→Bool
 | [],[]=>true
 | (a,b)::r,(c,d)::s=>bqB a c && bqCs b d && bqPs r s
 | _,_=>false
def bqV (a b:SV):Bool:=match a,b with
 | .one a,.one b=>bqC a b
 | .agg a,.agg b=>bqCs a b
 | .tup a,.tup b=>bqPs a b
 | _,_=>false
def bqO (a b:Option Ob):Bool:=match a,b with
 | none,none=>true
 | some (.box t c),some (.box t' c')=>Nat.beq t t' && bqCs c c'
 | some (.ext c),some (.ext c')=>bqCs c c'
 | some (.row e s a),some (.row e' s' a')=>Nat.beq e e' && Nat.beq s s' && bqA a a'
 | some (.frz a),some (.frz a')=>bqA a a'
 | some .dead,some .dead=>true
 | some (.gone a),some (.gone a')=>bqA a a'
 | some (.map t v g a),some (.map t' v' g' a')=>Nat.beq t t' && Nat.beq v v' && bqB g g' && bqA a a'
 | _,_=>false
def bqS:List (Tri SV)→List (Tri SV)→Bool
 | [],[]=>true
 | a::r,b::s=>Tri.all2 bqV a b && bqS r s
 | _,_=>false
def sameS (n:Nat) (as0:List Atom) (σ:List (Tri SV)) (τ:Tri SV) (ω:Tri (Option Ob)) (τ':Tri SV) (ω':Tri (Option Ob)) (σ':List (Tri SV)):Bool :=
 bqS σ' σ && σ.all (Tri.all (inV (n+as0.length))) && bqS (σ.map (Tri.map (sbV n as0))) σ &&
 τ.all (inV (n+as0.length)) && ω.all (oT (n+as0.length)) && Tri.all2 bqV (τ.map (sbV n as0)) τ' && Tri.all2 bqO (ω.map (Option.map (sbO n as0))) ω'
def inlOf (fx:Fx) (s:SF) (o:Oper):Option (FnI × List SV):=match o.op with
 | .call c=>match c.callee with
  | .value fx'=>match zcc s.τ s.ω (evC fx.cx 0 fx') with
   | some (.fn f caps)=>match zc1 f fx.fns with
    | some g=>match zcc s.τ s.ω (zad fx.cx c.args.toList c.argTypes.toList) with
     | some vs=>some (g,vs++caps.map fun p=>.one (.bp p.1 p.2))
     | none=>none
    | none=>none
   | _=>none
  | _=>none
 | _=>none
def freeKey (ω:Tri (Option Ob)):Nat→Nat→Option Nat
 | 0,_=>none
 | m+1,k=>match ω.get k with
  | some none=>some k
  | some (some _)=>freeKey ω m (k+1)
  | none=>none
def toPool (pool:Nat) (p:S3):List Nat→S3
 | []=>p
 | k::ks=>match p.2.1.get k with
  | some (some _)=>match freeKey p.2.1 100 pool with
   | some i=>toPool pool (renKey k i p) ks
   | none=>toPool pool p ks
  | _=>toPool pool p ks
abbrev Inl:=Fx→FnI→List SV→Oper→SF→(SF→Option T)→Option T
def z0ox:Inl:=fun _ _ _ _ _ _=>none
def seqRun (inl:Inl) (fx:Fx) (ops:List Oper):List Oper→SF→(SF→Option T)→Option T
 | [],s,k=>k s
 | o::rest,s,k =>
  let go:SF→Option T:=fun s=>match inlOf fx s o with
   | some (g,vs)=>inl fx g vs o s fun s=>seqRun inl fx ops rest s k
   | none=>regDo fx.cx fx.nt ops o s fun s _=>seqRun inl fx ops rest s k
  match guardOf ops s o with
  | .yes=>go s
  | .no=>regSkip ops o s fun s _=>seqRun inl fx ops rest s k
  | .ask v =>
   let want:=match o.guard with|some (_,w)=>w|none=>true
   match go (learn s v want),regSkip ops o (learn s v (!want)) (fun s _=>seqRun inl fx ops rest s k) with
   | some t,some e=>some (if want then .ite (.v v) t e else .ite (.v v) e t)
   | _,_=>none
  | .fail=>none
def segRun (inl:Inl) (fx:Fx) (ops:List Oper) (an:List (List Nat)):Nat→Nat→SF→(SF→Option T)→Option T
 | 0,_,_,_=>none
 | m+1,off,s,k=>match zc2 fx.fns an ops.length (ops.drop off) off with
  | some i=>match ops[i]? with
   | some o'=>if zxc an i ops.length && o'.guard.isNone && Nat.ble off i then
     regRun fx.cx fx.nt ops ((ops.drop off).take (i - off)) s [] fun s' rs=>if z8p an off rs then (match inlOf fx s' o' with
      | some (g,vs)=>inl fx g vs o' s' fun s2=>segRun inl fx ops an m (i+1) s2 k
      | none=>regDo fx.cx fx.nt ops o' s' fun s2 _=>segRun inl fx ops an m (i+1) s2 k) else none
    else none
   | none=>none
  | none=>regRun fx.cx fx.nt ops (ops.drop off) s [] fun s' rs=>if z8p an off rs then k s' else none
def exec (inl:Inl) (fx:Fx):Code→SF→(Ex→SF→Option T)→Option T
 | .skip,s,k=>k .normal s
 | .label _,s,k=>k .normal s
 | .region _ ops draw,s,k=>if draw=false then seqRun inl fx ops.toList ops.toList s fun s'=>k .normal s' else
  if zb8 0 ops.toList=false then none else
  segRun inl fx ops.toList (z46 ops.toList []) 40 0 s fun s'=>k .normal s'
 | .seq a b,s,k=>exec inl fx a s fun e s'=>match e with
  | .normal=>exec inl fx b s' k
  | e=>k e s'
 | .cond c x y,s,k=>match zcc s.τ s.ω (evA fx.cx 0 c) with
  | none=>none
  | some a=>match evB s.kn a with
   | some true=>exec inl fx x s k
   | some false=>exec inl fx y s k
   | none=>match a with
    | .v v=>match exec inl fx x (learn s v true) k,exec inl fx y (learn s v false) k with
     | some t,some e=>some (.ite (.v v) t e)
     | _,_=>none
    | _=>none
 | .block id b,s,k=>exec inl fx b s fun e s'=>match e with
  | .exit j=>if j=id then k .normal s' else k (.exit j) s'
  | e=>k e s'
 | .exit id,s,k=>k (.exit id) s
 | .ret,s,k=>k .ret s
 | .loop b,s,k =>
  let cy:=zu b fx.hints
  let ds:=z0s b
  let p:=normS ds cy s
  let g:=gen s.kb s.n p.1 p.2.1 cy
  let n:=s.n
  if sameS n g.2 p.2.2 g.1.1 g.1.2 p.1 p.2.1 p.2.2 then
   match exec inl fx b { s with τ:=g.1.1,ω:=g.1.2,n:=n+g.2.length,lvl:=s.lvl+1,σ:=p.2.2 } (fun e s'=>match e with
    | .normal =>
     let p':=normS ds cy s'
     let g':=gen s.kb n p'.1 p'.2.1 cy
     if s'.kb=s.kb∧g'.2.length=g.2.length∧sameS n g'.2 p.2.2 g.1.1 g.1.2 p'.1 p'.2.1 p'.2.2 then some (.again s.lvl g'.2) else none
    | e=>k e s') with
   | some t=>some (.loop g.2 t)
   | none=>none
  else none
 | _,_,_=>none
def rowArgs (z:List Nat) (τ:Tri SV) (o:Oper):List Nat:=cutZ z++match o.op with
 | .call c=>c.args.toList.filterMap fun x=>match x with
  | .tmp t=>match τ.get t with
   | some (.one (.row _))=>some t
   | _=>none
  | _=>none
 | _=>[]
def inlD:Nat→Inl
 | 0,_,_,_,_,_,_=>none
 | d+1,fx,g,vs,o,s,k =>
  if g.nt<vs.length∨2048<g.nt then none else
  exec (inlD d) { fx with cx:={ fx.cx with cut:=g.cut },nt:=g.nt,hints:=g.hints } g.body { s with τ:=Tri.puts 0 vs (Tri.rep (.one .und) 12 g.nt),kb:=s.kb+fx.mul * fx.nt,σ:=topAll s.τ (rowArgs fx.cx.cut s.τ o)::s.σ } fun e s2=>match e with
   | .exit _=>none
   | _=>match zcc s2.τ s2.ω (z7c fx.cx g.results) with
    | none=>none
    | some svs=>match zae svs with
     | none=>none
     | some sv =>
      match s2.σ with
      | []=>none
      | τ0::σ0=>if Nat.beq τ0.size s.τ.size=false then none else
      let p:=wrT τ0 s2.ω (zw o sv)
      let ω:=dropAll p.1 p.2 σ0 (List.range p.2.size)
      let q:=toPool fx.pool (p.1,ω,σ0) (List.range' (s.kb+fx.mul * fx.nt) (fx.mul * g.nt))
      k { s2 with τ:=q.1,ω:=q.2.1,σ:=q.2.2,kb:=s.kb }
def initS (sig:Sig) (nt cap:Nat):SF :=
 let r:=z02 0 cap sig.args
 ⟨Tri.puts 0 r.1 (Tri.rep (.one .und) 12 nt),Tri.puts cap (r.2.1.map some) (Tri.rep none 14 (cap+r.2.1.length)),r.2.2,0,[],0,[]⟩
def outOf (cx:Cx) (sig:Sig) (rs:List ResultVar) (s:SF):Option T:=do
 let vs ← zcc s.τ s.ω (z7c cx rs)
 let p ← zcc s.τ s.ω (zim sig.res vs)
 let ks:=p.filterMap (·.2.1)
 let qs:=p.filterMap (·.2.2)
 if z8e ks && ks.all (fun k => !qs.contains k) then some (.ret (p.map (·.1))) else none
def fT {β:Type} (t:T) (k:T→β):β:=match t with
 | .ret l=>fL fA l fun l=>k (.ret l)
 | .lets xs ck t=>fL fX xs fun xs=>fL fX ck fun ck=>fT t fun t=>k (.lets xs ck t)
 | .ite a t e=>fA a fun a=>fT t fun t=>fT e fun e=>k (.ite a t e)
 | .loop l b=>fL fA l fun l=>fT b fun b=>k (.loop l b)
 | .again n l=>fN n fun n=>fL fA l fun l=>k (.again n l)
def decomp (fx:Fx) (sig:Sig) (fn:Func):Option T :=
 if (fx.nt≠fn.ntmps∨fn.ntmps<sig.args.length)∨z45 sig.args=true∨2048<fn.ntmps∨8192<fx.cap+(z02 0 fx.cap sig.args).2.1.length∨fn.ntmps<(z02 0 fx.cap sig.args).1.length then none else
 match fn.body with
 | none=>none
 | some c=>exec (inlD fx.dep) fx c (initS sig fn.ntmps fx.cap) fun e s=>match e with
  | .exit _=>none
  | _=>outOf fx.cx sig fn.results.toList s
def decompN (fx:Fx) (sig:Sig) (fn:Func):Option T:=match decomp fx sig fn with
 | none=>none
 | some t=>fT t some
end Fast
end Go.Proofs.YtaddehddalnliaaGreatDoor
namespace Go.Proofs.YtaddehddalnliaaGreatDoor
section
open Go.RowKit
def Tri.toL {α:Type}:Tri α→List α
 | .lf x=>[x]
 | .nd _ l r=>l.toL++r.toL
 | .em=>[]
def Tri.wf {α:Type}:Tri α→Prop
 | .lf _=>True
 | .nd n l r=>l.toL.length=n∧l.wf∧r.wf
 | .em=>True
section
variable {α β:Type}
theorem Tri.get_nd (n:Nat) (l r:Tri α) (i:Nat):(Tri.nd n l r).get i=if i<n then l.get i else r.get (i - n):=by
 show Bool.rec (motive:=fun _=>Option α) (r.get (i - n)) (l.get i) (Nat.blt i n)=_
 by_cases h:i<n
 ·rw [if_pos h,show Nat.blt i n=true from Nat.ble_eq_true_of_le h]
 ·rw [if_neg h]
  have:Nat.blt i n=false:=by
   cases hb:Nat.blt i n with
   | false=>rfl
   | true=>exact absurd (Nat.le_of_ble_eq_true hb) h
  rw [this]
theorem Tri.set_nd (n:Nat) (l r:Tri α) (i:Nat) (v:α):(Tri.nd n l r).set i v=if i<n then .nd n (l.set i v) r else .nd n l (r.set (i - n) v):=by
 show Bool.rec (motive:=fun _=>Tri α) (.nd n l (r.set (i - n) v)) (.nd n (l.set i v) r) (Nat.blt i n)=_
 by_cases h:i<n
 ·rw [if_pos h,show Nat.blt i n=true from Nat.ble_eq_true_of_le h]
 ·rw [if_neg h]
  have:Nat.blt i n=false:=by
   cases hb:Nat.blt i n with
   | false=>rfl
   | true=>exact absurd (Nat.le_of_ble_eq_true hb) h
  rw [this]
theorem Tri.get_eq:∀ {t:Tri α} (h:t.wf) (i:Nat),t.get i=t.toL[i]?
 | .lf x,_,0=>rfl
 | .lf x,_,i+1=>rfl
 | .em,_,i=>rfl
 | .nd n l r,⟨h1,h2,h3⟩,i=>by
  rw [Tri.get_nd,Tri.toL]
  by_cases h:i<n
  ·rw [if_pos h,zY0o (by omega),Tri.get_eq h2]
  ·rw [if_neg h,zY0q (by omega),Tri.get_eq h3,h1]
theorem Tri.set_toL:∀ {t:Tri α} (h:t.wf) (i:Nat) (v:α),(t.set i v).toL=t.toL.set i v
 | .lf x,_,0,v=>rfl
 | .lf x,_,i+1,v=>rfl
 | .em,_,i,v=>rfl
 | .nd n l r,⟨h1,h2,h3⟩,i,v=>by
  rw [Tri.set_nd]
  by_cases h:i<n
  ·rw [if_pos h,Tri.toL,Tri.toL,Tri.set_toL h2,List.set_append,if_pos (by omega)]
  ·rw [if_neg h,Tri.toL,Tri.toL,Tri.set_toL h3,List.set_append,if_neg (by omega),h1]
theorem Tri.set_wf:∀ {t:Tri α} (h:t.wf) (i:Nat) (v:α),(t.set i v).wf
 | .lf x,_,0,v=>trivial
 | .lf x,_,i+1,v=>trivial
 | .em,_,i,v=>trivial
 | .nd n l r,⟨h1,h2,h3⟩,i,v=>by
  rw [Tri.set_nd]
  by_cases h:i<n
  ·rw [if_pos h];exact ⟨by rw [Tri.set_toL h2,zY3b,h1],Tri.set_wf h2 i v,h3⟩
  ·rw [if_neg h];exact ⟨h1,h2,Tri.set_wf h3 _ v⟩
theorem Tri.any_eq (f:α→Bool):∀ t:Tri α,t.any f=t.toL.any f
 | .lf x=>by simp [Tri.any,Tri.toL]
 | .em=>rfl
 | .nd n l r=>by
  have:(Tri.nd n l r).any f=(l.any f || r.any f):=by
   show Bool.rec (motive:=fun _=>Bool) (r.any f) true (l.any f)=_
   cases l.any f <;> rfl
  rw [this,Tri.toL,List.any_append,Tri.any_eq f l,Tri.any_eq f r]
theorem Tri.all_eq (f:α→Bool):∀ t:Tri α,t.all f=t.toL.all f
 | .lf x=>by simp [Tri.all,Tri.toL]
 | .em=>rfl
 | .nd n l r=>by
  have:(Tri.nd n l r).all f=(l.all f && r.all f):=by
   show Bool.rec (motive:=fun _=>Bool) false (r.all f) (l.all f)=_
   cases l.all f <;> rfl
  rw [this,Tri.toL,zY3k,Tri.all_eq f l,Tri.all_eq f r]
theorem Tri.map_nd (f:α→β) (n:Nat) (l r:Tri α):(Tri.nd n l r).map f = .nd n (l.map f) (r.map f):=rfl
theorem Tri.map_toL (f:α→β):∀ t:Tri α,(t.map f).toL=t.toL.map f
 | .lf x=>rfl
 | .em=>rfl
 | .nd n l r=>by rw [Tri.map_nd,Tri.toL,Tri.toL,zY1x,Tri.map_toL f l,Tri.map_toL f r]
theorem Tri.map_wf (f:α→β):∀ {t:Tri α},t.wf→(t.map f).wf
 | .lf x,_=>trivial
 | .em,_=>trivial
 | .nd n l r,⟨h1,h2,h3⟩=>⟨by show (l.map f).toL.length=n;rw [Tri.map_toL,zY0v,h1],Tri.map_wf f h2,Tri.map_wf f h3⟩
theorem Tri.all2_eq {f:α→α→Bool} (hf:∀ a b,f a b=true→a=b):∀ {t u:Tri α},t.all2 f u=true→t=u
 | .lf x,.lf y,h=>by rw [hf x y h]
 | .lf x,.nd ..,h=>by cases h
 | .lf x,.em,h=>by cases h
 | .em,.lf y,h=>by cases h
 | .em,.nd ..,h=>by cases h
 | .em,.em,h=>rfl
 | .nd n l r,.lf y,h=>by cases h
 | .nd n l r,.em,h=>by cases h
 | .nd n l r,.nd m l' r',h=>by
  have h:Bool.rec (motive:=fun _=>Bool) false (Bool.rec (motive:=fun _=>Bool) false (r.all2 f r') (l.all2 f l')) (Nat.beq n m)=true:=h
  cases h1:Nat.beq n m with
  | false=>rw [h1] at h;cases h
  | true =>
   rw [h1] at h
   cases h2:l.all2 f l' with
   | false=>rw [h2] at h;cases h
   | true =>
    rw [h2] at h;rw [zY10 h1,Tri.all2_eq hf h2,Tri.all2_eq hf (t:=r) (u:=r') h]
theorem Tri.size_eq:∀ {t:Tri α},t.wf→t.size=t.toL.length
 | .lf x,_=>rfl
 | .em,_=>rfl
 | .nd n l r,⟨h1,h2,h3⟩=>by
  have:(Tri.nd n l r).size=n+r.size:=rfl;rw [this,Tri.toL,zY04,h1,Tri.size_eq h3]
theorem Tri.rep_ok (x:α):∀ (d n:Nat),n≤2 ^ d→(Tri.rep x (d+1) n).toL=List.replicate n x∧(Tri.rep x (d+1) n).wf
 | d,0,_=>by unfold Tri.rep;exact ⟨rfl,trivial⟩
 | d,1,_=>by unfold Tri.rep;exact ⟨rfl,trivial⟩
 | 0,n+2,h=>by simp at h
 | d+1,n+2,h=>by
  have hp:2 ^ (d+1)=2 * 2 ^ d:=by rw [Nat.pow_succ];omega
  obtain ⟨h1,h2⟩:=Tri.rep_ok x d ((n+2) / 2) (by omega);obtain ⟨h3,h4⟩:=Tri.rep_ok x d (n+2 - (n+2) / 2) (by omega);have e:Tri.rep x (d+1+1) (n+2) = .nd ((n+2) / 2) (Tri.rep x (d+1) ((n+2) / 2)) (Tri.rep x (d+1) (n+2 - (n+2) / 2)):=rfl;rw [e];refine ⟨?_,?_,h2,h4⟩
  ·rw [Tri.toL,h1,h3,List.replicate_append_replicate]
   congr 1;omega
  ·rw [h1,zY23]
theorem Tri.puts_ok:∀ (xs:List α) (k:Nat) (t:Tri α),t.wf→k+xs.length≤t.toL.length→(Tri.puts k xs t).toL=t.toL.take k++xs++t.toL.drop (k+xs.length)∧(Tri.puts k xs t).wf
 | [],k,t,h,hl=>by unfold Tri.puts;exact ⟨by simp,h⟩
 | x::xs,k,t,h,hl=>by
  unfold Tri.puts;simp only [zY0c] at hl;obtain ⟨h1,h2⟩:=Tri.puts_ok xs (k+1) (t.set k x) (Tri.set_wf h k x) (by rw [Tri.set_toL h,zY3b];omega);refine ⟨?_,h2⟩;rw [h1,Tri.set_toL h];have hk:k<t.toL.length:=by omega
  rw [List.take_succ_eq_append_getElem (by rw [zY3b];exact hk),List.getElem_set_self];rw [List.take_set_of_le (zY0h k),List.drop_set_of_lt (by omega)];simp only [zY0c,zY1c,zY1l,zY18];rw [show k+(xs.length+1)=k+1+xs.length by omega]
end
section
variable {β:Type}
theorem za5 (n:Nat) (k:Nat→β):fN n k=k n:=by cases n <;> rfl
theorem z6g {α:Type} {f:α→(α→β)→β} (hf:∀ x k,f x k=k x):∀ (l:List α) (k:List α→β),fL f l k=k l
 | [],k=>rfl
 | x::xs,k=>by
  show f x (fun x=>fL f xs fun xs=>k (x::xs))=k (x::xs)
  rw [hf,z6g hf xs]
theorem zfb (a:Atom) (k:Atom→β):fA a k=k a:=by cases a <;> simp [fA,za5]
theorem z0ni (a:Option Atom) (k:Option Atom→β):fOp a k=k a:=by cases a <;> simp [fOp,zfb]
theorem z0nj (a:Atom × Atom) (k:Atom × Atom→β):fPr a k=k a:=by simp [fPr,zfb]
theorem zh1 (l:List Atom) (k:List Atom→β):fL fA l k=k l:=z6g zfb l k
theorem z0bh (x:X) (k:X→β):fX x k=k x:=by
 cases x <;> simp [fX,zfb,za5,z0ni,z6g z0nj,zh1,z6g (f:=fL fA) zh1]
theorem z0nk (a:Nat × Nat) (k:Nat × Nat→β):fNN a k=k a:=by simp [fNN,za5]
theorem zx7 (c:C1) (k:C1→β):fC c k=k c:=by cases c <;> simp [fC,zfb,za5,z6g z0nk]
theorem z0ec (b:Bool) (k:Bool→β):fBl b k=k b:=by cases b <;> rfl
theorem z0nl (a:Bool × List C1) (k:Bool × List C1→β):fPt a k=k a:=by simp [fPt,z0ec,z6g zx7]
theorem z0oz (v:SV) (k:SV→β):fV v k=k v:=by cases v <;> simp [fV,zx7,z6g zx7,z6g z0nl]
theorem z0p0 (o:Option Ob) (k:Option Ob→β):fO o k=k o:=by
 cases o with
 | none=>rfl
 | some o=>cases o <;> simp [fO,za5,zfb,z6g zx7,z0ec]
theorem z0p1 (w:Wr) (k:Wr→β):fW w k=k w:=by cases w <;> simp [fW,za5,z0oz,z0p0]
theorem z0p2 (e:Eff) (k:Eff→β):fE e k=k e:=by simp [fE,z6g z0bh,z6g z0p1]
theorem z0nm (l:Loc) (k:Loc→β):fLo l k=k l:=by cases l <;> simp [fLo,za5]
theorem zms:∀ (t:T) (k:T→β),Fast.fT t k=k t
 | .ret l,k=>by rw [Fast.fT,zh1]
 | .lets xs ck t,k=>by rw [Fast.fT,z6g z0bh,z6g z0bh,zms t]
 | .ite a t e,k=>by rw [Fast.fT,zfb,zms t,zms e]
 | .loop l b,k=>by rw [Fast.fT,zh1,zms b]
 | .again n l,k=>by rw [Fast.fT,za5,zh1]
end
theorem zah {a b:Atom} (h:Fast.bqA a b=true):a=b:=by
 cases a <;> cases b <;> simp only [Fast.bqA,decide_eq_true_eq,zY0u] at h
 ·rw [zY10 h]
 ·rw [h]
theorem z0ed:∀ {a b:List (Nat × Nat)},Fast.bqP a b=true→a=b
 | [],[],_=>rfl
 | [],_::_,h=>by cases h
 | _::_,[],h=>by cases h
 | (a,b)::r,(c,d)::s,h=>by
  simp only [Fast.bqP,zY0d] at h;rw [zY10 h.1.1,zY10 h.1.2,z0ed h.2]
theorem z0ee {a b:C1} (h:Fast.bqC a b=true):a=b:=by
 cases a <;> cases b <;> simp only [Fast.bqC,zY0d,zY0u] at h <;> try rfl
 ·rw [zah h]
 ·rw [zY10 h.1,zY10 h.2]
 ·rw [zah h.1.1,zah h.1.2,zY10 h.2]
 ·rw [zY10 h]
 ·rw [zY10 h.1.1.1,zah h.1.1.2,zY10 h.1.2,zY10 h.2]
 ·rw [zY10 h.1,z0ed h.2]
theorem zee:∀ {a b:List C1},Fast.bqCs a b=true→a=b
 | [],[],_=>rfl
 | [],_::_,h=>by cases h
 | _::_,[],h=>by cases h
 | a::r,c::s,h=>by
  simp only [Fast.bqCs,zY0d] at h;rw [z0ee h.1,zee h.2]
theorem z0ef {a b:Bool} (h:Fast.bqB a b=true):a=b:=by cases a <;> cases b <;> first|rfl|cases h
theorem z0a7:∀ {a b:List (Bool × List C1)},Fast.bqPs a b=true→a=b
 | [],[],_=>rfl
 | [],_::_,h=>by cases h
 | _::_,[],h=>by cases h
 | (a,b)::r,(c,d)::s,h=>by
  simp only [Fast.bqPs,zY0d] at h;rw [z0ef h.1.1,zee h.1.2,z0a7 h.2]
theorem z0eg (a b:SV) (h:Fast.bqV a b=true):a=b:=by
 cases a <;> cases b <;> simp only [Fast.bqV,zY0u] at h
 ·rw [z0ee h]
 ·rw [zee h]
 ·rw [z0a7 h]
theorem z0nn (a b:Option Ob) (h:Fast.bqO a b=true):a=b:=by
 cases a with
 | none=>cases b with
  | none=>rfl
  | some b=>cases h
 | some a=>cases b with
  | none=>cases a <;> cases h
  | some b =>
   cases a <;> cases b <;> simp only [Fast.bqO,zY0d,zY0u] at h <;> try rfl
   ·rw [zY10 h.1,zee h.2]
   ·rw [zee h]
   ·rw [zY10 h.1.1,zY10 h.1.2,zah h.2]
   ·rw [zah h]
   ·rw [zah h]
   ·rw [zY10 h.1.1.1,zY10 h.1.1.2,z0ef h.1.2,zah h.2]
theorem zy9:∀ {a b:List (Tri SV)},Fast.bqS a b=true→a=b
 | [],[],_=>rfl
 | [],_::_,h=>by cases h
 | _::_,[],h=>by cases h
 | a::r,c::s,h=>by
  simp only [Fast.bqS,zY0d] at h;rw [Tri.all2_eq z0eg h.1,zy9 h.2]
theorem zpi {α:Type} {τ:Tri SV} {ω:Tri (Option Ob)} (h1:τ.wf) (h2:ω.wf):∀ m:Rd α,zcc τ ω m=m.run τ.toL ω.toL
 | .pure a=>rfl
 | .fail=>rfl
 | .t i k=>by
  show Option.rec (motive:=fun _=>Option α) none (fun x=>zcc τ ω (k x)) (τ.get i)=_
  rw [Tri.get_eq h1,Rd.run]
  cases τ.toL[i]? with
  | none=>rfl
  | some x=>exact zpi h1 h2 (k x)
 | .o i k=>by
  show Option.rec (motive:=fun _=>Option α) none (fun x=>zcc τ ω (k x)) (ω.get i)=_
  rw [Tri.get_eq h2,Rd.run]
  cases ω.toL[i]? with
  | none=>rfl
  | some x=>exact zpi h1 h2 (k x)
theorem zpj {α:Type} {τ:Tri SV} {ω:Tri (Option Ob)} (h1:τ.wf) (h2:ω.wf):∀ m:Rd α,zy8 τ ω m=m.log τ.toL ω.toL
 | .pure a=>rfl
 | .fail=>rfl
 | .t i k=>by
  show Option.rec (motive:=fun _=>List Loc) [] (fun x=>Loc.t i::zy8 τ ω (k x)) (τ.get i)=_
  rw [Tri.get_eq h1,Rd.log]
  cases τ.toL[i]? with
  | none=>rfl
  | some x=>exact congrArg _ (zpj h1 h2 (k x))
 | .o i k=>by
  show Option.rec (motive:=fun _=>List Loc) [] (fun x=>Loc.o i::zy8 τ ω (k x)) (ω.get i)=_
  rw [Tri.get_eq h2,Rd.log]
  cases ω.toL[i]? with
  | none=>rfl
  | some x=>exact congrArg _ (zpj h1 h2 (k x))
def Tri.Is {α:Type} (t:Tri α) (l:List α):Prop:=t.wf∧t.toL=l
def IsS (σ:List (Tri SV)) (l:List SV):Prop:=(∀ t ∈ σ,t.wf)∧σ.flatMap Tri.toL=l
theorem Tri.Is.get {α:Type} {t:Tri α} {l:List α} (h:t.Is l) (i:Nat):t.get i=l[i]?:=by rw [Tri.get_eq h.1,h.2]
theorem Tri.Is.set {α:Type} {t:Tri α} {l:List α} (h:t.Is l) (i:Nat) (v:α):(t.set i v).Is (l.set i v):=⟨Tri.set_wf h.1 i v,by rw [Tri.set_toL h.1,h.2]⟩
theorem Tri.Is.map {α β:Type} {t:Tri α} {l:List α} (h:t.Is l) (f:α→β):(t.map f).Is (l.map f):=⟨Tri.map_wf f h.1,by rw [Tri.map_toL,h.2]⟩
theorem IsS.map {σ:List (Tri SV)} {l:List SV} (h:IsS σ l) (f:SV→SV):IsS (σ.map (Tri.map f)) (l.map f):=by
 obtain ⟨h1,rfl⟩:=h;refine ⟨fun t ht=>?_,?_⟩
 ·obtain ⟨u,hu,rfl⟩:=zY2g.1 ht
  exact Tri.map_wf f (h1 u hu)
 ·induction σ with
  | nil=>rfl
  | cons t σ ih=>simp only [zY1m,zY1z,zY1x,Tri.map_toL,ih fun u hu=>h1 u (zY0n _ hu)]
theorem IsS.any {σ:List (Tri SV)} {l:List SV} (h:IsS σ l) (f:SV→Bool):σ.any (Tri.any f)=l.any f:=by
 obtain ⟨h1,rfl⟩:=h
 induction σ with
 | nil=>rfl
 | cons t σ ih=>simp only [zY37,zY1z,List.any_append,Tri.any_eq,ih fun u hu=>h1 u (zY0n _ hu)]
theorem IsS.all {σ:List (Tri SV)} {l:List SV} (h:IsS σ l) (f:SV→Bool):σ.all (Tri.all f)=l.all f:=by
 obtain ⟨h1,rfl⟩:=h
 induction σ with
 | nil=>rfl
 | cons t σ ih=>simp only [zY3t,zY1z,zY3k,Tri.all_eq,ih fun u hu=>h1 u (zY0n _ hu)]
theorem Tri.Is.run {α:Type} {τ:Tri SV} {ω:Tri (Option Ob)} {τ':List SV} {ω':List (Option Ob)} (h1:τ.Is τ') (h2:ω.Is ω') (m:Rd α):zcc τ ω m=m.run τ' ω':=by rw [zpi h1.1 h2.1,h1.2,h2.2]
theorem Tri.Is.log {α:Type} {τ:Tri SV} {ω:Tri (Option Ob)} {τ':List SV} {ω':List (Option Ob)} (h1:τ.Is τ') (h2:ω.Is ω') (m:Rd α):zy8 τ ω m=m.log τ' ω':=by rw [zpj h1.1 h2.1,h1.2,h2.2]
theorem zh2:∀ (ws:List Wr) {τ:Tri SV} {ω:Tri (Option Ob)} {τ':List SV} {ω':List (Option Ob)},τ.Is τ'→ω.Is ω'→(Fast.wrT τ ω ws).1.Is (wr τ' ω' ws).1∧(Fast.wrT τ ω ws).2.Is (wr τ' ω' ws).2
 | [],_,_,_,_,h1,h2=>⟨h1,h2⟩
 | .t i v::ws,_,_,_,_,h1,h2=>zh2 ws (h1.set i v) h2
 | .o i v::ws,_,_,_,_,h1,h2=>zh2 ws h1 (h2.set i v)
structure Rl (a:SF) (b:St):Prop where
 τ:a.τ.Is b.τ
 ω:a.ω.Is b.ω
 n:a.n=b.n
 lvl:a.lvl=b.lvl
 kn:a.kn=b.kn
 kb:a.kb=b.kb
 σ:IsS a.σ b.σ
theorem zmt {a:SF} {b:St} (h:Rl a b) (ops:List Oper) (o:Oper):Fast.guardOf ops a o=guardOf ops b o:=by
 unfold Fast.guardOf guardOf;rw [h.kn]
 cases o.guard with
 | none=>rfl
 | some p =>
  simp only
  cases (ops[p.1]?).bind (·.dst) with
  | none=>rfl
  | some d =>
   simp only [h.τ.get];rfl
theorem z0p3 {β:Type} (l:List (Nat × Bool)) (k:List (Nat × Bool)→β):Fast.fK l k=k l:=by
 rcases l with _|⟨⟨x,y⟩,r⟩
 ·rfl
 ·show fN x (fun a=>k ((a,y)::r))=_
  rw [za5]
theorem zd8 {a:SF} {b:St} (h:Rl a b) {cx:Cx} {nt:Nat} {ops:List Oper} {o:Oper} {kF:SF→Rec→Option T} {k:St→Rec→Option T} (hk:∀ a b r t,Rl a b→kF a r=some t→k b r=some t) {t:T} (he:Fast.regDo cx nt ops o a kF=some t):regDo cx nt ops o b k=some t:=by
 unfold Fast.regDo at he;unfold regDo;simp only [z0p2,za5,z6g z0nm,z0p3,h.n,h.kb,h.kn,h.τ.run h.ω,h.τ.log h.ω] at he ⊢
 cases hr:(zo cx b.kb b.n nt b.kn o).run b.τ b.ω with
 | none=>rw [hr] at he;cases he
 | some e =>
  rw [hr] at he;simp only at he ⊢;obtain ⟨w1,w2⟩:=zh2 e.ws h.τ h.ω
  split at he
  ·cases he
  ·rename_i t' ht
   have hh:=fun h'=>hk _ { b with τ:=(wr b.τ b.ω e.ws).1,ω:=(wr b.τ b.ω e.ws).2,n:=b.n+e.xs.length,kn:=zp4 cx b.n e.xs b.kn } _ t' h' ht
   have:=hh ⟨w1,w2,rfl,h.lvl,rfl,rfl,h.σ⟩;rw [this];exact he
theorem za6 {a:SF} {b:St} (h:Rl a b) {ops:List Oper} {o:Oper} {kF:SF→Rec→Option T} {k:St→Rec→Option T} (hk:∀ a b r t,Rl a b→kF a r=some t→k b r=some t) {t:T} (he:Fast.regSkip ops o a kF=some t):regSkip ops o b k=some t:=by
 unfold Fast.regSkip at he;unfold regSkip;simp only [h.n,h.kn] at he ⊢;obtain ⟨w1,w2⟩:=zh2 (zw o (.one .und)) h.τ h.ω;have hh:=fun s h'=>hk _ s _ t h' he
 exact hh _ ⟨w1,w2,rfl,h.lvl,rfl,h.kb,h.σ⟩
theorem z8i {a:SF} {b:St} (h:Rl a b) (v:Nat) (x:Bool):Rl (Fast.learn a v x) (learn b v x):=⟨h.τ,h.ω,h.n,h.lvl,by show (if Nat.ble knB v=true then a.kn else (v,x)::a.kn)=(if Nat.ble knB v=true then b.kn else (v,x)::b.kn);rw [h.kn],h.kb,h.σ⟩
theorem zfc {cx:Cx} {nt:Nat} {ops:List Oper} {kF:SF→List Rec→Option T} {k:St→List Rec→Option T} (hk:∀ a b r t,Rl a b→kF a r=some t→k b r=some t):∀ (l:List Oper) {a:SF} {b:St} (h:Rl a b) (rs:List Rec) {t:T} (he:Fast.regRun cx nt ops l a rs kF=some t),regRun cx nt ops l b rs k=some t
 | [],a,b,h,rs,t,he=>hk a b rs t h he
 | o::l,a,b,h,rs,t,he=>by
  rw [Fast.regRun] at he;rw [regRun];rw [zmt h] at he;have step:∀ a b r t,Rl a b→Fast.regRun cx nt ops l a (rs++[r]) kF=some t→regRun cx nt ops l b (rs++[r]) k=some t:=fun a b r t h he=>zfc hk l h _ he
  cases hg:guardOf ops b o with
  | yes=>rw [hg] at he;simp only at he ⊢;exact zd8 h step he
  | no=>rw [hg] at he;simp only at he ⊢;exact za6 h step he
  | fail=>rw [hg] at he;cases he
  | ask v =>
   rw [hg] at he;simp only at he ⊢;generalize hgd:o.guard=g at he;rcases g with _|⟨gj,gw⟩
   all_goals
    simp only at he ⊢
    split at he
    ·rename_i x y h1 h2
     rw [zd8 (z8i h v _) step h1,za6 (z8i h v _) step h2];exact he
    ·cases he
structure RlP (p:Fast.S3) (q:S3):Prop where
 τ:p.1.Is q.1
 ω:p.2.1.Is q.2.1
 σ:IsS p.2.2 q.2.2
theorem zfd {p:Fast.S3} {q:S3} (h:RlP p q) (k i:Nat):RlP (Fast.renKey k i p) (renKey k i q):=by
 unfold Fast.renKey renKey;rw [h.ω.get,h.ω.get];generalize q.2.1[k]? = x;generalize q.2.1[i]? = y;rcases x with _|_|o
 ·exact h
 ·exact h
 ·rcases y with _|_|o'
  ·exact h
  ·show RlP (if k=i then p else _) (if k=i then q else _)
   split
   ·exact h
   ·exact ⟨h.τ.map _,((h.ω.set _ _).set _ _).map _,h.σ.map _⟩
  ·exact h
theorem z0i2 {τ:Tri SV} {ω:Tri (Option Ob)} {σ:List (Tri SV)} {τ':List SV} {ω':List (Option Ob)} {σ':List SV} (h1:τ.Is τ') (h2:ω.Is ω') (h3:IsS σ σ') (k:Nat):Fast.noRef k τ ω σ=noRef k τ' ω' σ':=by
 unfold Fast.noRef noRef;rw [Tri.any_eq,Tri.any_eq,h1.2,h2.2,h3.any];rfl
theorem zh3:∀ (l:List Nat) {τ:Tri SV} {τ':List SV},τ.Is τ'→(Fast.topAll τ l).Is (topAll τ' l)
 | [],_,_,h=>h
 | i::l,_,_,h=>zh3 l (h.set i _)
theorem z7d {τ:Tri SV} {σ:List (Tri SV)} {τ':List SV} {σ':List SV} (h1:τ.Is τ') (h3:IsS σ σ'):∀ (l:List Nat) {ω:Tri (Option Ob)} {ω':List (Option Ob)},ω.Is ω'→(Fast.dropAll τ ω σ l).Is (dropAll τ' ω' σ' l)
 | [],_,_,h=>h
 | k::l,ω,ω',h=>by
  rw [Fast.dropAll,dropAll,h.get,z0i2 h1 h h3];generalize ω'[k]? = x;rcases x with _|_|v
  ·exact z7d h1 h3 l h
  ·exact z7d h1 h3 l h
  ·show Tri.Is (if noRef k τ' ω' σ'=true then _ else _) (if noRef k τ' ω' σ'=true then _ else _)
   split
   ·exact z7d h1 h3 l (h.set k _)
   ·exact z7d h1 h3 l h
theorem z0bi {p:Fast.S3} {q:S3} (h:RlP p q) (kb i e sz:Nat):RlP (Fast.rowKey kb i e sz p) (rowKey kb i e sz q):=by
 unfold Fast.rowKey rowKey;rw [h.τ.get];generalize q.1[i]? = x;rcases x with _|v
 ·exact h
 cases v with
 | agg cs=>exact h
 | tup ps=>exact h
 | one c =>
  cases c with
  | row k=>exact zfd h _ _
  | «at» a =>
   cases a with
   | v n=>exact h
   | c l =>
    cases l with
    | nil z =>
     show RlP (match p.2.1.get (kb+i) with|some none=>_|_=>_) (match q.2.1[kb+i]? with|some none=>_|_=>_)
     rw [h.ω.get];generalize q.2.1[kb+i]? = y;rcases y with _|_|o
     ·exact h
     ·show RlP (if z=sz then _ else _) (if z=sz then _ else _)
      split
      ·exact ⟨h.τ.set _ _,h.ω.set _ _,h.σ⟩
      ·exact h
     ·exact h
    | _=>exact h
  | _=>exact h
theorem z06o {p:Fast.S3} {q:S3} (h:RlP p q) (k j key:Nat):RlP (Fast.cellKey k j key p) (cellKey k j key q):=by
 unfold Fast.cellKey cellKey;rw [h.ω.get];generalize q.2.1[k]? = x;rcases x with _|_|o
 ·exact h
 ·exact h
 cases o with
 | box t cs =>
  show RlP (match cs[j]? with|some (.row q)=>_|_=>_) (match cs[j]? with|some (.row q)=>_|_=>_)
  generalize cs[j]? = y;rcases y with _|c
  ·exact h
  ·cases c with
   | row k=>exact zfd h _ _
   | _=>exact h
 | _=>exact h
theorem z0bj {p:Fast.S3} {q:S3} (h:RlP p q) (k j key e sz:Nat):RlP (Fast.nilKey k j key e sz p) (nilKey k j key e sz q):=by
 unfold Fast.nilKey nilKey;rw [h.ω.get];generalize q.2.1[k]? = x;rcases x with _|_|o
 ·exact h
 ·exact h
 cases o with
 | box t cs =>
  show RlP (match cs[j]? with|some (.at (.c (.nil z)))=>_|_=>_) (match cs[j]? with|some (.at (.c (.nil z)))=>_|_=>_)
  generalize cs[j]? = y;rcases y with _|c
  ·exact h
  cases c with
  | «at» a =>
   cases a with
   | v n=>exact h
   | c l =>
    cases l with
    | nil z =>
     show RlP (match p.2.1.get key with|some none=>_|_=>_) (match q.2.1[key]? with|some none=>_|_=>_)
     rw [h.ω.get];generalize q.2.1[key]? = y;rcases y with _|_|o
     ·exact h
     ·show RlP (if z=sz then _ else _) (if z=sz then _ else _)
      split
      ·exact ⟨h.τ,(h.ω.set _ _).set _ _,h.σ⟩
      ·exact h
     ·exact h
    | _=>exact h
  | _=>exact h
 | _=>exact h
theorem z59 (kb:Nat):∀ (l:List Cy) {p:Fast.S3} {q:S3},RlP p q→RlP (Fast.rowKeys kb p l) (rowKeys kb q l)
 | [],_,_,h=>h
 | .r i e sz::l,_,_,h=>z59 kb l (z0bi h kb i e sz)
 | .c k j key::l,_,_,h=>z59 kb l (z06o h k j key)
 | .t _::l,_,_,h=>z59 kb l h
 | .o _::l,_,_,h=>z59 kb l h
 | .z _::l,_,_,h=>z59 kb l h
 | .n k j key e sz::l,_,_,h=>z59 kb l (z0bj h k j key e sz)
theorem zrv {a:SF} {b:St} (h:Rl a b) (ds:List Nat) (cy:List Cy):RlP (Fast.normS ds cy a) (normS ds cy b):=by
 unfold Fast.normS normS;simp only;rw [h.kb,Tri.size_eq h.ω.1,h.ω.2];have ht:=zh3 ((ds.filter fun d => !(cyT cy).contains d)++cyZ cy) h.τ;exact z59 _ _ ⟨ht,z7d ht h.σ _ h.ω,h.σ⟩
structure RlG (p:(Tri SV × Tri (Option Ob)) × List Atom) (q:(List SV × List (Option Ob)) × List Atom):Prop where
 τ:p.1.1.Is q.1.1
 ω:p.1.2.Is q.1.2
 l:p.2=q.2
theorem z0i3 {τ:Tri SV} {ω:Tri (Option Ob)} {τ':List SV} {ω':List (Option Ob)} (h1:τ.Is τ') (h2:ω.Is ω') (kb n:Nat):∀ c:Cy,RlG (Fast.genL kb n τ ω c) (genL kb n τ' ω' c)
 | .t i=>by
  rw [Fast.genL,genL,h1.get];generalize τ'[i]? = x;rcases x with _|v
  ·exact ⟨h1,h2,rfl⟩
  cases v with
  | one c=>cases c <;> first|exact ⟨h1,h2,rfl⟩|exact ⟨h1.set _ _,h2,rfl⟩
  | agg cs=>exact ⟨h1.set _ _,h2,rfl⟩
  | tup ps=>exact ⟨h1,h2,rfl⟩
 | .r i e sz=>by
  rw [Fast.genL,genL,h2.get];generalize ω'[kb+i]? = x;rcases x with _|_|o
  ·exact ⟨h1,h2,rfl⟩
  ·exact ⟨h1,h2,rfl⟩
  ·cases o <;> first|exact ⟨h1,h2,rfl⟩|exact ⟨h1,h2.set _ _,rfl⟩
 | .o k=>by
  rw [Fast.genL,genL,h2.get];generalize ω'[k]? = x;rcases x with _|_|o
  ·exact ⟨h1,h2,rfl⟩
  ·exact ⟨h1,h2,rfl⟩
  ·cases o <;> first|exact ⟨h1,h2,rfl⟩|exact ⟨h1,h2.set _ _,rfl⟩
 | .c _ _ k=>by
  rw [Fast.genL,genL,h2.get];generalize ω'[k]? = x;rcases x with _|_|o
  ·exact ⟨h1,h2,rfl⟩
  ·exact ⟨h1,h2,rfl⟩
  ·cases o <;> first|exact ⟨h1,h2,rfl⟩|exact ⟨h1,h2.set _ _,rfl⟩
 | .z _=>⟨h1,h2,rfl⟩
 | .n .. => ⟨h1,h2,rfl⟩
theorem zpk (kb:Nat):∀ (cy:List Cy) (n:Nat) {τ:Tri SV} {ω:Tri (Option Ob)} {τ':List SV} {ω':List (Option Ob)},τ.Is τ'→ω.Is ω'→RlG (Fast.gen kb n τ ω cy) (gen kb n τ' ω' cy)
 | [],n,_,_,_,_,h1,h2=>⟨h1,h2,rfl⟩
 | c::cs,n,τ,ω,τ',ω',h1,h2=>by
  have h:=z0i3 h1 h2 kb n c;have h':=zpk kb cs (n+(genL kb n τ' ω' c).2.length) h.τ h.ω;have e:n+(Fast.genL kb n τ ω c).2.length=n+(genL kb n τ' ω' c).2.length:=by rw [h.l]
  show RlG ((Fast.gen kb (n+(Fast.genL kb n τ ω c).2.length) (Fast.genL kb n τ ω c).1.1 (Fast.genL kb n τ ω c).1.2 cs).1,(Fast.genL kb n τ ω c).2++(Fast.gen kb (n+(Fast.genL kb n τ ω c).2.length) (Fast.genL kb n τ ω c).1.1 (Fast.genL kb n τ ω c).1.2 cs).2) ((gen kb (n+(genL kb n τ' ω' c).2.length) (genL kb n τ' ω' c).1.1 (genL kb n τ' ω' c).1.2 cs).1,(genL kb n τ' ω' c).2++(gen kb (n+(genL kb n τ' ω' c).2.length) (genL kb n τ' ω' c).1.1 (genL kb n τ' ω' c).1.2 cs).2)
  rw [e];exact ⟨h'.τ,h'.ω,by rw [h.l,h'.l]⟩
theorem zrw {n:Nat} {l:List Atom} {σ σ1:List (Tri SV)} {τ τ1:Tri SV} {ω ω1:Tri (Option Ob)} {σ' σ1':List SV} {τ' τ1':List SV} {ω' ω1':List (Option Ob)} (hσ:IsS σ σ') (hσ1:IsS σ1 σ1') (hτ:τ.Is τ') (hτ1:τ1.Is τ1') (hω:ω.Is ω') (hω1:ω1.Is ω1')
  (h:Fast.sameS n l σ τ ω τ1 ω1 σ1=true):sameS n l σ' τ' ω' τ1' ω1' σ1'=true:=by
 unfold Fast.sameS at h;simp only [zY0d] at h;obtain ⟨⟨⟨⟨⟨⟨h1,h2⟩,h3⟩,h4⟩,h5⟩,h6⟩,h7⟩:=h;have e1:σ1'=σ':=by rw [← hσ.2,← hσ1.2,zy9 h1]
 have e3:σ'.map (sbV n l)=σ':=by
  have:=(hσ.map (sbV n l)).2;rw [zy9 h3,hσ.2] at this;exact this.symm
 have e6:τ'.map (sbV n l)=τ1':=by
  have:=(hτ.map (sbV n l)).2;rw [Tri.all2_eq z0eg h6,hτ1.2] at this;exact this.symm
 have e7:ω'.map (Option.map (sbO n l))=ω1':=by
  have:=(hω.map (Option.map (sbO n l))).2;rw [Tri.all2_eq z0nn h7,hω1.2] at this;exact this.symm
 rw [hσ.all] at h2;rw [Tri.all_eq,hτ.2] at h4;rw [Tri.all_eq,hω.2] at h5;unfold sameS;simp only [zY0d,decide_eq_true_eq];exact ⟨⟨⟨⟨⟨⟨e1,h2⟩,e3⟩,h4⟩,h5⟩,e6⟩,e7⟩
end
section
open Go.RowKit
theorem zya {a:SF} {b:St} (h:Rl a b) (fx:Fx) (o:Oper):Fast.inlOf fx a o=inlOf fx b o:=by
 unfold Fast.inlOf inlOf
 cases o.op with
 | call c =>
  simp only
  cases c.callee with
  | value fx' =>
   simp only;rw [h.τ.run h.ω];generalize (evC fx.cx 0 fx').run b.τ b.ω=x;rcases x with _|c1
   ·rfl
   ·cases c1 with
    | fn f caps =>
     simp only
     cases zc1 f fx.fns with
     | none=>rfl
     | some g =>
      simp only;rw [h.τ.run h.ω];rfl
    | _=>rfl
  | _=>rfl
 | _=>rfl
theorem zmu {ω:Tri (Option Ob)} {ω':List (Option Ob)} (h:ω.Is ω'):∀ n k,Fast.freeKey ω n k=freeKey ω' n k
 | 0,k=>rfl
 | n+1,k=>by
  rw [Fast.freeKey,freeKey,h.get];generalize ω'[k]? = x;rcases x with _|_|o
  ·rfl
  ·rfl
  ·exact zmu h n (k+1)
theorem z8x (pool:Nat):∀ (l:List Nat) {p:Fast.S3} {q:S3},RlP p q→RlP (Fast.toPool pool p l) (toPool pool q l)
 | [],_,_,h=>h
 | k::l,p,q,h=>by
  rw [Fast.toPool,toPool,h.ω.get];generalize q.2.1[k]? = x;rcases x with _|_|o
  ·exact z8x pool l h
  ·exact z8x pool l h
  ·show RlP (match Fast.freeKey p.2.1 100 pool with|some i=>_|none=>_) (match freeKey q.2.1 100 pool with|some i=>_|none=>_)
   rw [zmu h.ω]
   cases freeKey q.2.1 100 pool with
   | none=>exact z8x pool l h
   | some i=>exact z8x pool l (zfd h k i)
def RlI (iF:Fast.Inl) (i:Inl):Prop:=∀ (fx:Fx) (g:FnI) (vs:List SV) (o:Oper) (a:SF) (b:St) (kF:SF→Option T) (k:St→Option T) (t:T),Rl a b→(∀ a b t,Rl a b→kF a=some t→k b=some t)→iF fx g vs o a kF=some t→i fx g vs o b k=some t
theorem zmv {iF:Fast.Inl} {i:Inl} (hi:RlI iF i) {fx:Fx} {ops:List Oper} {kF:SF→Option T} {k:St→Option T} (hk:∀ a b t,Rl a b→kF a=some t→k b=some t):∀ (l:List Oper) {a:SF} {b:St} (h:Rl a b) {t:T},Fast.seqRun iF fx ops l a kF=some t→seqRun i fx ops l b k=some t
 | [],a,b,h,t,he=>hk a b t h he
 | o::l,a,b,h,t,he=>by
  rw [Fast.seqRun] at he;rw [seqRun];rw [zmt h] at he;have step:∀ a b t,Rl a b→Fast.seqRun iF fx ops l a kF=some t→seqRun i fx ops l b k=some t:=fun a b t h he=>zmv hi hk l h he
  have go:∀ a b t,Rl a b→(match Fast.inlOf fx a o with
    | some (g,vs)=>iF fx g vs o a fun s=>Fast.seqRun iF fx ops l s kF
    | none=>Fast.regDo fx.cx fx.nt ops o a fun s _=>Fast.seqRun iF fx ops l s kF)=some t→(match inlOf fx b o with
    | some (g,vs)=>i fx g vs o b fun s=>seqRun i fx ops l s k
    | none=>regDo fx.cx fx.nt ops o b fun s _=>seqRun i fx ops l s k)=some t:=by
   intro a b t h he;rw [zya h] at he;generalize inlOf fx b o=io at he ⊢;rcases io with _|⟨g,vs⟩
   ·exact zd8 h (fun a b _ t h he=>step a b t h he) he
   ·exact hi fx g vs o a b _ _ t h step he
  cases hg:guardOf ops b o with
  | yes=>rw [hg] at he;simp only at he ⊢;exact go a b t h he
  | no=>rw [hg] at he;simp only at he ⊢;exact za6 h (fun a b _ t h he=>step a b t h he) he
  | fail=>rw [hg] at he;cases he
  | ask v =>
   rw [hg] at he;simp only at he ⊢;generalize hgd:o.guard=g at he;rcases g with _|⟨gj,gw⟩
   all_goals
    simp only at he ⊢
    split at he
    ·rename_i x y h1 h2
     have g1:=go _ _ _ (z8i h v _) h1;have g2:=za6 (z8i h v _) (fun a b _ t h he=>step a b t h he) h2
     split
     ·rename_i x' y' e1 e2
      cases e1.symm.trans g1
      cases e2.symm.trans g2
      exact he
     ·rename_i hno
      exact (hno x y g1 g2).elim
    ·cases he
theorem zfe {iF:Fast.Inl} {i:Inl} (hi:RlI iF i) {fx:Fx} {ops:List Oper} {an:List (List Nat)} {kF:SF→Option T} {k:St→Option T} (hk:∀ a b t,Rl a b→kF a=some t→k b=some t):∀ (m off:Nat) {a:SF} {b:St} (h:Rl a b) {t:T},Fast.segRun iF fx ops an m off a kF=some t→segRun i fx ops an m off b k=some t
 | 0,off,a,b,h,t,he=>by cases he
 | m+1,off,a,b,h,t,he=>by
  rw [Fast.segRun] at he;rw [segRun]
  cases hsp:zc2 fx.fns an ops.length (ops.drop off) off with
  | none =>
   rw [hsp] at he;simp only at he ⊢;refine zfc (fun a b r t h he=>?_) _ h _ he
   by_cases hi':z8p an off r=true
   ·rw [if_pos hi'] at he ⊢
    exact hk a b t h he
   ·rw [if_neg hi'] at he;cases he
  | some j =>
   rw [hsp] at he;simp only at he ⊢
   cases hoj:ops[j]? with
   | none=>rw [hoj] at he;cases he
   | some o' =>
    rw [hoj] at he;simp only at he ⊢
    by_cases hm:(zxc an j ops.length && o'.guard.isNone && Nat.ble off j)=true
    ·rw [if_pos hm] at he ⊢
     refine zfc (fun a b r t h he=>?_) _ h _ he
     by_cases hi':z8p an off r=true
     ·rw [if_pos hi'] at he ⊢
      rw [zya h] at he;generalize inlOf fx b o'=io at he ⊢;rcases io with _|⟨g,vs⟩
      ·exact zd8 h (fun a b _ t h he=>zfe hi hk m (j+1) h he) he
      ·exact hi fx g vs o' a b _ _ t h (fun a b t h he=>zfe hi hk m (j+1) h he) he
     ·rw [if_neg hi'] at he;cases he
    ·rw [if_neg hm] at he;cases he
theorem z5a {iF:Fast.Inl} {i:Inl} (hi:RlI iF i) {fx:Fx}:∀ (c:Code) {a:SF} {b:St} (h:Rl a b) {kF:Ex→SF→Option T} {k:Ex→St→Option T} (hk:∀ e a b t,Rl a b→kF e a=some t→k e b=some t) {t:T},Fast.exec iF fx c a kF=some t→exec i fx c b k=some t
 | .skip,a,b,h,kF,k,hk,t,he=>hk _ _ _ _ h he
 | .label _,a,b,h,kF,k,hk,t,he=>hk _ _ _ _ h he
 | .exit _,a,b,h,kF,k,hk,t,he=>hk _ _ _ _ h he
 | .ret,a,b,h,kF,k,hk,t,he=>hk _ _ _ _ h he
 | .region id ops draw,a,b,h,kF,k,hk,t,he=>by
  rw [Fast.exec] at he;rw [exec]
  cases draw with
  | false =>
   simp only [if_true] at he ⊢;exact zmv hi (fun a b t h he=>hk _ a b t h he) _ h he
  | true =>
   simp only [Bool.true_eq_false,if_false] at he ⊢
   split at he
   ·cases he
   rename_i hb;rw [if_neg hb];exact zfe hi (fun a b t h he=>hk _ a b t h he) 40 0 h he
 | .seq x y,a,b,h,kF,k,hk,t,he=>by
  rw [Fast.exec] at he;rw [exec];refine z5a hi x h (fun e a b t h he=>?_) he
  cases e with
  | normal=>exact z5a hi y h hk he
  | exit j=>exact hk _ _ _ _ h he
  | ret=>exact hk _ _ _ _ h he
 | .cond c x y,a,b,h,kF,k,hk,t,he=>by
  rw [Fast.exec] at he;rw [exec];rw [h.τ.run h.ω,h.kn] at he
  cases hr:(evA fx.cx 0 c).run b.τ b.ω with
  | none=>rw [hr] at he;cases he
  | some at' =>
   rw [hr] at he;simp only at he ⊢
   cases hv:evB b.kn at' with
   | some z =>
    rw [hv] at he
    cases z with
    | true=>exact z5a hi x h hk he
    | false=>exact z5a hi y h hk he
   | none =>
    rw [hv] at he
    cases at' with
    | c l=>cases he
    | v v =>
     simp only at he ⊢
     split at he
     ·rename_i t1 t2 h1 h2
      rw [z5a hi x (z8i h v true) hk h1,z5a hi y (z8i h v false) hk h2];exact he
     ·cases he
 | .block id x,a,b,h,kF,k,hk,t,he=>by
  rw [Fast.exec] at he;rw [exec];refine z5a hi x h (fun e a b t h he=>?_) he
  cases e with
  | normal=>exact hk _ _ _ _ h he
  | exit j =>
   simp only at he ⊢
   by_cases hj:j=id
   ·rw [if_pos hj] at he ⊢;exact hk _ _ _ _ h he
   ·rw [if_neg hj] at he ⊢;exact hk _ _ _ _ h he
  | ret=>exact hk _ _ _ _ h he
 | .loop x,a,b,h,kF,k,hk,t,he=>by
  rw [Fast.exec] at he;rw [exec];simp only at he ⊢;have hp:=zrv h (z0s x) (zu x fx.hints);have hg:=zpk b.kb (zu x fx.hints) b.n hp.τ hp.ω;rw [h.kb,h.n] at he
  split at he
  ·rename_i hs
   rw [hg.l] at hs;have hs':=zrw hp.σ hp.σ hg.τ hp.τ hg.ω hp.ω hs;rw [if_pos hs']
   split at he
   ·rename_i t' ht
    have hr:Rl { a with τ:=(Fast.gen b.kb b.n (Fast.normS (z0s x) (zu x fx.hints) a).1 (Fast.normS (z0s x) (zu x fx.hints) a).2.1 (zu x fx.hints)).1.1,ω:=(Fast.gen b.kb b.n (Fast.normS (z0s x) (zu x fx.hints) a).1 (Fast.normS (z0s x) (zu x fx.hints) a).2.1 (zu x fx.hints)).1.2,n:=b.n+(Fast.gen b.kb b.n (Fast.normS (z0s x) (zu x fx.hints) a).1 (Fast.normS (z0s x) (zu x fx.hints) a).2.1 (zu x fx.hints)).2.length,lvl:=a.lvl+1,kb:=b.kb,σ:=(Fast.normS (z0s x) (zu x fx.hints) a).2.2 }
      { b with τ:=(gen b.kb b.n (normS (z0s x) (zu x fx.hints) b).1 (normS (z0s x) (zu x fx.hints) b).2.1 (zu x fx.hints)).1.1,ω:=(gen b.kb b.n (normS (z0s x) (zu x fx.hints) b).1 (normS (z0s x) (zu x fx.hints) b).2.1 (zu x fx.hints)).1.2,n:=b.n+(gen b.kb b.n (normS (z0s x) (zu x fx.hints) b).1 (normS (z0s x) (zu x fx.hints) b).2.1 (zu x fx.hints)).2.length,lvl:=b.lvl+1,σ:=(normS (z0s x) (zu x fx.hints) b).2.2 } :=
     ⟨hg.τ,hg.ω,by simp only [hg.l],by simp only [h.lvl],h.kn,rfl,hp.σ⟩
    have:=z5a hi x hr (k:=fun e s'=>match e with
     | .normal =>
      if s'.kb=b.kb∧(gen b.kb b.n (normS (z0s x) (zu x fx.hints) s').1 (normS (z0s x) (zu x fx.hints) s').2.1 (zu x fx.hints)).2.length=(gen b.kb b.n (normS (z0s x) (zu x fx.hints) b).1 (normS (z0s x) (zu x fx.hints) b).2.1 (zu x fx.hints)).2.length ∧
        sameS b.n (gen b.kb b.n (normS (z0s x) (zu x fx.hints) s').1 (normS (z0s x) (zu x fx.hints) s').2.1 (zu x fx.hints)).2 (normS (z0s x) (zu x fx.hints) b).2.2 (gen b.kb b.n (normS (z0s x) (zu x fx.hints) b).1 (normS (z0s x) (zu x fx.hints) b).2.1 (zu x fx.hints)).1.1 (gen b.kb b.n (normS (z0s x) (zu x fx.hints) b).1 (normS (z0s x) (zu x fx.hints) b).2.1 (zu x fx.hints)).1.2 (normS (z0s x) (zu x fx.hints) s').1 (normS (z0s x) (zu x fx.hints) s').2.1 (normS (z0s x) (zu x fx.hints) s').2.2
      then some (.again b.lvl (gen b.kb b.n (normS (z0s x) (zu x fx.hints) s').1 (normS (z0s x) (zu x fx.hints) s').2.1 (zu x fx.hints)).2) else none
     | e=>k e s') (fun e a' b' t h' he=>?_) ht
    ·refine Eq.trans (congrArg (fun o:Option T=>match o with|some t=>some (T.loop (gen b.kb b.n (normS (z0s x) (zu x fx.hints) b).1 (normS (z0s x) (zu x fx.hints) b).2.1 (zu x fx.hints)).2 t)|none=>none) this) ?_
     rw [hg.l] at he;exact he
    ·cases e with
     | exit j=>exact hk _ _ _ _ h' he
     | ret=>exact hk _ _ _ _ h' he
     | normal =>
      simp only at he ⊢;have hp':=zrv h' (z0s x) (zu x fx.hints);have hg':=zpk b.kb (zu x fx.hints) b.n hp'.τ hp'.ω
      split at he
      ·rename_i hc
       obtain ⟨c1,c2,c3⟩:=hc;rw [hg'.l,hg.l] at c2;rw [hg'.l] at c3;rw [if_pos ⟨by rw [← h'.kb];exact c1,c2,zrw hp.σ hp'.σ hg.τ hp'.τ hg.ω hp'.ω c3⟩];rw [hg'.l,h.lvl] at he;exact he
      ·cases he
   ·cases he
  ·cases he
 | .rangeFunc ..,a,b,h,kF,k,hk,t,he=>by cases he
theorem zyb:∀ d,RlI (Fast.inlD d) (inlD d)
 | 0=>fun fx g vs o a b kF k t h hk he=>by cases he
 | d+1=>fun fx g vs o a b kF k t h hk he=>by
  rw [Fast.inlD] at he;rw [inlD]
  by_cases hl:g.nt<vs.length∨2048<g.nt
  ·rw [if_pos hl] at he;cases he
  rw [if_neg hl] at he;rw [if_neg (by omega)];obtain ⟨r1,r2⟩:=Tri.rep_ok (SV.one .und) 11 g.nt (by omega);obtain ⟨p1,p2⟩:=Tri.puts_ok vs 0 (Tri.rep (SV.one .und) 12 g.nt) r2 (by rw [r1,zY23];omega);have hτ:(Tri.puts 0 vs (Tri.rep (SV.one .und) 12 g.nt)).Is (vs++List.replicate (g.nt - vs.length) (.one .und)):=by
   refine ⟨p2,?_⟩;rw [p1,r1];simp only [List.take_zero,zY18,zY0x,List.drop_replicate]
  have hra:Fast.rowArgs fx.cx.cut a.τ o=rowArgs fx.cx.cut b.τ o:=by
   unfold Fast.rowArgs rowArgs;congr 1
   cases o.op with
   | call c =>
    simp only;congr 1
    funext x
    cases x with
    | tmp t=>simp only [h.τ.get];rfl
    | _=>rfl
   | _=>rfl
  have hT:=zh3 (rowArgs fx.cx.cut b.τ o) h.τ;rw [hra] at he;have hσ:IsS (Fast.topAll a.τ (rowArgs fx.cx.cut b.τ o)::a.σ) (topAll b.τ (rowArgs fx.cx.cut b.τ o)++b.σ):=by
   refine ⟨fun t ht=>?_,by rw [zY1z,hT.2,h.σ.2]⟩;rcases zY0i.1 ht with rfl|ht
   ·exact hT.1
   ·exact h.σ.1 t ht
  refine z5a (zyb d) g.body (a:={ a with τ:=Tri.puts 0 vs (Tri.rep (.one .und) 12 g.nt),kb:=a.kb+fx.mul * fx.nt,σ:=Fast.topAll a.τ (rowArgs fx.cx.cut b.τ o)::a.σ }) (b:={ b with τ:=vs++List.replicate (g.nt - vs.length) (.one .und),kb:=b.kb+fx.mul * fx.nt,σ:=topAll b.τ (rowArgs fx.cx.cut b.τ o)++b.σ }) ⟨hτ,h.ω,h.n,h.lvl,h.kn,by simp only [h.kb],hσ⟩ (fun e a2 b2 t h2 he=>?_) he
  cases e with
  | exit j=>cases he
  | _ =>
   simp only at he ⊢;rw [h2.τ.run h2.ω] at he
   cases hr:(z7c fx.cx g.results).run b2.τ b2.ω with
   | none=>rw [hr] at he;cases he
   | some svs =>
    rw [hr] at he;simp only at he ⊢
    cases hv:zae svs with
    | none=>rw [hv] at he;cases he
    | some sv =>
     rw [hv] at he;simp only at he ⊢
     split at he
     ·cases he
     ·rename_i τ0 σ0 hs
      split at he
      ·cases he
      ·rename_i hz
       have hz:τ0.size=a.τ.size:=by
        cases hb:Nat.beq τ0.size a.τ.size with
        | false=>exact absurd hb hz
        | true=>exact zY10 hb
       have hw:∀ t ∈ τ0::σ0,t.wf:=by rw [← hs];exact h2.σ.1
       have hf:τ0.toL++σ0.flatMap Tri.toL=b2.σ:=by rw [← zY1z,← hs];exact h2.σ.2
       have w0:=hw τ0 (zY0p ..);have hlen:τ0.toL.length=b.τ.length:=by rw [← Tri.size_eq w0,hz,Tri.size_eq h.τ.1,h.τ.2]
       have h0:τ0.Is (b2.σ.take b.τ.length):=⟨w0,by rw [← hf,← hlen,List.take_left]⟩
       have hσ0:IsS σ0 (b2.σ.drop b.τ.length):=⟨fun t ht=>hw t (zY0n _ ht),by rw [← hf,← hlen,List.drop_left]⟩
       obtain ⟨w1,w2⟩:=zh2 (zw o sv) h0 h2.ω;rw [Tri.size_eq w2.1,w2.2,h.kb] at he;have hq:=z8x fx.pool (List.range' (b.kb+fx.mul * fx.nt) (fx.mul * g.nt)) (p:=((Fast.wrT τ0 a2.ω (zw o sv)).1,Fast.dropAll (Fast.wrT τ0 a2.ω (zw o sv)).1 (Fast.wrT τ0 a2.ω (zw o sv)).2 σ0 (List.range (wr (b2.σ.take b.τ.length) b2.ω (zw o sv)).2.length),σ0))
        (q:=((wr (b2.σ.take b.τ.length) b2.ω (zw o sv)).1,dropAll (wr (b2.σ.take b.τ.length) b2.ω (zw o sv)).1 (wr (b2.σ.take b.τ.length) b2.ω (zw o sv)).2 (b2.σ.drop b.τ.length) (List.range (wr (b2.σ.take b.τ.length) b2.ω (zw o sv)).2.length),b2.σ.drop b.τ.length)) ⟨w1,z7d w1 hσ0 _ w2,hσ0⟩
       have hh:=fun s h'=>hk _ s t h' he
       exact hh _ ⟨hq.τ,hq.ω,h2.n,h2.lvl,h2.kn,rfl,hq.σ⟩
theorem z0eh (sig:Sig) (nt cap:Nat) (h1:nt≤2048) (h2:cap+(z02 0 cap sig.args).2.1.length≤8192) (h3:(z02 0 cap sig.args).1.length≤nt):Rl (Fast.initS sig nt cap) (initS sig nt cap):=by
 obtain ⟨r1,r2⟩:=Tri.rep_ok (SV.one .und) 11 nt (by omega);obtain ⟨p1,p2⟩:=Tri.puts_ok (z02 0 cap sig.args).1 0 (Tri.rep (SV.one .und) 12 nt) r2 (by rw [r1,zY23];omega);obtain ⟨r3,r4⟩:=Tri.rep_ok (none:Option Ob) 13 (cap+(z02 0 cap sig.args).2.1.length) (by omega);obtain ⟨p3,p4⟩:=Tri.puts_ok ((z02 0 cap sig.args).2.1.map some) cap (Tri.rep (none:Option Ob) 14 (cap+(z02 0 cap sig.args).2.1.length)) r4 (by rw [r3,zY23,zY0v];omega);refine ⟨⟨p2,?_⟩,⟨p4,?_⟩,rfl,rfl,rfl,rfl,⟨fun t ht=>(by cases ht),rfl⟩⟩
 ·show (Tri.puts 0 (z02 0 cap sig.args).1 (Tri.rep (SV.one .und) 12 nt)).toL=(z02 0 cap sig.args).1++List.replicate (nt - (z02 0 cap sig.args).1.length) (.one .und)
  rw [p1,r1];simp only [List.take_zero,zY18,zY0x,List.drop_replicate]
 ·show (Tri.puts cap ((z02 0 cap sig.args).2.1.map some) (Tri.rep (none:Option Ob) 14 (cap+(z02 0 cap sig.args).2.1.length))).toL=List.replicate cap none++(z02 0 cap sig.args).2.1.map some
  rw [p3,r3];simp only [List.take_replicate,List.drop_replicate,zY0v,Nat.sub_self,List.replicate_zero,zY1e];rw [zY28 (by omega)]
theorem zrx {a:SF} {b:St} (h:Rl a b) (cx:Cx) (sig:Sig) (rs:List ResultVar):Fast.outOf cx sig rs a=outOf cx sig rs b:=by
 unfold Fast.outOf outOf;rw [h.τ.run h.ω]
 cases (z7c cx rs).run b.τ b.ω with
 | none=>rfl
 | some vs =>
  simp only [zY09,zY06];rw [h.τ.run h.ω]
theorem zef {fx:Fx} {sig:Sig} {fn:Func} {t:T} (he:Fast.decompN fx sig fn=some t):decomp fx sig fn=some t:=by
 unfold Fast.decompN at he
 split at he
 ·cases he
 rename_i t' he';rw [zms] at he
 cases he
 unfold Fast.decomp at he';unfold decomp
 split at he'
 ·cases he'
 rename_i hc;rw [if_neg (by
  rintro (h|h)
  ·exact hc (.inl h)
  ·exact hc (.inr (.inl h)))]
 cases hb:fn.body with
 | none=>rw [hb] at he';cases he'
 | some c =>
  rw [hb] at he';simp only at he' ⊢;refine z5a (zyb fx.dep) c (z0eh sig fn.ntmps fx.cap (by omega) (by omega) (by omega)) (fun e a b t h he=>?_) he'
  cases e with
  | exit j=>cases he
  | normal=>rw [← zrx h];exact he
  | ret=>rw [← zrx h];exact he
end
section
open Go.RowKit
theorem zl {sp:Nat→zd} {sigs:List (Nat × Sig)} {cut:List Nat} {hints:List Hint} {sig:Sig} {f:Nat} {fn:Func} {t:T} {spec:zd} (hf:Tryz.prog.funcs[f]? = some fn) (hname:(fn.name == "runtime.NumGoroutine")=false)
  (hdec:Fast.decompN (fxOf zmr sigs fn cut hints [] 0) sig fn=some t) (hsig:∀ ci f s,sigs[ci]? = some (f,s)→Meets Tryz.prog (sp ci) f s) (hspec:∀ ds rs,(∀ d ∈ ds,d.ok)→spec ds=some rs→(∃ N,den sp N t ds []=some rs)∧z61 sig rs):Meets Tryz.prog spec f sig :=
 z5p hf hname (zef hdec) hsig hspec
theorem zai {sp:Nat→zd} {sigs:List (Nat × Sig)} {cut:List Nat} {hints:List Hint} {sig:Sig} {f:Nat} {fn:Func} {t:T} {spec:zd} {fns:List FnI} {dep pool:Nat} (hf:Tryz.prog.funcs[f]? = some fn) (hname:(fn.name == "runtime.NumGoroutine")=false)
  (hdec:Fast.decompN (fxIn zmr sigs fn cut hints fns dep pool) sig fn=some t) (hfn:∀ g ∈ fns,zc8 Tryz.prog g) (hsig:∀ ci f s,sigs[ci]? = some (f,s)→Meets Tryz.prog (sp ci) f s) (hspec:∀ ds rs,(∀ d ∈ ds,d.ok)→spec ds=some rs→(∃ N,den sp N t ds []=some rs)∧z61 sig rs):Meets Tryz.prog spec f sig :=
 z0i1 hf hname (zef hdec) hfn hsig hspec
def z0g:List (Nat × zd)→Nat→zd
 | [],_=>fun _=>none
 | (i,s)::r,ci=>cond (Nat.beq ci i) s (z0g r ci)
def AllM (P:Program) (sigs:List (Nat × Sig)):List (Nat × zd)→Prop
 | []=>True
 | (i,s)::r=>(∀ f g,sigs[i]? = some (f,g)→Meets P s f g)∧AllM P sigs r
theorem ze {P:Program} {sigs:List (Nat × Sig)} {i f0:Nat} {g0:Sig} {s:zd} (h0:sigs[i]? = some (f0,g0)) (hm:Meets P s f0 g0):∀ f g,sigs[i]? = some (f,g)→Meets P s f g:=fun f g h=>by
 rw [h0] at h
 cases h
 exact hm
theorem z05 {P:Program} {sigs:List (Nat × Sig)}:∀ {L:List (Nat × zd)},AllM P sigs L→∀ ci f s,sigs[ci]? = some (f,s)→Meets P (z0g L ci) f s
 | [],_,ci,f,s,_=>z0t f s
 | (i,sp)::r,⟨h1,h2⟩,ci,f,s,h=>by
  show Meets P (cond (Nat.beq ci i) sp (z0g r ci)) f s
  cases hb:Nat.beq ci i with
  | true =>
   have:=zY10 hb;subst this;exact h1 f s h
  | false=>exact z05 h2 ci f s h
class Enc (α:Type) where
 e:α→List Dt
 n:Nat
 len:∀ x,(e x).length=n
 inj:∀ x y,e x=e y→x=y
instance:Enc Int:=⟨z0r,1,fun _=>rfl,zke⟩
instance:Enc Bool:=⟨zf6,1,fun _=>rfl,fun x y h=>by simpa [zf6] using h⟩
instance (priority:=high):Enc (List UInt8):=⟨z13,1,fun _=>rfl,zy2⟩
instance:Enc Op:=⟨eOp,2,fun _=>rfl,ziq⟩
instance:Enc Point:=⟨z5g,2,fun _=>rfl,z8v⟩
instance:Enc In:=⟨eIn,3,fun _=>rfl,z0a5⟩
instance:Enc Out:=⟨z3r,2,fun _=>rfl,zy3⟩
instance:Enc Tx:=⟨eTx,3,fun _=>rfl,zpf⟩
instance:Enc Coin:=⟨zb,6,fun _=>rfl,zd6⟩
instance:Enc Undo:=⟨z2h,1,fun _=>rfl,z0e8⟩
instance:Enc Book:=⟨zbd,1,fun _=>rfl,z0e9⟩
instance:Enc Block:=⟨z7w,5,fun _=>rfl,zmk⟩
instance:Enc Tree:=⟨zf7,2,fun _=>rfl,zrq⟩
instance:Enc Unit:=⟨fun _=>[],0,fun _=>rfl,fun _ _ _=>rfl⟩
instance {α:Type} [Enc α]:Enc (List α):=⟨fun l=>[.l (Enc.n α) (l.map Enc.e)],1,fun _=>rfl,fun x y h=>by
 simp only [zY22,Dt.l.injEq,true_and,and_true] at h
 exact z3x Enc.inj h⟩
instance {α β:Type} [Enc α] [Enc β]:Enc (α × β):=⟨fun x=>Enc.e x.1++Enc.e x.2,Enc.n α+Enc.n β,fun x=>by rw [zY04,Enc.len,Enc.len],fun x y h=>by
 obtain ⟨h1,h2⟩:=List.append_inj h (by rw [Enc.len,Enc.len])
 exact Prod.ext (Enc.inj _ _ h1) (Enc.inj _ _ h2)⟩
noncomputable def spD {α β:Type} [Enc α] [Enc β] (p:α→Prop) (f:α→β):zd:=z00 (fun x:{ x:α // p x }=>Enc.e x.1) fun x=>Enc.e (f x.1)
section
variable {α β:Type} [Enc α] [Enc β] {p:α→Prop} {f:α→β}
theorem zm (x:α) (h:p x):spD p f (Enc.e x)=some (Enc.e (f x)):=z6q (e:=fun x:{ x:α // p x }=>Enc.e x.1) (fun x y h=>Subtype.ext (Enc.inj _ _ h)) ⟨x,h⟩
theorem zp {ds rs:List Dt} (h:spD p f ds=some rs):∃ x,p x∧ds=Enc.e x∧rs=Enc.e (f x):=by
 obtain ⟨x,rfl,rfl⟩:=z2o h;exact ⟨x.1,x.2,rfl,rfl⟩
end
def ret {ρ:Type} [Enc ρ] (x:ρ):Option (List Dt):=some (Enc.e x)
section
variable {ρ:Type} [Enc ρ] {sp:Nat→zd} {N:Nat} {E:Env} {ks:List (List Dt→Option (List Dt))} {r1 r2:ρ} {a:Atom} {t e:T}
theorem z0kz {c:Prop} [Decidable c] {d:Bool} (h:a.val E=some (.b d)) (hd:d=decide c) (ht:c→den sp N t E ks=ret r1) (he:¬ c→den sp N e E ks=ret r2):den sp N (.ite a t e) E ks=ret (if c then r1 else r2):=by
 subst hd;refine z1d h (fun h=>?_) (fun h=>?_)
 ·have h:=of_decide_eq_true h;rw [if_pos h];exact ht h
 ·have h:=of_decide_eq_false h;rw [if_neg h];exact he h
theorem z0l0 {c:Prop} [Decidable c] {d:Bool} (h:a.val E=some (.b (!d))) (hd:d=decide c) (ht:¬ c→den sp N t E ks=ret r2) (he:c→den sp N e E ks=ret r1):den sp N (.ite a t e) E ks=ret (if c then r1 else r2):=by
 subst hd;refine z1d h (fun h=>?_) (fun h=>?_)
 ·have h:¬ c:=by simpa using h
  rw [if_neg h];exact ht h
 ·have h:c:=by simpa using h
  rw [if_pos h];exact he h
theorem z0l1 {b d:Bool} (h:a.val E=some (.b d)) (hd:d=b) (ht:b=true→den sp N t E ks=ret r1) (he:b=false→den sp N e E ks=ret r2):den sp N (.ite a t e) E ks=ret (if b=true then r1 else r2):=by
 subst hd;refine z1d h (fun h=>?_) (fun h=>?_)
 ·rw [if_pos h];exact ht h
 ·rw [if_neg (by simp [h])];exact he h
theorem z0i4 {b d:Bool} (h:a.val E=some (.b (!d))) (hd:d=b) (ht:b=false→den sp N t E ks=ret r2) (he:b=true→den sp N e E ks=ret r1):den sp N (.ite a t e) E ks=ret (if b=true then r1 else r2):=by
 subst hd;refine z1d h (fun h=>?_) (fun h=>?_)
 ·have h:d=false:=by simpa using h
  rw [if_neg (by simp [h])];exact ht h
 ·have h:d=true:=by simpa using h
  rw [if_pos h];exact he h
theorem z0l2 {b d:Bool} (h:a.val E=some (.b d)) (hd:d=b) (ht:b=true→den sp N t E ks=ret r2) (he:b=false→den sp N e E ks=ret r1):den sp N (.ite a t e) E ks=ret (if b=false then r1 else r2):=by
 subst hd;refine z1d h (fun h=>?_) (fun h=>?_)
 ·rw [if_neg (by simp [h])];exact ht h
 ·rw [if_pos h];exact he h
theorem z0i5 {b d:Bool} (h:a.val E=some (.b (!d))) (hd:d=b) (ht:b=false→den sp N t E ks=ret r1) (he:b=true→den sp N e E ks=ret r2):den sp N (.ite a t e) E ks=ret (if b=false then r1 else r2):=by
 subst hd;refine z1d h (fun h=>?_) (fun h=>?_)
 ·have h:d=false:=by simpa using h
  rw [if_pos h];exact ht h
 ·have h:d=true:=by simpa using h
  rw [if_neg (by simp [h])];exact he h
section
variable {p q r:Prop} [Decidable p] [Decidable r] {d:Bool}
theorem z0ei [Decidable q] [Decidable (p∧q)] (h:a.val E=some (.b d)) (hd:d=decide p) (ht:p→den sp N t E ks=ret (if q then r1 else r2)) (he:¬ p→den sp N e E ks=ret r2):den sp N (.ite a t e) E ks=ret (if p∧q then r1 else r2):=by
 subst hd;refine z1d h (fun h=>?_) (fun h=>?_)
 ·have h:=of_decide_eq_true h;simp only [h,true_and];exact ht h
 ·have h:=of_decide_eq_false h;simp only [h,false_and,if_false];exact he h
theorem z0i6 [Decidable q] [Decidable (p∨q)] (h:a.val E=some (.b d)) (hd:d=decide p) (ht:p→den sp N t E ks=ret r1) (he:¬ p→den sp N e E ks=ret (if q then r1 else r2)):den sp N (.ite a t e) E ks=ret (if p∨q then r1 else r2):=by
 subst hd;refine z1d h (fun h=>?_) (fun h=>?_)
 ·have h:=of_decide_eq_true h;simp only [h,true_or,if_true];exact ht h
 ·have h:=of_decide_eq_false h;simp only [h,false_or];exact he h
theorem z06p [Decidable ((p∧q)∨r)] [Decidable (q∨r)] (h:a.val E=some (.b d)) (hd:d=decide p) (ht:p→den sp N t E ks=ret (if q∨r then r1 else r2)) (he:¬ p→den sp N e E ks=ret (if r then r1 else r2)):den sp N (.ite a t e) E ks=ret (if (p∧q)∨r then r1 else r2):=by
 subst hd;refine z1d h (fun h=>?_) (fun h=>?_)
 ·have h:=of_decide_eq_true h;simp only [h,true_and];exact ht h
 ·have h:=of_decide_eq_false h;simp only [h,false_and,false_or];exact he h
theorem z06q [Decidable ((p∨q)∧r)] [Decidable (q∧r)] (h:a.val E=some (.b d)) (hd:d=decide p) (ht:p→den sp N t E ks=ret (if r then r1 else r2)) (he:¬ p→den sp N e E ks=ret (if q∧r then r1 else r2)):den sp N (.ite a t e) E ks=ret (if (p∨q)∧r then r1 else r2):=by
 subst hd;refine z1d h (fun h=>?_) (fun h=>?_)
 ·have h:=of_decide_eq_true h;simp only [h,true_or,true_and];exact ht h
 ·have h:=of_decide_eq_false h;simp only [h,false_or];exact he h
end
theorem z0p4 {c:Prop} {i:Decidable c} {res:Option (List Dt)} (h:a.val E=some (.b (@decide c i))) (hc:c) (ht:den sp N t E ks=res):den sp N (.ite a t e) E ks=res:=z0j (by rw [h,decide_eq_true hc]) ht
theorem z0p5 {c:Prop} {i:Decidable c} {res:Option (List Dt)} (h:a.val E=some (.b (@decide c i))) (hc:¬ c) (he:den sp N e E ks=res):den sp N (.ite a t e) E ks=res:=z0o (by rw [h,decide_eq_false hc]) he
theorem z36 {c:Prop} {i:Decidable c} {res:Option (List Dt)} (h:a.val E=some (.b (@decide c i))) (ht:c→den sp N t E ks=res) (he:¬ c→den sp N e E ks=res):den sp N (.ite a t e) E ks=res:=z1d h (fun h=>ht (of_decide_eq_true h)) (fun h=>he (of_decide_eq_false h))
theorem z0i7 {b q d:Bool} (h:a.val E=some (.b d)) (hd:d=b) (ht:b=true→den sp N t E ks=ret q) (he:b=false→den sp N e E ks=ret false):den sp N (.ite a t e) E ks=ret (b && q):=by
 subst hd;refine z1d h (fun h=>?_) (fun h=>?_)
 ·rw [h,zY36];exact ht h
 ·rw [h,zY3m];exact he h
theorem z0l3 {b q d:Bool} (h:a.val E=some (.b d)) (hd:d=b) (ht:b=true→den sp N t E ks=ret true) (he:b=false→den sp N e E ks=ret q):den sp N (.ite a t e) E ks=ret (b || q):=by
 subst hd;refine z1d h (fun h=>?_) (fun h=>?_)
 ·rw [h,Bool.true_or];exact ht h
 ·rw [h,zY35];exact he h
end
section
variable {sp:Nat→zd} {N:Nat} {E:Env} {ks:List (List Dt→Option (List Dt))} {a b:Atom} {m n:Int}
theorem z0np (ha:a.val E=some (I m)) (hb:b.val E=some (I n)):denX sp E (.bin .eql a b)=some (.b (decide (m=n))):=by simp only [denX,ha,hb,zY09,zY06];rfl
theorem z0nq (ha:a.val E=some (I m)) (hb:b.val E=some (I n)):denX sp E (.bin .neq a b)=some (.b (decide (m≠n))):=by
 have e:denX sp E (.bin .neq a b)=some (.b (!decide (m=n))):=by simp only [denX,ha,hb,zY09,zY06];rfl
 rw [e];simp
theorem z0nr (ha:a.val E=some (I m)) (hb:b.val E=some (I n)):denX sp E (.bin .lss a b)=some (.b (decide (m<n))):=by simp only [denX,ha,hb,zY09,zY06];rfl
theorem z0ns (ha:a.val E=some (I m)) (hb:b.val E=some (I n)):denX sp E (.bin .leq a b)=some (.b (decide (m≤n))):=by simp only [denX,ha,hb,zY09,zY06];rfl
theorem z0nt (ha:a.val E=some (I m)) (hb:b.val E=some (I n)):denX sp E (.bin .gtr a b)=some (.b (decide (n<m))):=by simp only [denX,ha,hb,zY09,zY06];rfl
theorem z0nu (ha:a.val E=some (I m)) (hb:b.val E=some (I n)):denX sp E (.bin .geq a b)=some (.b (decide (n≤m))):=by simp only [denX,ha,hb,zY09,zY06];rfl
theorem z0nv {x y:List UInt8} (ha:a.val E=some (.s x)) (hb:b.val E=some (.s y)):denX sp E (.bin .eql a b)=some (.b (decide (x=y))):=by simp only [denX,ha,hb,zY09,zY06];rfl
theorem z0nw {x y:List UInt8} (ha:a.val E=some (.s x)) (hb:b.val E=some (.s y)):denX sp E (.bin .neq a b)=some (.b (decide (x≠y))):=by
 have e:denX sp E (.bin .neq a b)=some (.b (!decide (x=y))):=by simp only [denX,ha,hb,zY09,zY06];rfl
 rw [e];simp
theorem z0nx {x y:Bool} (ha:a.val E=some (.b x)) (hb:b.val E=some (.b y)):denX sp E (.beq false a b)=some (.b (decide (x=y))):=by simp only [denX,ha,hb];simp
theorem z0ny {x y:Bool} (ha:a.val E=some (.b x)) (hb:b.val E=some (.b y)):denX sp E (.beq true a b)=some (.b (decide (x≠y))):=by simp only [denX,ha,hb];simp
theorem z0nz {x:Bool} (ha:a.val E=some (.b x)):denX sp E (.not a)=some (.b (!x)):=by simp only [denX,ha]
theorem z0ej {ats:List Atom} {i:Atom} {ds:List Dt} {d:Dt} (hv:vals E ats=some ds) (hi:i.val E=some (I m)) (h0:0≤m) (hd:ds[m.toNat]? = some d):denX sp E (.sel ats i)=some d:=by
 simp only [denX,hv,hi,asI,if_pos h0];exact hd
theorem z0p6 (ha:a.val E=some (I m)) (hb:b.val E=some (I n)):denX sp E (.mn a b)=some (I (if n<m then n else m)):=by simp only [denX,ha,hb,if_true]
theorem z0l4 {x:List UInt8} (ha:a.val E=some (.s x)):denX sp E (.slen a)=some (I x.length):=by simp only [denX,ha]
theorem z0o0 {sz:Nat} {z:List Lit} (ha:a.val E=some (I m)) (h0:0≤m) (h1:m≤100000) (hz:z.length=sz):denX sp E (.mkz sz z a)=some (.l sz (List.replicate m.toNat (z.map Lit.dt))):=by
 simp only [denX,ha,asI];rw [if_pos ⟨h0,h1,hz⟩]
theorem z0o1 (ha:a.val E=some (I m)) (hw : -9223372036854775808 ≤ -m ∧ -m≤9223372036854775807):denX sp E (.neg a)=some (I (-m)):=by
 have e:denX sp E (.neg a)=some (I (IntKind.i64.wrap (0 - m))):=by simp only [denX,ha]
 rw [e,Int.zero_sub,wrap_i64 hw]
theorem z0o2 {p q:Point} {a1 a2 b1 b2:Atom} (h1:a1.val E=some (I p.tx)) (h2:b1.val E=some (I q.tx)) (h3:a2.val E=some (I p.at_)) (h4:b2.val E=some (I q.at_)):denX sp E (.eqs false [(a1,b1),(a2,b2)])=some (.b (decide (p=q))):=by
 obtain ⟨p1,p2⟩:=p;obtain ⟨q1,q2⟩:=q;simp only at h1 h2 h3 h4;simp only [denX,eqsD,h1,h2,h3,h4,eqD,zY09,zY06,if_true,zY1d,Point.mk.injEq]
 by_cases hx:p1=q1 <;> by_cases hy:p2=q2 <;> simp [hx,hy]
theorem z0o3 {p q:Point} {a1 a2 b1 b2:Atom} (h1:a1.val E=some (I p.tx)) (h2:b1.val E=some (I q.tx)) (h3:a2.val E=some (I p.at_)) (h4:b2.val E=some (I q.at_)):denX sp E (.eqs true [(a1,b1),(a2,b2)])=some (.b (decide (p≠q))):=by
 obtain ⟨p1,p2⟩:=p;obtain ⟨q1,q2⟩:=q;simp only at h1 h2 h3 h4;simp only [denX,eqsD,h1,h2,h3,h4,eqD,zY09,zY06,if_true,zY1d,ne_eq,Point.mk.injEq]
 by_cases hx:p1=q1 <;> by_cases hy:p2=q2 <;> simp [hx,hy]
theorem z0i8 {ci:Nat} {args:List Atom} {xs:List X} {ds rs:List Dt} (h:vals E args=some ds) (hs:sp ci ds=some rs) (hx:X.call ci args 0::xs=(List.range rs.length).map fun j=>.call ci args j):z0i sp E (.call ci args 0::xs)=some rs:=hx ▸ zrr h hs
variable {α:Type} {f:α→List Dt} {l l':List α} {x:α} {sz:Nat}
theorem z0o4 (ha:a.val E=some (.l sz (l.map f))):denX sp E (.len a)=some (I l.length):=by simp only [denX,ha,zY0v]
theorem z0l5 (ha:a.val E=some (.l sz [])):denX sp E (.len a)=some (I 0):=by simp only [denX,ha,zY0r];rfl
theorem z0o5 (ha:a.val E=some (.l sz (l.map f))) (hb:b.val E=some (I m)) (h0:0≤m) (h1:m<l.length):z0q sp E [.inr sz a b]=true:=z0y ha hb h0 (by rw [zY0v];exact h1)
theorem zmw {j:Nat} {d:Dt} (ha:a.val E=some (.l sz (l.map f))) (hb:b.val E=some (I m)) (h0:0≤m) (hx:l[m.toNat]? = some x) (hj:(f x)[j]? = some d):denX sp E (.idx a b j)=some d:=z0v ha hb h0 (by rw [zY0j,hx];rfl) hj
theorem z0p7 {xs:List X} (ha:a.val E=some (.l sz (l.map f))) (hb:b.val E=some (I m)) (h0:0≤m) (hx:l[m.toNat]? = some x) (hxs:X.idx a b 0::xs=(List.range (f x).length).map fun j=>.idx a b j):z0i sp E (.idx a b 0::xs)=some (f x):=by
 rw [hxs];have key:∀ (n j:Nat),j+n=(f x).length→z0i sp E ((List.range' j n).map fun j=>.idx a b j)=some ((f x).drop j):=by
  intro n
  induction n with
  | zero=>intro j hj;simp [z0i,zY27 (show (f x).length≤j by omega)]
  | succ n ih =>
   intro j hj;rw [List.range'_succ,zY1m,zY1j (by omega:j<(f x).length)];exact z2s (zmw ha hb h0 hx (zY03 _)) (ih (j+1) (by omega))
 have:=key (f x).length 0 (by omega);rw [List.range_eq_range'];simpa using this
theorem zh4 (ha:a.val E=some (.l sz (l.map f))) (hb:b.val E=some (.l sz (l'.map f))) (h:l.length+l'.length≤1000000):denX sp E (.app sz a b)=some (.l sz ((l++l').map f)):=by
 rw [z0kt ha hb (by simpa using h),zY1x]
theorem z0l6 (hy:∀ x,(f x).length=sz) (ha:a.val E=some (.l sz (l.map f))) (hb:b.val E=some (.l sz [f x])) (h:l.length+1≤1000000):denX sp E (.app sz a b)=some (.l sz ((l++[x]).map f)):=zh4 (l':=[x]) ha hb h
theorem zeg {lo hi:Option Atom} {m n:Int} (ha:a.val E=some (.l sz (l.map f))) (hl:bndI E 0 lo=some m) (hh:bndI E l.length hi=some n) (h0:0≤m) (h1:m≤n) (h2:n≤l.length):denX sp E (.sub sz a lo hi)=some (.l sz (((l.take n.toNat).drop m.toNat).map f)):=by
 simp only [denX,ha,hl,hh,zY0v,zY09,zY06];rw [if_pos ⟨trivial,h0,h1,h2⟩,List.map_drop,List.map_take]
theorem z0a8 {hi:Atom} {n:Int} {t:List α} (ha:a.val E=some (.l sz (l.map f))) (hh:hi.val E=some (I n)) (h1:0≤n) (h2:n≤l.length) (ht:l.take n.toNat=t):denX sp E (.sub sz a none (some hi))=some (.l sz (t.map f)):=by
 have hb:bndI E (l.length:Int) (some hi)=some n:=by show asI (hi.val E)=some n;rw [hh];rfl
 have:=zeg (lo:=none) (hi:=some hi) (m:=0) (n:=n) (sp:=sp) ha rfl hb (by omega) h1 h2;rw [this,ht];rfl
theorem z0ek {j:Nat} {vs:List Atom} {ds:List Dt} {y:α} (ha:a.val E=some (.l sz (l.map f))) (hb:b.val E=some (I m)) (hv:vals E vs=some ds) (h0:0≤m) (hs:j+ds.length≤sz) (hx:l[m.toNat]? = some x) (hy:z6e (f x) j ds=f y):denX sp E (.set a b j vs)=some (.l sz ((l.set m.toNat y).map f)):=by
 simp only [denX,ha,hb,hv,asI];rw [if_pos ⟨h0,hs⟩,zY0j,hx];simp only [zY1a,hy,List.map_set]
theorem z0bk {j:Nat} {vs:List Atom} {ds:List Dt} (ha:a.val E=some (.l sz (l.map f))) (hb:b.val E=some (I m)) (hv:vals E vs=some ds) (h0:0≤m) (hs:j+ds.length≤sz) (hx:l[m.toNat]? = some x) (hy:z6e (f x) j ds=f x):denX sp E (.set a b j vs)=some (.l sz (l.map f)):=by
 rw [z0ek (y:=x) ha hb hv h0 hs hx hy];congr 3;obtain ⟨h1,h2⟩:=zY02.1 hx;rw [← h2,List.set_getElem_self]
theorem zr {σ ρ:Type} [Enc ρ] {ats:List Atom} {body:T} (enc:σ→Int→List Dt) (go:σ→Nat→List α→ρ) (Inv:σ→Nat→Prop) (s0:σ) (l:List α) (h:vals E ats=some (enc s0 0)) (h0:Inv s0 0) (hN:l.length<N)
  (step:∀ (s:σ) (k:Nat) (x:α) (r:List α),l[k]? = some x→l.drop k=x::r→k<l.length→Inv s k→∀ again:List Dt→Option (List Dt),(∀ s',Inv s' (k+1)→again (enc s' ((k:Int)+1))=ret (go s' (k+1) r))→den sp N body (E++enc s k) (ks++[again])=ret (go s k (x::r)))
  (last:∀ (s:σ),Inv s l.length→∀ again:List Dt→Option (List Dt),den sp N body (E++enc s l.length) (ks++[again])=ret (go s l.length [])):den sp N (.loop ats body) E ks=ret (go s0 0 l):=by
 refine z0n h ?_;have key:∀ (n k:Nat) (s:σ),k+n=l.length→Inv s k→∀ M,n<M→z01 (fun again ds=>den sp N body (E++ds) (ks++[again])) M (enc s k)=ret (go s k (l.drop k)):=by
  intro n
  induction n with
  | zero =>
   intro k s hk hi M hM;obtain ⟨M,rfl⟩:∃ j,M=j+1:=⟨M - 1,by omega⟩
   obtain rfl:k=l.length:=by omega
   rw [z01,zY2x];exact last s hi _
  | succ n ih =>
   intro k s hk hi M hM;obtain ⟨M,rfl⟩:∃ j,M=j+1:=⟨M - 1,by omega⟩
   have hkl:k<l.length:=by omega
   have hd:l.drop k=l[k]::l.drop (k+1):=zY1j hkl;rw [z01,hd];refine step s k l[k] (l.drop (k+1)) (zY03 hkl) hd hkl hi _ fun s' hi'=>?_
   have:=ih (k+1) s' (by omega) hi' M (by omega)
   rwa [show ((k+1:Nat):Int)=(k:Int)+1 by omega] at this
 exact key l.length 0 s0 (by omega) h0 N hN
end
section
variable {sp:Nat→zd} {N:Nat} {E E':Env} {ks:List (List Dt→Option (List Dt))} {res:Option (List Dt)} {k t e:T} {d:Dt} {ds rs:List Dt} {a:Atom}
theorem dq1 {x:X} (hk:den sp N k E' ks=res) (h:denX sp E x=some d:=by first|exact z0np rfl rfl|exact z0nq rfl rfl|exact z0nr rfl rfl|exact z0nt rfl rfl|exact z0nu rfl rfl|exact z0ns rfl rfl|exact z0o4 rfl|exact z6a rfl rfl (by omega)|exact z0ky rfl rfl (by omega)|exact zmw rfl rfl (by omega) (by first|assumption|exact hx) rfl|exact z0nz rfl|exact z0l5 rfl|exact z0nv rfl rfl|exact z0nw rfl rfl|exact z0nx rfl rfl|exact z0ny rfl rfl|exact z0o2 rfl rfl rfl rfl|exact z0o3 rfl rfl rfl rfl|exact z0o1 rfl (by omega)|exact z0a8 rfl rfl (by omega) (by omega) (by assumption)|exact z24 (r:=[[I _]]) rfl rfl (by simp)|exact z0ej rfl rfl (by omega) rfl|exact z0p6 rfl rfl|exact z0l4 rfl|exact z0l6 (fun _=>rfl) rfl rfl (by first|omega|(simp only [zY04,zY0c,zY0r];omega))) (hE:E++[d]=E':=by (simp only [zY1l,zY18];try exact rfl)):den sp N (.lets [x] [] k) E ks=res:=z5 h hk hE
theorem dqc {ck:List X} (hk:den sp N k E ks=res) (h:z0q sp E ck=true:=by exact z0o5 rfl rfl (by omega) (by omega)):den sp N (.lets [] ck k) E ks=res:=z1y h hk
theorem dqm {xs:List X} (hk:den sp N k E' ks=res) (h:z0i sp E xs=some ds:=by first|exact z0p7 rfl rfl (by omega) (by first|assumption|exact hx) (by rfl)|exact z2s (zmw rfl rfl (by omega) (by first|assumption|exact hx) rfl) (z2s (zmw rfl rfl (by omega) (by first|assumption|exact hx) rfl) zgx)) (hE:E++ds=E':=by (simp only [zb,eTx,eIn,z3r,eOp,z5g,z0r,z13,z7w,zf7,zbd,z2h,zf6,zY1l,zY18];try exact rfl)):den sp N (.lets xs [] k) E ks=res:=z9s h hk hE
theorem dqk {ci j:Nat} {args:List Atom} (hv:vals E args=some ds) (hs:sp ci ds=some rs) (hk:den sp N k E' ks=res) (hj:rs[j]? = some d:=by exact rfl) (hE:E++[d]=E':=by (simp only [zY1l,zY18];try exact rfl)):den sp N (.lets [.call ci args j] [] k) E ks=res:=z5 (z2x hv hs hj) hk hE
theorem dqK {ci:Nat} {args:List Atom} {xs:List X} (hv:vals E args=some ds) (hs:sp ci ds=some rs) (hk:den sp N k E' ks=res) (hx:X.call ci args 0::xs=(List.range rs.length).map (fun j=>.call ci args j):=by rfl) (hE:E++rs=E':=by (simp only [zb,eTx,eIn,z3r,eOp,z5g,z0r,z13,z7w,zf7,zbd,z2h,zf6,zY1l,zY18];try exact rfl)):den sp N (.lets (.call ci args 0::xs) [] k) E ks=res:=z9s (z0i8 hv hs hx) hk hE
theorem dqT {c:Prop} {i:Decidable c} (ht:den sp N t E ks=res) (h:a.val E=some (.b (@decide c i)):=by exact rfl) (hc:c:=by first|assumption|omega):den sp N (.ite a t e) E ks=res:=z0p4 h hc ht
theorem dqF {c:Prop} {i:Decidable c} (he:den sp N e E ks=res) (h:a.val E=some (.b (@decide c i)):=by exact rfl) (hc:¬ c:=by first|assumption|omega):den sp N (.ite a t e) E ks=res:=z0p5 h hc he
theorem z9t {c:Prop} {i:Decidable c} (ht:den sp N t E ks=res) (h:a.val E=some (.b (!@decide c i)):=by exact rfl) (hc:¬ c:=by first|assumption|omega):den sp N (.ite a t e) E ks=res:=z1d h (fun _=>ht) (fun h=>by rw [decide_eq_false hc] at h;cases h)
theorem z6s {c:Prop} {i:Decidable c} (he:den sp N e E ks=res) (h:a.val E=some (.b (!@decide c i)):=by exact rfl) (hc:c:=by first|assumption|omega):den sp N (.ite a t e) E ks=res:=z1d h (fun h=>by rw [decide_eq_true hc] at h;cases h) (fun _=>he)
theorem tZn {c:Prop} {i:Decidable c} (ht:¬ c→den sp N t E ks=res) (he:c→den sp N e E ks=res) (h:a.val E=some (.b (!@decide c i)):=by exact rfl):den sp N (.ite a t e) E ks=res:=z1d h (fun h=>ht (by simpa using h)) (fun h=>he (by simpa using h))
section
variable {ρ:Type} [Enc ρ] {r1 r2:ρ}
theorem tR {c:Prop} [Decidable c] {d:Bool} (ht:c→den sp N t E ks=ret r1) (he:¬ c→den sp N e E ks=ret r2) (h:a.val E=some (.b d):=by exact rfl) (hd:d=decide c:=by with_reducible rfl):den sp N (.ite a t e) E ks=ret (if c then r1 else r2):=z0kz h hd ht he
theorem tC {c:Prop} [Decidable c] {d:Bool} (ht:¬ c→den sp N t E ks=ret r2) (he:c→den sp N e E ks=ret r1) (h:a.val E=some (.b (!d)):=by exact rfl) (hd:d=decide c:=by with_reducible rfl):den sp N (.ite a t e) E ks=ret (if c then r1 else r2):=z0l0 h hd ht he
theorem tB {b d:Bool} (ht:b=true→den sp N t E ks=ret r1) (he:b=false→den sp N e E ks=ret r2) (h:a.val E=some (.b d):=by exact rfl) (hd:d=b:=by with_reducible rfl):den sp N (.ite a t e) E ks=ret (if b=true then r1 else r2):=z0l1 h hd ht he
theorem tN {b d:Bool} (ht:b=false→den sp N t E ks=ret r2) (he:b=true→den sp N e E ks=ret r1) (h:a.val E=some (.b (!d)):=by exact rfl) (hd:d=b:=by with_reducible rfl):den sp N (.ite a t e) E ks=ret (if b=true then r1 else r2):=z0i4 h hd ht he
theorem tF {b d:Bool} (ht:b=true→den sp N t E ks=ret r2) (he:b=false→den sp N e E ks=ret r1) (h:a.val E=some (.b d):=by exact rfl) (hd:d=b:=by with_reducible rfl):den sp N (.ite a t e) E ks=ret (if b=false then r1 else r2):=z0l2 h hd ht he
theorem tG {b d:Bool} (ht:b=false→den sp N t E ks=ret r1) (he:b=true→den sp N e E ks=ret r2) (h:a.val E=some (.b (!d)):=by exact rfl) (hd:d=b:=by with_reducible rfl):den sp N (.ite a t e) E ks=ret (if b=false then r1 else r2):=z0i5 h hd ht he
section
variable {p q r:Prop} [Decidable p] [Decidable r] {d:Bool}
theorem tA [Decidable q] [Decidable (p∧q)] (ht:p→den sp N t E ks=ret (if q then r1 else r2)) (he:¬ p→den sp N e E ks=ret r2) (h:a.val E=some (.b d):=by exact rfl) (hd:d=decide p:=by with_reducible rfl):den sp N (.ite a t e) E ks=ret (if p∧q then r1 else r2):=z0ei h hd ht he
theorem tO [Decidable q] [Decidable (p∨q)] (ht:p→den sp N t E ks=ret r1) (he:¬ p→den sp N e E ks=ret (if q then r1 else r2)) (h:a.val E=some (.b d):=by exact rfl) (hd:d=decide p:=by with_reducible rfl):den sp N (.ite a t e) E ks=ret (if p∨q then r1 else r2):=z0i6 h hd ht he
theorem tP [Decidable ((p∧q)∨r)] [Decidable (q∨r)] (ht:p→den sp N t E ks=ret (if q∨r then r1 else r2)) (he:¬ p→den sp N e E ks=ret (if r then r1 else r2)) (h:a.val E=some (.b d):=by exact rfl) (hd:d=decide p:=by with_reducible rfl):den sp N (.ite a t e) E ks=ret (if (p∧q)∨r then r1 else r2):=z06p h hd ht he
theorem tQ [Decidable ((p∨q)∧r)] [Decidable (q∧r)] (ht:p→den sp N t E ks=ret (if r then r1 else r2)) (he:¬ p→den sp N e E ks=ret (if q∧r then r1 else r2)) (h:a.val E=some (.b d):=by exact rfl) (hd:d=decide p:=by with_reducible rfl):den sp N (.ite a t e) E ks=ret (if (p∨q)∧r then r1 else r2):=z06q h hd ht he
end
end
theorem tU {b q d:Bool} (ht:b=true→den sp N t E ks=ret q) (he:b=false→den sp N e E ks=ret false) (h:a.val E=some (.b d):=by exact rfl) (hd:d=b:=by with_reducible rfl):den sp N (.ite a t e) E ks=ret (b && q):=z0i7 h hd ht he
theorem tV {b q d:Bool} (ht:b=true→den sp N t E ks=ret true) (he:b=false→den sp N e E ks=ret q) (h:a.val E=some (.b d):=by exact rfl) (hd:d=b:=by with_reducible rfl):den sp N (.ite a t e) E ks=ret (b || q):=z0l3 h hd ht he
theorem tZ {c:Prop} {i:Decidable c} (ht:c→den sp N t E ks=res) (he:¬ c→den sp N e E ks=res) (h:a.val E=some (.b (@decide c i)):=by exact rfl):den sp N (.ite a t e) E ks=res:=z36 h ht he
end
end
section
open Go.Lib (decDigits itoa atoiAll parseMag parseUint10 NumEnd)
def z0l7 (b:UInt8):Prop:=48≤b.toNat∧b.toNat≤57
theorem zd9 {u:Nat} (h:u<10):decDigits u=[UInt8.ofNat (48+u)]:=by rw [decDigits,dif_pos h]
theorem zsu {u:Nat} (h:¬ u<10):decDigits u=decDigits (u / 10)++[UInt8.ofNat (48+u % 10)]:=by rw [decDigits,dif_neg h]
theorem zkh {n:Int} (h:n<0):itoa n=45::decDigits n.natAbs:=if_pos h
theorem zki {n:Int} (h:¬ n<0):itoa n=decDigits n.toNat:=if_neg h
def z6h (c:UInt8):List UInt8→List (List UInt8)
 | []=>[[]]
 | b::l=>if b=c then []::z6h c l else match z6h c l with
  | []=>[[b]]
  | x::xs=>(b::x)::xs
def z3y (c:UInt8):List (List UInt8)→List UInt8
 | []=>[]
 | [x]=>x
 | x::y::r=>x++c::z3y c (y::r)
theorem zmx (c:UInt8):∀ xs:List (List UInt8),Go.Lib.join xs [c]=z3y c xs
 | []=>rfl
 | [x]=>Go.Lib.join_one x [c]
 | x::y::r=>by
  have ih:=zmx c (y::r);rw [Go.Lib.join_cons] at ih ⊢;rw [z3y,← ih];simp [Go.Lib.joinTail]
end
section
open Go.RowKit
open Go.Lib (itoa atoiAll NumEnd)
def opNames:List (List UInt8):=[[],[],[100,117,112],[115,119,97,112],[100,114,111,112],[97,100,100],[115,117,98],[115,97,109,101],[108,101,115,115],[110,111,116],[97,110,100],[118,101,114,105,102,121],[104,101,105,103,104,116],[109,105,120]]
def z1s (o:Op):List UInt8:=if o.kind=1 then itoa o.n else (opNames[o.kind.toNat]?).getD []
def z5i (l:List Op):List UInt8:=z3y 32 (l.map z1s)
def z3a (l:List Op):List UInt8 × Int:=if za l≠0 then ([],za l) else (z5i l,0)
def zpl (w:List UInt8):Option Int:=match atoiAll w with
 | .ok n=>if itoa n=w then some n else none
 | _=>none
def zh8 (w:List UInt8):Int→Int→List (List UInt8)→Int
 | _,r,[]=>r
 | k,r,n::l=>zh8 w (k+1) (if n=w∧n≠[] then k else r) l
def zh9 (w:List UInt8):Int:=zh8 w 0 0 opNames
def zyf (w:List UInt8):Option Op:=if zh9 w=0 then (zpl w).map fun n=>⟨1,n⟩ else some ⟨zh9 w,0⟩
def zpm:List (List UInt8)→Option (List Op)
 | []=>some []
 | w::r=>match zyf w with
  | none=>none
  | some o=>(zpm r).map fun l=>o::l
def zmz (s:List UInt8):List Op × Int :=
 if 4000<(s.length:Int) then ([],2) else if s=[] then ([],0) else match zpm (z6h 32 s) with
  | none=>([],1)
  | some l=>if za l≠0 then ([],za l) else (l,0)
theorem zkj {o:Op} (h:z3z o=0):1≤o.kind∧o.kind≤13∧(o.kind=1∨o.n=0) ∧ -1000000≤o.n∧o.n≤1000000:=by
 unfold z3z at h
 split at h
 ·cases h
 ·split at h
  ·cases h
  ·omega
theorem z0bl {k:Int} (h0:1≤k) (h1:k≤13):k=1∨k=2∨k=3∨k=4∨k=5∨k=6∨k=7∨k=8∨k=9∨k=10∨k=11∨k=12∨k=13:=by omega
theorem z0eo {l:List Op} (h:z51 l=0):∀ o ∈ l,z3z o=0:=by
 induction l with
 | nil=>intro o ho;cases ho
 | cons x l ih =>
  rw [z51] at h
  split at h
  ·rename_i hx;exact absurd h hx
  ·rename_i hx
   intro o ho;rcases zY0i.1 ho with rfl|ho
   ·exact zY12.1 hx
   ·exact ih h o ho
theorem zcd {l:List Op} (h:za l=0):l.length≤16∧∀ o ∈ l,z3z o=0:=by
 unfold za at h
 split at h
 ·cases h
 ·exact ⟨by omega,z0eo h⟩
def WordByte (b:UInt8):Prop:=b=45∨z0l7 b∨97≤b.toNat
theorem WordByte.ne {b:UInt8} (h:WordByte b):b≠32∧b≠58∧b≠10:=by
 refine ⟨?_,?_,?_⟩ <;> (rintro rfl;rcases h with h|⟨h1,h2⟩|h <;> first|(exact absurd h (by decide))|(exact absurd h2 (by decide))|(exact absurd h1 (by decide)))
theorem z0ep:∀ n ∈ opNames,n.length≤8:=by decide
theorem z4t:∀ (k u:Nat),u<10 ^ (k+1)→(Go.Lib.decDigits u).length≤k+1:=by
 intro k
 induction k with
 | zero=>intro u h;rw [zd9 (by omega)];simp
 | succ k ih =>
  intro u h
  by_cases h9:u<10
  ·rw [zd9 h9];simp
  ·rw [zsu h9,zY04]
   have:=ih (u / 10) (by rw [Nat.pow_succ] at h;omega);simp only [zY0c,zY0r];omega
theorem zn0 {o:Op} (h:z3z o=0):(z1s o).length≤8:=by
 obtain ⟨h0,h1,h2,h3,h4⟩:=zkj h;unfold z1s
 split
 ·by_cases hn:o.n<0
  ·rw [zkh hn,zY0c]
   have:=z4t 6 o.n.natAbs (by omega);omega
  ·rw [zki hn]
   have:=z4t 6 o.n.toNat (by omega);omega
 ·cases hn:opNames[o.kind.toNat]? with
  | none=>simp
  | some n=>exact z0ep n (zY0a hn)
theorem zrz (c:UInt8) (m:Nat):∀ xs:List (List UInt8),(∀ x ∈ xs,x.length≤m)→(z3y c xs).length≤xs.length * (m+1)
 | [],_=>by simp [z3y]
 | [x],h=>by
  have:=h x (zY0p ..);simp only [z3y,zY0c,zY0r];omega
 | x::y::r,h=>by
  have h1:=h x (zY0p ..);have h2:=zrz c m (y::r) fun z hz=>h z (zY0n _ hz)
  rw [z3y,zY04,zY0c];simp only [zY0c] at h2 ⊢;have e:(r.length+1+1) * (m+1)=(r.length+1) * (m+1)+(m+1):=by rw [zY21]
  omega
theorem za7 {l:List Op} (h:za l=0):(z5i l).length≤144:=by
 obtain ⟨h1,h2⟩:=zcd h;have:=zrz 32 8 (l.map z1s) fun x hx=>by
  obtain ⟨o,ho,rfl⟩:=zY2g.1 hx;exact zn0 (h2 o ho)
 rw [zY0v] at this;unfold z5i;omega
end
section
open Go.RowKit
set_option maxRecDepth 100000
abbrev zZr:Nat × Sig:=(99999,⟨[],[],true⟩)
def zff:List (Nat × Sig):=[(126,⟨[.one],[(false,[.scal])],true⟩),(127,⟨[.one,.one],[(false,[.scal])],true⟩),(150,⟨[.one],[(false,[.scal])],true⟩),(92,⟨[.agg 2,.agg 2],[(false,[.scal])],true⟩),(146,⟨[.agg 6,.agg 2],[(false,[.scal])],true⟩),(145,⟨[.one,.agg 2,.clos 146 []],[(false,[.scal]),(false,[.scal])],true⟩),(118,⟨[.one,.agg 2],[(false,[.scal]),(false,[.scal])],true⟩),(91,⟨[.one],[(false,[.scal])],true⟩)]
def z6t (a b:Int):Int:=if a<b then -1 else if b<a then 1 else 0
def z1h (p q:Point):Int:=if z6t p.tx q.tx≠0 then z6t p.tx q.tx else z6t p.at_ q.at_
def ltP (p q:Point):Prop:=p.tx<q.tx∨(p.tx=q.tx∧p.at_<q.at_)
instance (p q:Point):Decidable (ltP p q):=by unfold ltP;infer_instance
theorem z0a9 (a b:Int):z6t a b<0↔a<b:=by unfold z6t;split <;> (try split) <;> omega
theorem zpn (a b:Int):z6t a b=0↔a=b:=by unfold z6t;split <;> (try split) <;> omega
theorem zir (p q:Point):z1h p q<0↔ltP p q:=by
 have h1:=z0a9 p.tx q.tx;have h2:=zpn p.tx q.tx;have h3:=z0a9 p.at_ q.at_;unfold z1h ltP
 split <;> omega
theorem z0lc (p q:Point):z1h p q=0↔p=q:=by
 have h2:=zpn p.tx q.tx;have h3:=zpn p.at_ q.at_;obtain ⟨a,b⟩:=p;obtain ⟨c,d⟩:=q;simp only [Point.mk.injEq];unfold z1h;simp only at *
 split <;> omega
theorem z6u {p q r:Point} (h:ltP p q) (k:ltP q r):ltP p r:=by unfold ltP at *;omega
theorem z5t (p:Point):¬ ltP p p:=by unfold ltP;omega
theorem zs0 {p q:Point} (h:ltP p q):¬ ltP q p:=by unfold ltP at *;omega
theorem zpo (p q:Point):ltP p q∨p=q∨ltP q p:=by
 obtain ⟨a,b⟩:=p;obtain ⟨c,d⟩:=q;simp only [Point.mk.injEq];unfold ltP;simp only;omega
def z03 (l:List Coin):Prop:=l.Pairwise fun c d=>ltP c.p d.p
def zi (l:List Coin) (p:Point):Nat:=l.countP fun c=>decide (ltP c.p p)
def z1i (l:List Coin) (p:Point):Bool:=l.any fun c=>decide (c.p=p)
theorem zfg (l:List Coin) (p:Point):zi l p≤l.length:=List.countP_le_length
theorem z8j {l:List Coin} (h:z03 l) {i j:Nat} (hi:i<j) (hj:j<l.length):ltP (l[i]'(by omega)).p l[j].p:=List.pairwise_iff_getElem.1 h i j (by omega) hj hi
theorem zyg {l:List Coin} {p:Point} {i:Nat} (hi:i≤l.length) (h1:∀ t (ht:t<l.length),t<i→ltP l[t].p p) (h2:∀ t (ht:t<l.length),i≤t→¬ ltP l[t].p p):zi l p=i:=by
 unfold zi
 induction l generalizing i with
 | nil=>simp at hi;simp [hi]
 | cons c l ih =>
  cases i with
  | zero =>
   rw [List.countP_eq_zero];intro x hx;obtain ⟨t,ht,rfl⟩:=zY2h hx;simpa using h2 t ht (Nat.zero_le _)
  | succ i =>
   have h0:=h1 0 (by simp) (by omega);simp only [List.getElem_cons_zero] at h0;rw [List.countP_cons_of_pos (by simpa using h0),ih (i:=i) (by simpa using hi) (fun t ht hti=>h1 (t+1) (by simpa using ht) (by omega)) (fun t ht hti=>h2 (t+1) (by simpa using ht) (by omega))]
theorem zjg {l:List Coin} (h:z03 l) (p:Point):(∀ t (ht:t<l.length),t<zi l p→ltP l[t].p p)∧(∀ t (ht:t<l.length),zi l p≤t→¬ ltP l[t].p p):=by
 induction l with
 | nil=>simp
 | cons c l ih =>
  have hs:z03 l:=(zY1v.1 h).2;have hc:=(zY1v.1 h).1;obtain ⟨i1,i2⟩:=ih hs
  by_cases h0:ltP c.p p
  ·have e:zi (c::l) p=zi l p+1:=by unfold zi;rw [List.countP_cons_of_pos (by simpa using h0)]
   rw [e];refine ⟨fun t ht hti=>?_,fun t ht hti=>?_⟩
   ·cases t with
    | zero=>exact h0
    | succ t=>simpa using i1 t (by simpa using ht) (by omega)
   ·cases t with
    | zero=>omega
    | succ t=>simpa using i2 t (by simpa using ht) (by omega)
  ·have e:zi (c::l) p=0:=by
    unfold zi;rw [List.countP_eq_zero];intro x hx;rcases zY0i.1 hx with rfl|hx
    ·simpa using h0
    ·have:=hc x hx
     simp only [decide_eq_true_eq];exact fun hx'=>h0 (z6u this hx')
   rw [e];refine ⟨fun t ht hti=>by omega,fun t ht hti=>?_⟩
   cases t with
   | zero=>exact h0
   | succ t =>
    have ht':t<l.length:=by simpa using ht
    have:=hc l[t] (zY1p _);simp only [List.getElem_cons_succ];exact fun hx'=>h0 (z6u this hx')
theorem zfh {l:List Coin} (h:z03 l) (p:Point):z1i l p=true↔∃ ht:zi l p<l.length,(l[zi l p]'ht).p=p:=by
 unfold z1i;rw [zY33];obtain ⟨i1,i2⟩:=zjg h p;constructor
 ·rintro ⟨c,hc,hp⟩
  obtain ⟨t,ht,rfl⟩:=zY2h hc;have hp:=of_decide_eq_true hp;have e:zi l p=t:=by
   refine zyg (by omega) (fun s hs hst=>?_) (fun s hs hst=>?_)
   ·rw [← hp];exact z8j h hst ht
   ·rw [← hp]
    rcases Nat.eq_or_lt_of_le hst with rfl|hlt
    ·exact z5t _
    ·exact zs0 (z8j h hlt hs)
  exact ⟨by omega,by simpa [e] using hp⟩
 ·rintro ⟨ht,hp⟩
  exact ⟨_,zY1p ht,by simpa using hp⟩
abbrev z0bm (x:Int × Int):List Dt:=[I x.1,I x.2]
abbrev e2P (x:Point × Point):List Dt:=z5g x.1++z5g x.2
abbrev eCP (x:Coin × Point):List Dt:=zb x.1++z5g x.2
abbrev z0eq:={ x:List Coin × Point // z03 x.1∧x.1.length≤1000000 }
abbrev eLP (x:z0eq):List Dt:=.l 6 (x.1.1.map zb)::z5g x.1.2
noncomputable def spOr:zd:=z00 (fun x:Int × Int=>[.l 1 ([x.1,x.2].map z0r)]) fun x=>[I (if x.1≠0 then x.1 else x.2)]
noncomputable def z0bn:zd:=z00 z0bm fun x=>[I (z6t x.1 x.2)]
noncomputable def z0bo:zd:=z00 (fun x:Int=>[I x]) fun _=>[.b false]
noncomputable def zpp:zd:=z00 e2P fun x=>[I (z1h x.1 x.2)]
noncomputable def zis:zd:=z00 eCP fun x=>[I (z1h x.1.p x.2)]
noncomputable def zn1:zd:=z00 eLP fun x=>[I (zi x.1.1 x.1.2),.b (z1i x.1.1 x.1.2)]
theorem z0ld (a b:Int):spOr [.l 1 [[I a],[I b]]]=some [I (if a≠0 then a else b)]:=z6q (e:=fun x:Int × Int=>[.l 1 ([x.1,x.2].map z0r)]) (fun x y h=>by
 obtain ⟨a,b⟩:=x;obtain ⟨c,d⟩:=y;simpa [z0r] using h) (a,b)
theorem zyh (a b:Int):z0bn [I a,I b]=some [I (z6t a b)]:=z6q (e:=z0bm) (fun x y h=>by
 obtain ⟨a,b⟩:=x;obtain ⟨c,d⟩:=y;simpa [z0bm] using h) (a,b)
theorem zyi (a:Int):z0bo [I a]=some [.b false]:=z6q (e:=fun x:Int=>[I x]) (fun x y h=>by simpa using h) a
theorem zn2 (p q:Point):zpp [I p.tx,I p.at_,I q.tx,I q.at_]=some [I (z1h p q)]:=z6q (e:=e2P) (fun x y h=>by
 obtain ⟨h1,h2⟩:=List.append_inj h rfl;exact Prod.ext (z8v _ _ h1) (z8v _ _ h2)) (p,q)
theorem z0bp (c:Coin) (p:Point):zis (zb c++z5g p)=some [I (z1h c.p p)]:=z6q (e:=eCP) (fun x y h=>by
 obtain ⟨h1,h2⟩:=List.append_inj h rfl;exact Prod.ext (zd6 _ _ h1) (z8v _ _ h2)) (c,p)
theorem zs1 (l:List Coin) (p:Point) (h:z03 l) (hl:l.length≤1000000):zn1 [.l 6 (l.map zb),I p.tx,I p.at_]=some [I (zi l p),.b (z1i l p)]:=z6q (e:=eLP) (fun x y h=>by
 obtain ⟨⟨l,p⟩,_⟩:=x;obtain ⟨⟨m,q⟩,_⟩:=y;simp only [eLP,zY22,Dt.l.injEq,true_and] at h;exact Subtype.ext (Prod.ext (z3x zd6 h.1) (z8v _ _ h.2))) ⟨(l,p),h,hl⟩
attribute [local irreducible] z00
def zpq:T :=
 .lets [.len 0] [] (.loop [zI 0,zI 0] (.lets [.bin .lss 3 1] [] (.ite 4 (.lets [] [.inr 1 0 3] (.lets [.idx 0 3 0] []
  (.lets [.bin .neq 5 (zI 0)] [] (.ite 6 (.ret [5]) (.lets [.bin .add 3 (zI 1)] [] (.again 0 [2,7])))))) (.ret [zI 0]))))
def zn3:T :=
 .lets [.bin .neq 0 0] [] (.ret [1])
def zha:T :=
 .lets [.call 2 [0] 0] [] (.lets [.call 2 [1] 0] [] (.ite 2 (.ite 3 (.ret [zI 0]) (.ret [.c (.i .i64 (-1))])) (.ite 3 (.ret [zI 1]) (.lets
  [.bin .lss 0 1] [] (.ite 4 (.ret [.c (.i .i64 (-1))]) (.lets [.bin .gtr 0 1] [] (.ite 5 (.ret [zI 1]) (.ret [zI 0]))))))))
def zpr:T :=
 .lets [.call 1 [0,2] 0] [] (.lets [.call 1 [1,3] 0] [] (.lets [.mk 1 [[4],[5]]] [] (.lets [.call 0 [6] 0] [] (.ret [7]))))
def zps:T :=
 .lets [.call 3 [0,1,6,7] 0] [] (.ret [8])
def z6v:T :=
 .lets [.len 0] [] (.loop [zI 0,3] (.lets [.bin .lss 4 5] [] (.ite 6 (.lets [.bin .add 4 5] [] (.lets [.conv .u64 7] [] (.lets [.bin
  .shr 8 (.c (.i .u64 1))] [] (.lets [.conv .i64 9] [] (.lets [] [.inr 6 0 10] (.lets [.idx 0 10 0,.idx 0 10 1,.idx 0 10 2,.idx
  0 10 3,.idx 0 10 4,.idx 0 10 5] [] (.lets [.call 4 [11,12,13,14,15,16,1,2] 0] [] (.lets [.bin .lss 17 (.c (.i
  .i64 0))] [] (.ite 18 (.lets [.bin .add 10 (zI 1)] [] (.again 0 [19,5])) (.again 0 [4,10])))))))))) (.lets [.bin .lss 4 3] [] (.ite (.v
  7) (.lets [] [.inr 6 0 4] (.lets [.idx 0 4 0,.idx 0 4 1,.idx 0 4 2,.idx 0 4 3,.idx 0 4 4,.idx 0 4 5] []
  (.lets [.call 4 [8,9,10,11,12,13,1,2] 0] [] (.lets [.bin .eql 14 (zI 0)] [] (.ret [4,15]))))) (.ret [4,.c (.b false)]))))))
def zyj:T :=
 .lets [.call 5 [0,1,2] 0,.call 5 [0,1,2] 1] [] (.ret [3,4])
theorem mNaN:Meets Tryz.prog z0bo 150 ⟨[.one],[(false,[.scal])],true⟩:=by
 refine z5p (sp:=(fun ci=>[].getD ci fun _=>none)) (sigs:=zff) (cut:=[]) (hints:=[]) (fn:=Tryz.f150) (t:=zn3) (by kernel_rfl) (by kernel_rfl) (by kernel_rfl) ?_ ?_
 ·exact fun ci f s _=>z0t f s
 ·rintro ds rs - h
  obtain ⟨x,rfl,rfl⟩:=z2o h;refine ⟨⟨1,?_⟩,z04 rfl⟩;unfold zn3;refine z5 (d:=.b false) (z0kx rfl rfl rfl) ?_;exact z6 rfl rfl
theorem mCmp:Meets Tryz.prog z0bn 127 ⟨[.one,.one],[(false,[.scal])],true⟩:=by
 refine z5p (sp:=(fun ci=>[fun _=>none,fun _=>none,z0bo].getD ci fun _=>none)) (sigs:=zff) (cut:=[]) (hints:=[]) (fn:=Tryz.f127) (t:=zha) (by kernel_rfl) (by kernel_rfl) (by kernel_rfl) ?_ ?_
 ·exact (z1r (z0t _ _) (z1r (z0t _ _) (z1r mNaN (fun ci f s _=>z0t f s))))
 ·rintro ds rs - h
  obtain ⟨⟨a,b⟩,rfl,rfl⟩:=z2o h;refine ⟨⟨1,?_⟩,z04 rfl⟩;unfold zha;refine z5 (d:=.b false) (z2x rfl (zyi a) rfl) ?_;refine z5 (d:=.b false) (z2x rfl (zyi b) rfl) ?_;refine z0o rfl (z0o rfl ?_);refine z5 (d:=.b (decide (a<b))) rfl ?_;unfold z6t;refine z1d rfl (fun h1=>?_) (fun h1=>?_)
  ·exact z6 rfl (by rw [if_pos (of_decide_eq_true h1)];rfl)
  rw [if_neg (of_decide_eq_false h1)];refine z5 (d:=.b (decide (b<a))) rfl ?_;refine z1d rfl (fun h2=>?_) (fun h2=>?_)
  ·exact z6 rfl (by rw [if_pos (of_decide_eq_true h2)];rfl)
  ·exact z6 rfl (by rw [if_neg (of_decide_eq_false h2)];rfl)
theorem mOr:Meets Tryz.prog spOr 126 ⟨[.one],[(false,[.scal])],true⟩:=by
 refine z5p (sp:=(fun ci=>[].getD ci fun _=>none)) (sigs:=zff) (cut:=[]) (hints:=[⟨3,[.t 2,.t 8]⟩]) (fn:=Tryz.f126) (t:=zpq) (by kernel_rfl) (by kernel_rfl) (by kernel_rfl) ?_ ?_
 ·exact fun ci f s _=>z0t f s
 ·rintro ds rs - h
  obtain ⟨⟨a,b⟩,rfl,rfl⟩:=z2o h;refine ⟨⟨5,?_⟩,z04 rfl⟩
  show den _ 5 zpq [.l 1 [[I a],[I b]]] []=some [I (if a≠0 then a else b)]
  unfold zpq;refine z5 (d:=I 2) rfl ?_;refine zh0 (fun k:Nat=>[I 0,I k]) (fun k=>k≤2∧(1≤k→a=0)∧(2≤k→b=0)) (fun k=>2 - k) 0 rfl (by simp) (by simp) fun k hk again hag=>?_
  simp only [zY1l,zY18];obtain ⟨k1,k2,k3⟩:=hk
  match k,k1,k2,k3,hag with
  | 0,k1,k2,k3,hag =>
   refine z5 (d:=.b true) rfl (z0j rfl ?_);refine z1y (z0y rfl rfl (by decide) (by simp)) ?_;refine z5 (d:=I a) (z0v (x:=[I a]) rfl rfl (by decide) rfl rfl) ?_;refine z5 (d:=.b (!decide (a=0))) rfl ?_;refine z1d rfl (fun h1=>?_) (fun h1=>?_)
   ·exact z6 rfl (by rw [if_pos (by simpa using h1)])
   ·refine z5 (d:=I 1) rfl ?_
    exact z7 rfl rfl (hag 1 ⟨by omega,fun _=>by simpa using h1,fun h=>by omega⟩ (by omega))
  | 1,k1,k2,k3,hag =>
   refine z5 (d:=.b true) rfl (z0j rfl ?_);refine z1y (z0y rfl rfl (by decide) (by simp)) ?_;refine z5 (d:=I b) (z0v (x:=[I b]) rfl rfl (by decide) rfl rfl) ?_;refine z5 (d:=.b (!decide (b=0))) rfl ?_;have h0:=k2 (by omega);refine z1d rfl (fun h1=>?_) (fun h1=>?_)
   ·exact z6 rfl (by rw [if_neg (by simp [h0])])
   ·refine z5 (d:=I 2) rfl ?_
    exact z7 rfl rfl (hag 2 ⟨by omega,fun _=>h0,fun _=>by simpa using h1⟩ (by omega))
  | 2,k1,k2,k3,hag =>
   refine z5 (d:=.b false) rfl (z0o rfl ?_);exact z6 rfl (by rw [k2 (by omega),k3 (by omega)];rfl)
  | k+3,k1,_,_,_=>exact absurd k1 (by omega)
theorem z0er:Meets Tryz.prog zpp 92 ⟨[.agg 2,.agg 2],[(false,[.scal])],true⟩:=by
 refine z5p (sp:=(fun ci=>[spOr,z0bn].getD ci fun _=>none)) (sigs:=zff) (cut:=[]) (hints:=[]) (fn:=Tryz.f92) (t:=zpr) (by kernel_rfl) (by kernel_rfl) (by kernel_rfl) ?_ ?_
 ·exact (z1r mOr (z1r mCmp (fun ci f s _=>z0t f s)))
 ·rintro ds rs - h
  obtain ⟨⟨⟨a,b⟩,⟨c,d⟩⟩,rfl,rfl⟩:=z2o h;refine ⟨⟨1,?_⟩,z04 rfl⟩
  show den _ 1 zpr [I a,I b,I c,I d] []=_
  unfold zpr;refine z5 (d:=I (z6t a c)) (z2x rfl (zyh a c) rfl) ?_;refine z5 (d:=I (z6t b d)) (z2x rfl (zyh b d) rfl) ?_;refine z5 (z24 (r:=[[I (z6t a c)],[I (z6t b d)]]) rfl rfl (by simp)) ?_;refine z5 (d:=I (if z6t a c≠0 then z6t a c else z6t b d)) (z2x rfl (z0ld _ _) rfl) ?_;exact z6 rfl rfl
theorem z0o8:Meets Tryz.prog zis 146 ⟨[.agg 6,.agg 2],[(false,[.scal])],true⟩:=by
 refine z5p (sp:=(fun ci=>[fun _=>none,fun _=>none,fun _=>none,zpp].getD ci fun _=>none)) (sigs:=zff) (cut:=[]) (hints:=[]) (fn:=Tryz.f146) (t:=zps) (by kernel_rfl) (by kernel_rfl) (by kernel_rfl) ?_ ?_
 ·exact (z1r (z0t _ _) (z1r (z0t _ _) (z1r (z0t _ _) (z1r z0er (fun ci f s _=>z0t f s)))))
 ·rintro ds rs - h
  obtain ⟨⟨c,p⟩,rfl,rfl⟩:=z2o h;refine ⟨⟨1,?_⟩,z04 rfl⟩
  show den _ 1 zps [I c.p.tx,I c.p.at_,I c.o.coin,.l 2 (c.o.lock.map eOp),I c.height,.b c.reward,I p.tx,I p.at_] []=_
  unfold zps;refine z5 (d:=I (z1h c.p p)) (z2x rfl (zn2 c.p p) rfl) ?_;exact z6 rfl rfl
theorem zyk {sp:Nat→zd} {E:Env} {a i:Atom} {l:List Coin} {m:Int} {c:Coin} (ha:a.val E=some (.l 6 (l.map zb))) (hi:i.val E=some (I m)) (h0:0≤m) (hx:l[m.toNat]? = some c) :
  z0i sp E [.idx a i 0,.idx a i 1,.idx a i 2,.idx a i 3,.idx a i 4,.idx a i 5]=some [I c.p.tx,I c.p.at_,I c.o.coin,.l 2 (c.o.lock.map eOp),I c.height,.b c.reward]:=by
 have hx':(l.map zb)[m.toNat]? = some (zb c):=by rw [zY0j,hx];rfl
 exact z2s (z0v ha hi h0 hx' rfl) (z2s (z0v ha hi h0 hx' rfl) (z2s (z0v ha hi h0 hx' rfl) (z2s (z0v ha hi h0 hx' rfl) (z2s (z0v ha hi h0 hx' rfl) (z2s (z0v ha hi h0 hx' rfl) zgx)))))
theorem z0if:Meets Tryz.prog zn1 145 ⟨[.one,.agg 2,.clos 146 []],[(false,[.scal]),(false,[.scal])],true⟩:=by
 refine z5p (sp:=(fun ci=>[fun _=>none,fun _=>none,fun _=>none,fun _=>none,zis].getD ci fun _=>none)) (sigs:=zff) (cut:=[]) (hints:=[⟨3,[.t 9,.t 10]⟩]) (fn:=Tryz.f145) (t:=z6v) (by kernel_rfl) (by kernel_rfl) (by kernel_rfl) ?_ ?_
 ·exact (z1r (z0t _ _) (z1r (z0t _ _) (z1r (z0t _ _) (z1r (z0t _ _) (z1r z0o8 (fun ci f s _=>z0t f s))))))
 ·rintro ds rs - h
  obtain ⟨⟨⟨l,⟨pt,pa⟩⟩,hs,hl⟩,rfl,rfl⟩:=z2o h;simp only at hs hl;refine ⟨⟨l.length+1,?_⟩,zfa rfl rfl⟩
  show den _ (l.length+1) z6v [.l 6 (l.map zb),I pt,I pa] []=some [I (zi l ⟨pt,pa⟩),.b (z1i l ⟨pt,pa⟩)]
  generalize hp:(⟨pt,pa⟩:Point)=p;have hpc:∀ c:Coin,zis [I c.p.tx,I c.p.at_,I c.o.coin,.l 2 (c.o.lock.map eOp),I c.height,.b c.reward,I pt,I pa]=some [I (z1h c.p p)]:=fun c=>by rw [← hp];exact z0bp c ⟨pt,pa⟩
  unfold z6v;refine z5 (d:=I l.length) (z21 rfl (by simp)) ?_;refine zh0 (fun s:Nat × Nat=>[I s.1,I s.2]) (fun s=>s.1≤s.2∧s.2≤l.length∧(∀ t (ht:t<l.length),t<s.1→ltP l[t].p p)∧∀ t (ht:t<l.length),s.2≤t→¬ ltP l[t].p p) (fun s=>s.2 - s.1) (0,l.length) rfl ⟨by omega,by omega,fun t ht h=>by omega,fun t ht h=>by omega⟩ (by simp) ?_;rintro ⟨i,j⟩ ⟨h1,h2,h3,h4⟩ again hag;simp only at h1 h2 h3 h4 hag;simp only [zY1l,zY18]
  by_cases hij:i<j
  ·obtain ⟨m,hm⟩:∃ m:Nat,m=(i+j) / 2:=⟨_,rfl⟩
   have hmi:i≤m:=by omega
   have hmj:m<j:=by omega
   have hml:m<l.length:=by omega
   have hsum:(i:Int)+(j:Int)=((i+j:Nat):Int):=by omega
   have hc1:IntKind.u64.wrap ((i+j:Nat):Int)=((i+j:Nat):Int):=by
    unfold IntKind.wrap;simp only [IntKind.bits,IntKind.signed,zY3m,zY0u,if_false];omega
   have hdiv:(((i+j:Nat):Int)).fdiv (2 ^ (min (1:Int).toNat IntKind.u64.bits))=(m:Int):=by
    show (((i+j:Nat):Int)).fdiv 2=(m:Int)
    rw [Int.fdiv_eq_ediv_of_nonneg _ (by omega)];omega
   have hc2:IntKind.u64.wrap (m:Int)=m:=by
    unfold IntKind.wrap;simp only [IntKind.bits,IntKind.signed,zY3m,zY0u,if_false];omega
   have hc3:IntKind.i64.wrap (m:Int)=m:=wrap_i64 (by omega);have hlm:l[((m:Nat):Int).toNat]? = some l[m]:=by simp [hml]
   have hcall:=hpc l[m];have hlt:=zir l[m].p p;have hup:ltP l[m].p p→∀ t (ht:t<l.length),t<m+1→ltP l[t].p p:=fun h t ht htm=>by
    rcases zY1w t m with h'|h'
    ·exact z6u (z8j hs h' hml) h
    ·obtain rfl:t=m:=by omega
     exact h
   have hdn:¬ ltP l[m].p p→∀ t (ht:t<l.length),m≤t→¬ ltP l[t].p p:=fun h t ht htm h'=>by
    rcases Nat.eq_or_lt_of_le htm with rfl|htm
    ·exact h h'
    ·exact h (z6u (z8j hs htm ht) h')
   have hm1:((m+1:Nat):Int)=(m:Int)+1:=by omega
   have hag1:ltP l[m].p p→again [I ((m:Int)+1),I (j:Int)]=some [I (zi l p),.b (z1i l p)]:=fun h=>by rw [← hm1];exact hag (m+1,j) ⟨by simp only;omega,h2,hup h,h4⟩ (by simp only;omega)
   have hag2:=fun h=>hag (i,m) ⟨hmi,by simp only;omega,h3,hdn h⟩ (by simp only;omega)
   have hi0:(0:Int)≤m:=by omega
   have hi1:(m:Int)<(l.map zb).length:=by simp;omega
   have hlim:(m:Int)+1≤2000000:=by omega
   have hlim2:(i:Int)+j≤2000000:=by omega
   have hlim3:(i:Int)<j:=by omega
   have hlim4:(0:Int)≤(i:Int)+j:=by omega
   clear hm1;generalize l[m]=c at *;generalize hmm:(m:Int)=mm at *;generalize ((i+j:Nat):Int)=ij at *;generalize (i:Int)=ii at *;generalize (j:Int)=jj at *;refine z5 (d:=.b (decide (ii<jj))) rfl ?_;refine z1d rfl (fun _=>?_) (fun h=>absurd (of_decide_eq_false h) (by omega));refine z5 (d:=I ij) (by rw [← hsum];exact z6a rfl rfl (by omega)) ?_;refine z5 (d:=.i .u64 ij) (by show some (Dt.i .u64 (IntKind.u64.wrap ij))=_;rw [hc1]) ?_;refine z5 (d:=.i .u64 mm) (by
    show (if (1:Int)<0 then none else if IntKind.u64.wrap (ij.fdiv (2 ^ (min (1:Int).toNat IntKind.u64.bits)))=ij.fdiv (2 ^ (min (1:Int).toNat IntKind.u64.bits)) then some (Dt.i .u64 (ij.fdiv (2 ^ (min (1:Int).toNat IntKind.u64.bits)))) else none)=_
    rw [hdiv,if_neg (by decide),if_pos hc2]) ?_
   refine z5 (d:=I mm) (by show some (Dt.i .i64 (IntKind.i64.wrap mm))=_;rw [hc3]) ?_;refine z1y (z0y rfl rfl hi0 hi1) ?_;refine z9s (ds:=[I c.p.tx,I c.p.at_,I c.o.coin,.l 2 (c.o.lock.map eOp),I c.height,.b c.reward]) (zyk rfl rfl hi0 hlm) ?_;refine z5 (d:=I (z1h c.p p)) (z2x rfl hcall rfl) ?_;refine z5 (d:=.b (decide (z1h c.p p<0))) rfl ?_;refine z1d rfl (fun h=>?_) (fun h=>?_)
   ·refine z5 (d:=I (mm+1)) (z6a rfl rfl (by omega)) ?_
    exact z7 rfl rfl (hag1 (hlt.1 (of_decide_eq_true h)))
   ·exact z7 rfl rfl (hag2 fun h'=>of_decide_eq_false h (hlt.2 h'))
  ·obtain rfl:i=j:=by omega
   have hpos:=zyg h2 h3 h4;have hhas:=zfh hs p;refine z5 (d:=.b (decide ((i:Int)<i))) rfl ?_;refine z1d rfl (fun h=>absurd (of_decide_eq_true h) (by omega)) (fun _=>?_);refine z5 (d:=.b (decide ((i:Int)<(l.length:Int)))) rfl ?_;refine z1d rfl (fun h=>?_) (fun h=>?_)
   ·have h:=of_decide_eq_true h
    have hil:i<l.length:=by omega
    have hlm:l[((i:Nat):Int).toNat]? = some l[i]:=by simp [hil]
    have hcall:=hpc l[i];have heq:=z0lc l[i].p p;have hi0:(0:Int)≤i:=by omega
    have hi1:(i:Int)<(l.map zb).length:=by simp;omega
    have hv:decide (z1h l[i].p p=0)=z1i l p:=by
     rw [Bool.eq_iff_iff,decide_eq_true_iff,heq,hhas,hpos];exact ⟨fun h=>⟨hil,h⟩,fun ⟨_,h⟩=>h⟩
    rw [hpos,← hv];generalize l[i]=c at *;generalize (i:Int)=ii at *;refine z1y (z0y rfl rfl hi0 hi1) ?_;refine z9s (ds:=[I c.p.tx,I c.p.at_,I c.o.coin,.l 2 (c.o.lock.map eOp),I c.height,.b c.reward]) (zyk rfl rfl hi0 hlm) ?_;refine z5 (d:=I (z1h c.p p)) (z2x rfl hcall rfl) ?_;refine z5 (d:=.b (decide (z1h c.p p=0))) rfl ?_;exact z6 rfl rfl
   ·have h:=of_decide_eq_false h
    have hv:z1i l p=false:=by
     rw [← zY34,hhas,hpos];rintro ⟨h',_⟩;omega
    rw [hpos,hv];exact z6 rfl rfl
theorem z0p8:Meets Tryz.prog zn1 118 ⟨[.one,.agg 2],[(false,[.scal]),(false,[.scal])],true⟩:=by
 refine z5p (sp:=(fun ci=>[fun _=>none,fun _=>none,fun _=>none,fun _=>none,fun _=>none,zn1].getD ci fun _=>none)) (sigs:=zff) (cut:=[]) (hints:=[]) (fn:=Tryz.f118) (t:=zyj) (by kernel_rfl) (by kernel_rfl) (by kernel_rfl) ?_ ?_
 ·exact (z1r (z0t _ _) (z1r (z0t _ _) (z1r (z0t _ _) (z1r (z0t _ _) (z1r (z0t _ _) (z1r z0if (fun ci f s _=>z0t f s)))))))
 ·rintro ds rs - h
  obtain ⟨⟨⟨l,p⟩,hs,hl⟩,rfl,rfl⟩:=z2o h;refine ⟨⟨1,?_⟩,zfa rfl rfl⟩
  show den _ 1 zyj [.l 6 (l.map zb),I p.tx,I p.at_] []=_
  unfold zyj;refine z9s (ds:=[I (zi l p),.b (z1i l p)]) (z0bg (ci:=5) rfl rfl (zs1 l p hs hl)) ?_;exact z6 rfl rfl
end
section
open Go.RowKit
def Er (n:Int):Prop:=0≤n∧n≤12
theorem Er.i64 {n:Int} (h:Er n) : -9223372036854775808≤n∧n≤9223372036854775807:=⟨by have:=h.1;omega,by have:=h.2;omega⟩
theorem z1z {c:Prop} [Decidable c] {a b:Int} (ha:Er a) (hb:Er b):Er (if c then a else b):=by split <;> assumption
theorem z1a (n:Int) (h:decide (0≤n∧n≤12)=true):Er n:=by unfold Er;exact of_decide_eq_true h
theorem z0p9 (o:Op):Er (z3z o):=z1z (z1a _ rfl) (z1z (z1a _ rfl) (z1a _ rfl))
theorem zym:∀ l:List Op,Er (z51 l)
 | []=>z1a _ rfl
 | o::l=>z1z (z0p9 o) (zym l)
theorem zn4 (l:List Op):Er (za l):=z1z (z1a _ rfl) (zym l)
theorem z0ig (x:In):Er (z37 x):=by unfold z37;exact z1z (z1a _ rfl) (zn4 _)
theorem zyn:∀ l s:List In,Er (z15 l s)
 | [],_=>z1a _ rfl
 | x::l,s=>z1z (z0ig x) (z1z (z1a _ rfl) (zyn l _))
theorem z0aa:∀ l:List Out,Er (z12 l)
 | []=>z1a _ rfl
 | x::l=>z1z (z1z (z1a _ rfl) (zn4 _)) (z0aa l)
theorem zyo:∀ (l:List Int) (s:Int),Er (za8 l s).2
 | [],_=>z1a _ rfl
 | x::l,s=>by
  unfold za8
  repeat' split
  all_goals first|exact z1a _ rfl|exact zyo _ _
theorem z0br (t:Tx):Er (zg t):=z1z (z1z (z1a _ rfl) (z1z (z1a _ rfl) (z1z (z1a _ rfl) (z1a _ rfl)))) (z1z (zyn _ _) (z1z (z0aa _) (zyo _ _)))
theorem zyp (h:Int):∀ (l:List Tx) (i:Nat),Er (z3j h l i)
 | [],_=>z1a _ rfl
 | t::l,i=>z1z (z0br t) (z1z (z1a _ rfl) (zyp h l _))
theorem z0et (b:Block):Er (zf b):=z1z (z1z (z1a _ rfl) (z1z (z1a _ rfl) (z1z (z1a _ rfl) (z1a _ rfl)))) (zyp _ _ _)
end
section
open Go.RowKit
set_option maxRecDepth 100000
set_option maxHeartbeats 4000000
theorem zit {W:World} {F:Nat→Prop} {n:Int} {v:Value} (h:Rep W F (I n) v):v = .int .i64 n∧I64 n:=by
 obtain ⟨rfl,h1⟩:=z33 h;exact ⟨rfl,zro h1⟩
def z0p:List (Nat × Sig):=[(126,⟨[.one],[(false,[.scal])],true⟩),(127,⟨[.one,.one],[(false,[.scal])],true⟩),(150,⟨[.one],[(false,[.scal])],true⟩),(92,⟨[.agg 2,.agg 2],[(false,[.scal])],true⟩),(146,⟨[.agg 6,.agg 2],[(false,[.scal])],true⟩),(145,⟨[.one,.agg 2,.clos 146 []],[(false,[.scal]),(false,[.scal])],true⟩),(118,⟨[.one,.agg 2],[(false,[.scal]),(false,[.scal])],true⟩),(91,⟨[.one],[(false,[.scal])],true⟩),(44,⟨[.one],[(false,[.scal])],true⟩),(93,⟨[.one],[(false,[.fresh 101 6])],false⟩),(64,⟨[.one],[(false,[.fresh 103 2])],false⟩),(45,⟨[.one],[(false,[.fresh 101 6])],false⟩),(74,⟨[.agg 3,.one],[(false,[.scal])],true⟩),(120,⟨[.mine 101 6,.one,.one],[(false,[.fresh 101 6])],false⟩),(119,⟨[.mine 101 6,.one,.one],[(false,[.fresh 101 6])],false⟩),(144,⟨[.one,.one,.one],[(false,[.scal]),(false,[.scal])],true⟩),(111,⟨[.agg 3],[(false,[.scal])],true⟩),(73,⟨[.one,.agg 3,.one,.one],[(false,[.pure]),(true,[.pure]),(false,[.scal])],false⟩),zZr,(57,⟨[.one,.one],[(false,[.scal])],true⟩),(100,⟨[.agg 2,.agg 2],[(false,[.scal])],true⟩),(60,⟨[.one,.one,.clos 61 []],[(false,[.scal])],true⟩),(59,⟨[.agg 2,.agg 2],[(false,[.scal])],true⟩),(67,⟨[.one],[(false,[.scal])],true⟩),(68,⟨[.agg 2,.agg 2],[(false,[.scal])],true⟩),(20,⟨[.one],[(false,[.scal])],true⟩),(16,⟨[.one,.one],[(false,[.scal])],true⟩),(61,⟨[.agg 6,.agg 6],[(false,[.scal])],true⟩),(75,⟨[.one,.agg 3,.one,.agg 1],[(false,[.pure]),(false,[.scal])],false⟩),(165,⟨[.one,.one,.one],[(false,[.fresh 3 1]),(false,[.scal])],false⟩),(210,⟨[.one,.one],[(false,[.scal])],true⟩),(211,⟨[.one,.one],[(false,[.scal])],true⟩),(212,⟨[.one,.one],[(false,[.scal])],true⟩),(214,⟨[.one,.one],[(false,[.scal])],true⟩),(215,⟨[.one,.one],[(false,[.scal])],true⟩),(216,⟨[.one],[(false,[.scal])],true⟩),(213,⟨[.one],[(false,[.scal])],true⟩),(217,⟨[.one],[(false,[.scal])],true⟩),(104,⟨[.one],[(false,[.scal])],true⟩),(143,⟨[.one,.one],[(false,[.scal])],true⟩),(142,⟨[],[(true,[.scal,.scal,.scal,.scal,.scal,.scal,.scal,.scal,.scal,.scal,.scal,.scal,.scal,.scal])],true⟩),zZr,(155,⟨[.one],[(false,[.scal])],true⟩),(134,⟨[.one,.one,.one],[(false,[.fresh 3 1]),(false,[.scal])],false⟩),(108,⟨[.one,.one,.one],[(false,[.scal])],true⟩),(131,⟨[.one],[(false,[.pure])],false⟩),(29,⟨[.one,.one],[(false,[.scal])],true⟩),zZr,(105,⟨[.one],[(false,[.scal])],true⟩),(107,⟨[.one,.agg 2],[(false,[.scal])],true⟩),(110,⟨[.one],[(false,[.fresh 101 6])],false⟩),(56,⟨[.agg 3,.one],[(false,[.scal])],true⟩),(109,⟨[.one],[(false,[.fresh 101 6])],false⟩),zZr,(55,⟨[.one,.agg 3,.one,.one],[(false,[.pure]),(true,[.pure]),(false,[.scal])],false⟩),(79,⟨[.one,.agg 3,.one,.agg 1],[(false,[.pure]),(false,[.scal])],false⟩),(71,⟨[.agg 3],[(false,[.scal]),(false,[.scal])],true⟩),(70,⟨[.agg 5],[(false,[.scal]),(false,[.scal])],true⟩),zZr,zZr,zZr,zZr,zZr,(72,⟨[.agg 1,.one],[(true,[.pure]),(false,[.pure]),(false,[.scal])],false⟩),zZr,(23,⟨[.agg 1,.agg 5],[(true,[.pure]),(false,[.scal]),(false,[.pure]),(false,[.scal])],false⟩),(63,⟨[.one],[(false,[.scal]),(false,[.scal])],true⟩),(24,⟨[.agg 1,.one,.agg 5],[(false,[.pure]),(false,[.pure]),(false,[.scal])],false⟩),zZr,(13,⟨[.one,.one],[(false,[.scal])],true⟩),(27,⟨[],[(false,[.scal])],true⟩),(54,⟨[.agg 3],[(false,[.scal])],true⟩),zZr,zZr,zZr,zZr,zZr,zZr,zZr,zZr,zZr,zZr,(25,⟨[.agg 1,.one,.agg 5,.one],[(false,[.pure]),(false,[.scal])],false⟩),zZr,zZr,zZr,zZr,zZr,zZr,zZr,zZr,zZr,zZr,zZr,zZr,zZr,(26,⟨[.agg 5],[(false,[.scal])],true⟩),zZr,(77,⟨[.agg 5],[(false,[.scal])],true⟩),zZr,zZr,zZr,zZr,(121,⟨[.agg 2],[(false,[.scal])],true⟩),zZr,zZr,zZr,zZr,zZr,zZr,zZr,(19,⟨[.agg 1],[(false,[.scal])],true⟩),zZr,(78,⟨[.one,.one],[(false,[.pure]),(false,[.pure]),(false,[.scal])],false⟩),(69,⟨[.one],[(false,[.scal])],true⟩),(28,⟨[.one,.agg 5],[(false,[.pure]),(false,[.scal]),(false,[.pure]),(false,[.scal])],false⟩),(81,⟨[.agg 1,.agg 1],[(false,[.scal])],true⟩),(80,⟨[.one,.one,.clos 81 []],[(false,[.scal])],true⟩),(32,⟨[.one,.one],[(false,[.scal])],true⟩),(30,⟨[.one,.one,.agg 5],[(false,[.pure]),(false,[.pure]),(false,[.scal])],false⟩),(31,⟨[.one,.one,.agg 5,.one],[(false,[.pure]),(false,[.scal])],false⟩),zZr,zZr,zZr,zZr,zZr,zZr,zZr,zZr,zZr,zZr,zZr,zZr,zZr]
def z0pa:List (Nat × Sig):=[(126,⟨[.one],[(false,[.scal])],true⟩),(127,⟨[.one,.one],[(false,[.scal])],true⟩),(150,⟨[.one],[(false,[.scal])],true⟩),(92,⟨[.agg 2,.agg 2],[(false,[.scal])],true⟩),(146,⟨[.agg 6,.agg 2],[(false,[.scal])],true⟩),(145,⟨[.one,.agg 2,.clos 146 []],[(false,[.scal]),(false,[.scal])],true⟩),(118,⟨[.one,.agg 2],[(false,[.scal]),(false,[.scal])],true⟩),(91,⟨[.one],[(false,[.scal])],true⟩),(44,⟨[.one],[(false,[.scal])],true⟩),(93,⟨[.one],[(false,[.fresh 101 6])],false⟩),(64,⟨[.one],[(false,[.fresh 103 2])],false⟩),(45,⟨[.one],[(false,[.fresh 101 6])],false⟩),(74,⟨[.agg 3,.one],[(false,[.scal])],true⟩),(120,⟨[.mine 101 6,.one,.one],[(false,[.fresh 101 6])],false⟩),(119,⟨[.mine 101 6,.one,.one],[(false,[.fresh 101 6])],false⟩),(144,⟨[.one,.one,.one],[(false,[.scal]),(false,[.scal])],true⟩),(111,⟨[.agg 3],[(false,[.scal])],true⟩),(73,⟨[.one,.agg 3,.one,.one],[(false,[.pure]),(true,[.pure]),(false,[.scal])],false⟩),zZr,(57,⟨[.one,.one],[(false,[.scal])],true⟩),(100,⟨[.agg 2,.agg 2],[(false,[.scal])],true⟩),(60,⟨[.one,.one,.clos 61 []],[(false,[.scal])],true⟩),(59,⟨[.agg 2,.agg 2],[(false,[.scal])],true⟩),(67,⟨[.one],[(false,[.scal])],true⟩),(68,⟨[.agg 2,.agg 2],[(false,[.scal])],true⟩),(20,⟨[.one],[(false,[.scal])],true⟩),(16,⟨[.one,.one],[(false,[.scal])],true⟩),(61,⟨[.agg 6,.agg 6],[(false,[.scal])],true⟩),(75,⟨[.one,.agg 3,.one,.agg 1],[(false,[.pure]),(false,[.scal])],false⟩),(165,⟨[.one,.one,.one],[(false,[.fresh 3 1]),(false,[.scal])],false⟩),(210,⟨[.one,.one],[(false,[.scal])],true⟩),(211,⟨[.one,.one],[(false,[.scal])],true⟩),(212,⟨[.one,.one],[(false,[.scal])],true⟩),(214,⟨[.one,.one],[(false,[.scal])],true⟩),(215,⟨[.one,.one],[(false,[.scal])],true⟩),(216,⟨[.one],[(false,[.scal])],true⟩),(213,⟨[.one],[(false,[.scal])],true⟩),(217,⟨[.one],[(false,[.scal])],true⟩),(104,⟨[.one],[(false,[.scal])],true⟩),(143,⟨[.one,.one],[(false,[.scal])],true⟩),(142,⟨[],[(true,[.scal,.scal,.scal,.scal,.scal,.scal,.scal,.scal,.scal,.scal,.scal,.scal,.scal,.scal])],true⟩),zZr,(155,⟨[.one],[(false,[.scal])],true⟩),(134,⟨[.one,.one,.one],[(false,[.fresh 3 1]),(false,[.scal])],false⟩),(108,⟨[.one,.one,.one],[(false,[.scal])],true⟩),(131,⟨[.one],[(false,[.pure])],false⟩),(29,⟨[.one,.one],[(false,[.scal])],true⟩),zZr,(105,⟨[.one],[(false,[.scal])],true⟩),(107,⟨[.one,.agg 2],[(false,[.scal])],false⟩),(110,⟨[.one],[(false,[.fresh 101 6])],false⟩),(56,⟨[.agg 3,.one],[(false,[.scal])],true⟩),(109,⟨[.one],[(false,[.fresh 101 6])],false⟩),zZr,(55,⟨[.one,.agg 3,.one,.one],[(false,[.pure]),(true,[.pure]),(false,[.scal])],false⟩),(79,⟨[.one,.agg 3,.one,.agg 1],[(false,[.pure]),(false,[.scal])],false⟩),(71,⟨[.agg 3],[(false,[.scal]),(false,[.scal])],true⟩),(70,⟨[.agg 5],[(false,[.scal]),(false,[.scal])],true⟩),zZr,zZr,zZr,zZr,zZr,(72,⟨[.agg 1,.one],[(true,[.pure]),(false,[.pure]),(false,[.scal])],false⟩),zZr,(23,⟨[.agg 1,.agg 5],[(true,[.pure]),(false,[.scal]),(false,[.pure]),(false,[.scal])],false⟩),(63,⟨[.one],[(false,[.scal]),(false,[.scal])],true⟩),(24,⟨[.agg 1,.one,.agg 5],[(false,[.pure]),(false,[.pure]),(false,[.scal])],false⟩),zZr,(13,⟨[.one,.one],[(false,[.scal])],true⟩),(27,⟨[],[(false,[.scal])],true⟩),(54,⟨[.agg 3],[(false,[.scal])],true⟩),zZr,zZr,zZr,zZr,zZr,zZr,zZr,zZr,zZr,zZr,(25,⟨[.agg 1,.one,.agg 5,.one],[(false,[.pure]),(false,[.scal])],false⟩),zZr,zZr,zZr,zZr,zZr,zZr,zZr,zZr,zZr,zZr,zZr,zZr,zZr,(26,⟨[.agg 5],[(false,[.scal])],true⟩),zZr,(77,⟨[.agg 5],[(false,[.scal])],true⟩),zZr,zZr,zZr,zZr,(121,⟨[.agg 2],[(false,[.scal])],true⟩),zZr,zZr,zZr,zZr,zZr,zZr,zZr,(19,⟨[.agg 1],[(false,[.scal])],true⟩),zZr,(78,⟨[.one,.one],[(false,[.pure]),(false,[.pure]),(false,[.scal])],false⟩),(69,⟨[.one],[(false,[.scal])],true⟩),(28,⟨[.one,.agg 5],[(false,[.pure]),(false,[.scal]),(false,[.pure]),(false,[.scal])],false⟩),(81,⟨[.agg 1,.agg 1],[(false,[.scal])],true⟩),(80,⟨[.one,.one,.clos 81 []],[(false,[.scal])],true⟩),(32,⟨[.one,.one],[(false,[.scal])],true⟩),(30,⟨[.one,.one,.agg 5],[(false,[.pure]),(false,[.pure]),(false,[.scal])],false⟩),(31,⟨[.one,.one,.agg 5,.one],[(false,[.pure]),(false,[.scal])],false⟩),zZr,zZr,zZr,zZr,zZr,zZr,zZr,zZr,zZr,zZr,zZr,zZr,zZr]
noncomputable def z2a:zd:=spD (fun _:List Op=>True) fun l=>za l
noncomputable def z7e:zd:=spD (fun _:Tx=>True) fun t=>zg t
noncomputable def z7f:zd:=spD (fun l:List Op=>l.length≤8796093022208) fun l=>l
noncomputable def z4a:zd:=spD (fun l:List Coin=>l.length≤1000000) fun l=>l
noncomputable def z6x:zd:=spD (fun _:List Op × List Op=>True) fun x=>decide (x.1=x.2)
theorem za9:Meets Tryz.prog z2a 91 ⟨[.one],[(false,[.scal])],true⟩ :=
 za4 (e:=fun x:{ x:List Op // True }=>Enc.e x.1) (d:=fun x=>I (za x.1)) rfl (z2t (fn:=Tryz.f91) (by kernel_rfl) (by kernel_rfl) (by kernel_rfl)) (fun _=>rfl) fun x W F us hF h=>by
  obtain ⟨v,us,rfl,h1,h⟩:=z1q h;obtain rfl:=z30 h;obtain ⟨A,n,c,rfl,k1⟩:=z3w z8u h1;exact (zav x.1 A n c W F k1 hF).mono fun e w' h=>⟨_,h.1,h.2,.i _ _ (wrap_i64 (zn4 x.1).i64)⟩
theorem zs2:Meets Tryz.prog z7e 111 ⟨[.agg 3],[(false,[.scal])],true⟩ :=
 za4 (e:=fun x:{ x:Tx // True }=>Enc.e x.1) (d:=fun x=>I (zg x.1)) rfl (z2t (fn:=Tryz.f111) (by kernel_rfl) (by kernel_rfl) (by kernel_rfl)) (fun _=>rfl) fun x W F us hF h=>by
  obtain ⟨cs,rfl,hr⟩:=zca h;exact (zdw x.1 cs W F (she_tx.of hr) hF).mono fun e w' h=>⟨_,h.1,h.2,.i _ _ (wrap_i64 (z0br x.1).i64)⟩
theorem z0eu:Meets Tryz.prog z7f 64 ⟨[.one],[(false,[.fresh 103 2])],false⟩ :=
 zdu (e:=fun x:{ l:List Op // l.length≤8796093022208 }=>Enc.e x.1) (xs:=fun x=>x.1) z8u rfl rfl (by decide) (z2t (fn:=Tryz.f64) (by kernel_rfl) (by kernel_rfl) (by kernel_rfl)) fun x W F us hF h=>by
  obtain ⟨v,us,rfl,h1,h⟩:=z1q h;obtain rfl:=z30 h;obtain ⟨A,n,c,rfl,k1⟩:=z3w z8u h1;have:=x.2;have:=k1.1;exact (z0hz x.1 A n c W F k1 hF (by omega)).mono fun r W' h=>⟨n,h⟩
theorem zkk:Meets Tryz.prog z4a 93 ⟨[.one],[(false,[.fresh 101 6])],false⟩ :=
 zdu (e:=fun x:{ l:List Coin // l.length≤1000000 }=>Enc.e x.1) (xs:=fun x=>x.1) she_coin rfl rfl (by decide) (z2t (fn:=Tryz.f93) (by kernel_rfl) (by kernel_rfl) (by kernel_rfl)) fun x W F us hF h=>by
  obtain ⟨v,us,rfl,h1,h⟩:=z1q h;obtain rfl:=z30 h;obtain ⟨A,n,c,rfl,k1⟩:=z3w she_coin h1;have:=x.2;have:=k1.1;exact (zmp x.1 A n c W F k1 hF (by omega)).mono fun r W' h=>⟨n,h⟩
noncomputable def zbe:zd:=spD (fun _:Point × Point=>True) fun x=>z1h x.1 x.2
theorem zsw (p q:Point):zbe [I p.tx,I p.at_,I q.tx,I q.at_]=some [I (z1h p q)]:=zm (f:=fun x:Point × Point=>z1h x.1 x.2) (p,q) trivial
theorem z6i (l:List Op):z2a [.l 2 (l.map eOp)]=some [I (za l)]:=zm (f:=fun l:List Op=>za l) l trivial
theorem zfj (l:List Op) (h:l.length≤8796093022208):z7f [.l 2 (l.map eOp)]=some [.l 2 (l.map eOp)]:=zm (f:=fun l:List Op=>l) l h
theorem z6y (l:List Coin) (h:l.length≤1000000):z4a [.l 6 (l.map zb)]=some [.l 6 (l.map zb)]:=zm (f:=fun l:List Coin=>l) l h
theorem zn5 {P:Program} {s s':zd} {f:Nat} {g:Sig} (h:Meets P s f g) (he:∀ ds rs,s' ds=some rs→s ds=some rs):Meets P s' f g:=by
 refine ⟨fun hm W F ds args rs hF ha hs=>h.1 hm W F ds args rs hF ha (he _ _ hs),fun e sz ps hp W F base v xs vs ds args rs h1 h2 h3 h4 h5 h6 h7 hs=>h.2 e sz ps hp W F base v xs vs ds args rs h1 h2 h3 h4 h5 h6 h7 (he _ _ hs)⟩
theorem z0ev:Meets Tryz.prog zbe 92 ⟨[.agg 2,.agg 2],[(false,[.scal])],true⟩:=zn5 z0er fun ds rs h=>by
 obtain ⟨⟨p,q⟩,-,rfl,rfl⟩:=zp h;exact zn2 p q
noncomputable def z7g:zd:=spD (fun x:List Coin × Point=>z03 x.1∧x.1.length≤1000000) fun x=>((zi x.1 x.2:Int),z1i x.1 x.2)
theorem z62 (l:List Coin) (p:Point) (h:z03 l) (hl:l.length≤1000000):z7g [.l 6 (l.map zb),I p.tx,I p.at_]=some [I (zi l p),.b (z1i l p)]:=zm (p:=fun x:List Coin × Point=>z03 x.1∧x.1.length≤1000000) (f:=fun x:List Coin × Point=>((zi x.1 x.2:Int),z1i x.1 x.2)) (l,p) ⟨h,hl⟩
theorem zs3:Meets Tryz.prog z7g 118 ⟨[.one,.agg 2],[(false,[.scal]),(false,[.scal])],true⟩:=zn5 z0p8 fun ds rs h=>by
 obtain ⟨⟨l,p⟩,⟨h1,h2⟩,rfl,rfl⟩:=zp h;exact zs1 l p h1 h2
def z4c (c:Coin):Int:=if c.p.tx<1∨120<c.p.tx∨c.p.at_<0∨6≤c.p.at_∨c.o.coin<1∨1000000000<c.o.coin∨c.height<1∨1000<c.height then 3 else za c.o.lock
def zh:List Coin→Int
 | []=>0
 | c::l=>c.o.coin+zh l
theorem z4j (l r:List Coin):zh (l++r)=zh l+zh r:=by
 induction l with
 | nil=>simp [zh]
 | cons c l ih=>simp only [zY1l,zh,ih];omega
def z6b:Point→Int→List Coin→Int
 | _,_,[]=>0
 | pv,s,c::r=>if c.p.tx<1∨120<c.p.tx∨c.p.at_<0∨6≤c.p.at_∨c.o.coin<1∨1000000000<c.o.coin∨c.height<1∨1000<c.height then 3
  else if za c.o.lock≠0 then za c.o.lock else if 0≤z1h pv c.p then 6 else if 1000000000<s+c.o.coin then 12 else z6b c.p (s+c.o.coin) r
def z9 (l:List Coin):Int:=if 720<(l.length:Int) then 2 else z6b ⟨0,0⟩ 0 l
noncomputable def z2u:zd:=spD (fun _:List Coin=>True) fun l=>z9 l
theorem z44 (l:List Coin):z2u [.l 6 (l.map zb)]=some [I (z9 l)]:=zm (f:=fun l:List Coin=>z9 l) l trivial
attribute [local irreducible] z00 spD z1h
def z06u:T :=
 .lets [.bin .gtr 30 (zI 1000000000)] [] (.ite 31 (.ret [zI 12]) (.lets [.bin .add 6 (zI 1)] [] (.again 0 [30,5,32])))
def z06v:T :=
 .lets [.call 3 [26,27,8,9] 0] [] (.lets [.bin .geq 28 (zI 0)] [] (.ite 29 (.ret [zI 6]) (.lets [.bin .add 4 10] []
 z06u)))
def z06w:T :=
 .lets [.bin .gtr 25 (zI 1000000000)] [] (.ite 26 (.ret [zI 12]) (.lets [.bin .add 6 (zI 1)] [] (.again 0 [25,5,27])))
def z06x:T :=
 .ite 24 (.lets [.bin .sub 6 (zI 1)] [] (.lets [] [.inr 6 0 25] (.lets [.idx 0 25 0,.idx 0 25 1] [] z06v))) (.lets [.bin
 .add 4 10] [] z06w)
def z06y:T :=
 .lets [.call 7 [11] 0] [] (.lets [.bin .neq 22 (zI 0)] [] (.ite 23 (.ret [22]) (.lets [.bin .gtr 6 (zI 0)] [] z06x)))
def z06z:T :=
 .lets [.bin .lss 12 (zI 1)] [] (.ite 20 (.ret [zI 3]) (.lets [.bin .gtr 12 (zI 1000)] [] (.ite 21 (.ret [zI 3])
 z06y)))
def z070:T :=
 .lets [.bin .lss 10 (zI 1)] [] (.ite 18 (.ret [zI 3]) (.lets [.bin .gtr 10 (zI 1000000000)] [] (.ite 19 (.ret [zI 3])
 z06z)))
def z071:T :=
 .lets [.bin .lss 9 (zI 0)] [] (.ite 16 (.ret [zI 3]) (.lets [.bin .geq 9 (zI 6)] [] (.ite 17 (.ret [zI 3]) z070)))
def z072:T :=
 .lets [.bin .lss 8 (zI 1)] [] (.ite 14 (.ret [zI 3]) (.lets [.bin .gtr 8 (zI 120)] [] (.ite 15 (.ret [zI 3])
 z071)))
def z073:T :=
 .lets [] [.inr 6 0 6] (.lets [.idx 0 6 0,.idx 0 6 1,.idx 0 6 2,.idx 0 6 3,.idx 0 6 4,.idx 0 6 5] []
 z072)
def zyq:T :=
 .lets [.len 0] [] (.loop [zI 0,zI 0,zI 0] (.lets [.bin .lss 6 3] [] (.ite 7 z073 (.ret [zI 0]))))
def zhb:T :=
 .lets [.len 0] [] (.lets [.bin .gtr 1 (zI 720)] [] (.ite 2 (.ret [zI 2]) zyq))
theorem zdc:Meets Tryz.prog z2u 44 ⟨[.one],[(false,[.scal])],true⟩:=by
 refine zl (sp:=(z0g [(3,zbe),(7,z2a)])) (sigs:=z0p) (cut:=[]) (hints:=[⟨5,[.t 3,.t 2,.t 12]⟩]) (fn:=Tryz.f44) (t:=zhb) (by kernel_rfl) (by kernel_rfl) (by kernel_rfl) ?_ ?_
 ·exact (z05 (L:=[(3,zbe),(7,z2a)]) ⟨ze rfl z0ev,ze rfl za9,trivial⟩)
 ·rintro ds rs - h
  obtain ⟨l,-,rfl,rfl⟩:=zp h;clear h;refine ⟨⟨l.length+1,?_⟩,z04 rfl⟩
  show den _ _ zhb [.l 6 (l.map zb)] []=ret (z9 l)
  unfold zhb z9
  repeat' (first|refine dq1 ?_|exact z6 rfl rfl|refine tR (fun h=>?_) fun h=>?_|fail)
  (refine zr (fun (st:Point × Int) k=>[I st.2,I 0,I k]) (fun st k r=>z6b st.1 st.2 r) (fun st k=>((k=0∧st.1=⟨0,0⟩)∨(0<k∧∃ d,l[((k:Int) - 1).toNat]? = some d∧d.p=st.1))∧0≤st.2∧st.2≤1000000000) (⟨0,0⟩,0) l ?_ ?_ ?_ ?_ ?_;rfl;exact ⟨.inl ⟨rfl,rfl⟩,by decide,by decide⟩;exact zY26 _)
  ·rintro ⟨pv,s⟩ k c r hx hd hk ⟨hp,hs0,hs1⟩ again hag
   simp only at hp hs0 hs1 ⊢;rw [z6b]
   repeat' (first|refine dq1 ?_|refine dqc ?_|refine dqm ?_|refine dqk rfl (z6i _) ?_|exact z6 rfl rfl|((first|refine tR ?_ ?_|refine tO ?_ ?_) <;> intro h)|refine dqT ?_|fail)
   refine z36 rfl (fun h=>?_) (fun h=>?_)
   ·obtain ⟨hk0,-⟩|⟨hk0,d,hd',rfl⟩:=hp
    ·omega
    repeat' (first|refine dq1 ?_|refine dqc ?_|refine dqm ?_|refine dqk rfl (zsw _ _) ?_|exact z6 rfl rfl|refine tR (fun h=>?_) fun h=>?_|fail)
    exact z7 rfl rfl (hag (c.p,s+c.o.coin) ⟨.inr ⟨by omega,c,by simpa using hx,rfl⟩,by simp only;omega,by simp only;omega⟩)
   ·obtain ⟨rfl,rfl⟩|⟨hk0,-⟩:=hp
    ·have ho:¬ 0≤z1h ⟨0,0⟩ c.p:=by
      have:=zir ⟨0,0⟩ c.p;unfold ltP at this;simp only at this;omega
     rw [if_neg ho]
     repeat' (first|refine dq1 ?_|exact z6 rfl rfl|refine tR (fun h=>?_) fun h=>?_|fail)
     exact z7 rfl rfl (hag (c.p,s+c.o.coin) ⟨.inr ⟨by omega,c,by simpa using hx,rfl⟩,by simp only;omega,by simp only;omega⟩)
    ·omega
  ·intro st hI again
   simp only [z6b]
   repeat' (first|refine dq1 ?_|exact z6 rfl rfl|refine dqF ?_|fail)
structure CoinsOK (l:List Coin):Prop where
 len:l.length≤720
 good:∀ c ∈ l,z4c c=0
 sorted:z03 l
 total:zh l≤1000000000
theorem z3k {c:Coin} (h:z4c c=0):1≤c.p.tx∧c.p.tx≤120∧0≤c.p.at_∧c.p.at_≤5∧1≤c.o.coin∧c.o.coin≤1000000000∧1≤c.height∧c.height≤1000∧za c.o.lock=0:=by
 unfold z4c at h
 split at h
 ·cases h
 ·omega
theorem zn6:∀ (l:List Coin) (p:Point) (s:Int),0≤s→s≤1000000000→(z6b p s l=0↔(∀ c ∈ l,z4c c=0)∧z03 l∧(∀ c ∈ l,ltP p c.p)∧s+zh l≤1000000000)
 | [],p,s,h0,h1=>by simp [z6b,z03,zh];omega
 | c::l,p,s,h0,h1=>by
  have ho:=zir p c.p;rw [z6b]
  by_cases hb:z4c c=0
  ·have hb':=hb
   unfold z4c at hb'
   split at hb'
   ·cases hb'
   rename_i hr;rw [if_neg hr,if_neg (by simp [hb'])];obtain ⟨_,_,_,_,hc1,hc2,_,_,_⟩:=z3k hb
   by_cases hlt:ltP p c.p
   ·rw [if_neg (by have:=ho.2 hlt;omega)]
    by_cases hf:1000000000<s+c.o.coin
    ·rw [if_pos hf]
     constructor
     ·intro h;cases h
     ·rintro ⟨h2,h3,h4,h5⟩
      have:∀ l:List Coin,(∀ c ∈ l,z4c c=0)→0≤zh l:=by
       intro l
       induction l with
       | nil=>intro _;simp [zh]
       | cons d l ih =>
        intro h;have:=z3k (h d (zY0p ..));have:=ih fun x hx=>h x (zY0n _ hx)
        simp only [zh];omega
      have:=this l fun x hx=>h2 x (zY0n _ hx)
      simp only [zh] at h5;omega
    ·rw [if_neg hf,zn6 l c.p (s+c.o.coin) (by omega) (by omega)]
     simp only [z03,zh,zY0i,forall_eq_or_imp,zY1v];constructor
     ·rintro ⟨h2,h3,h4,h5⟩
      exact ⟨⟨hb,h2⟩,⟨h4,h3⟩,⟨hlt,fun x hx=>z6u hlt (h4 x hx)⟩,by omega⟩
     ·rintro ⟨⟨_,h2⟩,⟨h4,h3⟩,_,h5⟩
      exact ⟨h2,h3,h4,by omega⟩
   ·rw [if_pos (by rcases Int.lt_or_le (z1h p c.p) 0 with h|h;exact absurd (ho.1 h) hlt;exact h)]
    constructor
    ·intro h;cases h
    ·rintro ⟨_,_,h4,_⟩
     exact absurd (h4 c (zY0p ..)) hlt
  ·constructor
   ·intro h
    exfalso
    apply hb;unfold z4c
    split
    ·rename_i hr
     rw [if_pos hr] at h;cases h
    ·rename_i hr
     rw [if_neg hr] at h
     by_cases hc:za c.o.lock=0
     ·exact hc
     ·rw [if_pos hc] at h;exact absurd h hc
   ·rintro ⟨h2,_⟩
    exact absurd (h2 c (zY0p ..)) hb
theorem zce {l:List Coin} (h:∀ c ∈ l,z4c c=0):0≤zh l:=by
 induction l with
 | nil=>simp [zh]
 | cons d l ih =>
  have:=z3k (h d (zY0p ..));have:=ih fun x hx=>h x (zY0n _ hx)
  simp only [zh];omega
theorem z17 (l:List Coin):z9 l=0↔CoinsOK l:=by
 unfold z9
 by_cases h:(720:Int)<l.length
 ·rw [if_pos h]
  constructor
  ·intro h;cases h
  ·intro ok;have:=ok.len;omega
 ·rw [if_neg h,zn6 l ⟨0,0⟩ 0 (by decide) (by decide)]
  constructor
  ·rintro ⟨h1,h2,_,h4⟩;exact ⟨by omega,h1,h2,by omega⟩
  ·intro ok
   refine ⟨ok.good,ok.sorted,fun c hc=>?_,by have:=ok.total;omega⟩;have:=z3k (ok.good c hc);unfold ltP;simp only;omega
theorem z8y {l:List Op} (h:za l=0):l.length≤16:=by
 unfold za at h
 split at h
 ·cases h
 ·omega
end
section
open Go.RowKit Go.Shelf
open Go.Lib (itoa atoiAll atoiSat)
set_option maxRecDepth 100000
structure GoErr where
 is:Bool
instance:Enc GoErr:=⟨fun x=>[.e x.is],1,fun _=>rfl,fun x y h=>by cases x;cases y;simpa using h⟩
section
variable {P:Program} {W:World} {F:Nat→Prop}
theorem ziu {x:List UInt8} {v:Value} (h:Rep W F (.s x) v):v = .string ⟨x.toArray⟩∧x.length≤9223372036854775807:=by
 cases h
 exact ⟨rfl,by assumption⟩
theorem z0ih {l:List (List UInt8)} {v:Value} (h:Rep W F (.l 1 (l.map z13)) v):∃ A c b o,v = .slice A l.length c∧l.length≤c∧c≤9223372036854775807∧(0<l.length→A=some ⟨b,o,none⟩∧F b)∧∀ (j:Nat) x,l[j]? = some x→W.cell? ⟨b,o+j,none⟩=some (.string ⟨x.toArray⟩):=by
 cases h with
 | l _ _ A n c b o vs h0 h1 h2 h3 h4 h5 h6 =>
  subst h0;refine ⟨A,c,b,o,by rw [zY0v],by simpa using h1,h2,by simpa using h4,fun j x hx=>?_⟩;have e1:=h5 j 0 (z13 x) (.s x) (by rw [zY0j,hx];rfl) rfl;have e2:=h6 j 0 (z13 x) (.s x) (by rw [zY0j,hx];rfl) rfl;rw [(ziu e2).1] at e1;simpa using e1
theorem z52 {α β:Type} [Enc α] [Enc β] {p:α→Prop} {f:α→β} {s:Sig} {fnum:Nat} (hpk:z45 s.args=false) (hen:En P fnum)
  (h:∀ x,p x→∀ W F us,z9o F W→PKRs W F s.args (Enc.e x) us→Calls P fnum us.toArray W fun r W'=>∃ v,r = .returned v∧Below W.heap.size W W'∧∃ us F',ResR W F W' s (Enc.e (f x)) v us F'):Meets P (spD p f) fnum s :=
 .mk hpk fun W F ds args rs hF ha hs=>by
  obtain ⟨x,hx,rfl,rfl⟩:=zp hs;exact .inl ⟨hen.run _ _,(h x hx W F args hF ha).mono fun r W' ⟨v,h1,h2,h3⟩=>⟨v,h1,h2,h3⟩⟩
theorem zn7 {α:Type} [Enc α] {p:α→Prop} {f:α→List UInt8} {pk:List PK} {fnum:Nat} (hpk:z45 pk=false) (hen:En P fnum)
  (h:∀ x,p x→∀ W F us,z9o F W→PKRs W F pk (Enc.e x) us→(f x).length≤9223372036854775807∧Calls P fnum us.toArray W fun r W'=>r = .returned (.string ⟨(f x).toArray⟩)∧Below W.heap.size W W'):Meets P (spD p f) fnum ⟨pk,[(false,[.scal])],true⟩ :=
 z52 hpk hen fun x hx W F us hF ha=>(h x hx W F us hF ha).2.mono fun r W' ⟨h1,h2⟩=>⟨_,h1,h2,zf9 rfl (.s _ (h x hx W F us hF ha).1)⟩
theorem z0bs {α:Type} [Enc α] {p:α→Prop} {f:α→Bool} {pk:List PK} {fnum:Nat} (hpk:z45 pk=false) (hen:En P fnum)
  (h:∀ x,p x→∀ W F us,z9o F W→PKRs W F pk (Enc.e x) us→Calls P fnum us.toArray W fun r W'=>r = .returned (.bool (f x))∧Below W.heap.size W W'):Meets P (spD p f) fnum ⟨pk,[(false,[.scal])],true⟩ :=
 z52 hpk hen fun x hx W F us hF ha=>(h x hx W F us hF ha).mono fun r W' ⟨h1,h2⟩=>⟨_,h1,h2,zf9 rfl (.b _)⟩
theorem zfk {α:Type} [Enc α] {p:α→Prop} {f:α→Int} {pk:List PK} {fnum:Nat} (hpk:z45 pk=false) (hen:En P fnum)
  (h:∀ x,p x→∀ W F us,z9o F W→PKRs W F pk (Enc.e x) us→I64 (f x)∧Calls P fnum us.toArray W fun r W'=>r = .returned (.int .i64 (f x))∧Below W.heap.size W W'):Meets P (spD p f) fnum ⟨pk,[(false,[.scal])],true⟩ :=
 z52 hpk hen fun x hx W F us hF ha=>(h x hx W F us hF ha).2.mono fun r W' ⟨h1,h2⟩=>⟨_,h1,h2,zf9 rfl (.i _ _ (wrap_i64 (h x hx W F us hF ha).1))⟩
theorem zpv {s:List PK} {l:Bool} {W':World} {d1 d2:Dt} {v1 v2:Value} (h1:d1.scal=true) (h2:d2.scal=true) (r1:Rep W' F d1 v1) (r2:Rep W' F d2 v2):∃ us F',ResR W F W' ⟨s,[(false,[.scal]),(false,[.scal])],l⟩ [d1,d2] (.tuple #[v1,v2]) us F':=by
 refine ⟨[v1,v2],F,zkg ⟨[v1,v2],rfl,v1,[v2],[v1],[v2],rfl,rfl,⟨rfl,rfl⟩,v2,[],[v2],[],rfl,rfl,⟨rfl,rfl⟩,rfl,rfl⟩ ?_ ?_ rfl ⟨r1,r2,trivial⟩ fun b hb=>.inl hb⟩
 ·intro c hc
  simp only [zq,zY1z,zY2n,zY1e,zY1l,zY18,zY0i,zY1h,or_false] at hc;rcases hc with rfl|rfl <;> exact .inl rfl
 ·intro j d hj hd
  match j,hd with
  | 0,hd=>simp only [zY05,zY00] at hd;subst hd;exact h1
  | 1,hd=>simp only [zY05,zY24,zY00] at hd;subst hd;exact h2
  | j+2,hd=>simp at hd
end
theorem z5u (n:Int) (h:I64 n):(itoa n).length≤20:=by
 obtain ⟨h0,h1⟩:=h
 by_cases hn:n<0
 ·rw [zkh hn,zY0c]
  have:=z4t 18 n.natAbs (by omega);omega
 ·rw [zki hn]
  have:=z4t 18 n.toNat (by omega);omega
noncomputable def z4d:zd:=spD (fun _:Int=>True) fun n=>itoa n
theorem z5v (n:Int):z4d [I n]=some [.s (itoa n)]:=zm (f:=fun n:Int=>itoa n) n trivial
theorem zn8:Meets Tryz.prog z4d 104 ⟨[.one],[(false,[.scal])],true⟩ :=
 zn7 rfl (z2t (fn:=Tryz.f104) (by kernel_rfl) (by kernel_rfl) (by kernel_rfl)) fun n _ W F us hF h=>by
  obtain ⟨v,us,rfl,h1,h⟩:=z1q h;obtain rfl:=z30 h;obtain ⟨rfl,hn⟩:=zit h1;refine ⟨by have:=z5u n hn;omega,(Any.strconv_Itoa Tryz.lays171 n hn.1 hn.2 W hF.2.1).mono ?_⟩;rintro e w' ⟨rfl,k,os,rfl⟩;exact ⟨rfl,Go.Lib.below_grow _ _ (zY0h _) k os⟩
noncomputable def zbf:zd:=spD (fun x:List (List UInt8) × List UInt8=>x.1.length≤1000000∧(Go.Lib.join x.1 x.2).length≤1000000000) fun x=>Go.Lib.join x.1 x.2
theorem zsx (l:List (List UInt8)) (s:List UInt8) (h:l.length≤1000000∧(Go.Lib.join l s).length≤1000000000):zbf [.l 1 (l.map z13),.s s]=some [.s (Go.Lib.join l s)] :=
 zm (p:=fun x:List (List UInt8) × List UInt8=>x.1.length≤1000000∧(Go.Lib.join x.1 x.2).length≤1000000000) (f:=fun x:List (List UInt8) × List UInt8=>Go.Lib.join x.1 x.2) (l,s) h
theorem z0ew:Meets Tryz.prog zbf 143 ⟨[.one,.one],[(false,[.scal])],true⟩ :=
 zn7 rfl (z2t (fn:=Tryz.f143) (by kernel_rfl) (by kernel_rfl) (by kernel_rfl)) fun ⟨l,s⟩ ⟨hl,hj⟩ W F us hF h=>by
  obtain ⟨v,us,rfl,h1,h⟩:=z1q h;obtain ⟨v2,us,rfl,h2,h⟩:=z1q h;obtain rfl:=z30 h;obtain ⟨A,c,b,o,rfl,hc,hcm,hp,hcell⟩:=z0ih h1;obtain ⟨rfl,-⟩:=ziu h2;simp only at hl hj hc hp hcell;refine ⟨by simp only;omega,?_⟩
  by_cases h0:l.length=0
  ·obtain rfl:l=[]:=zY08 h0
   exact (Any.strings_Join_none Tryz.lays156 Tryz.Builder_Extra_156 A c ⟨s.toArray⟩ W).mono fun e w' ⟨h1,h2⟩=>⟨h1,h2 ▸ Below.refl _ _⟩
  ·obtain ⟨rfl,hb⟩:=hp (by omega)
   have hd:∀ l:List (List UInt8),(l.map fun x=>(⟨x.toArray⟩:ByteArray)).map (·.data.toList)=l:=fun l=>by rw [zY3q];exact (List.map_congr_left fun x _=>rfl).trans (List.map_id l)
   have key:=Any.strings_Join Tryz.lays156 Tryz.Builder_Extra_156 b o c (l.map fun x=>(⟨x.toArray⟩:ByteArray)) ⟨s.toArray⟩ W (fun j x hx=>by
    rw [zY0j] at hx;obtain ⟨y,hy,rfl⟩:=zY0s.1 hx;exact hcell j y hy) (hF.1 b hb) (by rw [zY0v];omega) (by rw [zY0v];omega) (by rw [hd];simp only;omega)
   rw [hd,zY0v] at key;exact key
end
section
open Go.RowKit Go.Shelf
open Go.Lib (itoa atoiAll atoiSat)
set_option maxRecDepth 100000
theorem z0o9 (x:List UInt8):(⟨x.toArray⟩:ByteArray).size=x.length:=by
 show x.toArray.size=x.length
 simp
section
variable {P:Program} {W:World} {F:Nat→Prop}
theorem zyr (t:Nat) (L:List (List UInt8)) (hx:∀ x ∈ L,x.length≤9223372036854775807) (hL:L.length≤9223372036854775807) :
  Rep (W.alloc (.cells (L.map fun x=>Value.string ⟨x.toArray⟩).toArray t)) (fun b=>F b∨b=W.heap.size) (.l 1 (L.map z13)) (.slice (some ⟨W.heap.size,0,none⟩) L.length L.length):=by
 refine .l 1 _ _ _ _ W.heap.size 0 (fun i _=>.string ⟨((L[i]?).getD []).toArray⟩) (by rw [zY0v]) (by rw [zY0v];exact zY0h _) hL (fun x hx=>?_) (fun _=>⟨rfl,.inr rfl⟩) (fun i j x d hi hj=>?_) (fun i j x d hi hj=>?_)
 ·obtain ⟨y,_,rfl⟩:=zY2g.1 hx;rfl
 ·rw [zY0j] at hi
  obtain ⟨y,hy,rfl⟩:=zY0s.1 hi
  match j,hj with
  | 0,hj =>
   have hc:(W.alloc (.cells (L.map fun x=>Value.string ⟨x.toArray⟩).toArray t)).heap[W.heap.size]? = some (.cells (L.map fun x=>Value.string ⟨x.toArray⟩).toArray t):=heap_alloc_new W _;rw [hy];simp only [World.cell?,hc,zY0x,Nat.mul_one,zY2b,zY2s,zY0j,hy,zY1a,zY1k];rfl
 ·rw [zY0j] at hi
  obtain ⟨y,hy,rfl⟩:=zY0s.1 hi
  match j,hj with
  | 0,hj =>
   simp only [z13,zY05,zY00] at hj;subst hj;rw [hy];exact .s y (hx y (zY0a hy))
theorem z0ii {s:List PK} {l:Bool} {t:Nat} {L:List (List UInt8)} (hx:∀ x ∈ L,x.length≤9223372036854775807) (hL:L.length≤9223372036854775807) :
  ∃ us F',ResR W F (W.alloc (.cells (L.map fun x=>Value.string ⟨x.toArray⟩).toArray t)) ⟨s,[(false,[.pure])],l⟩ (Enc.e L) (.slice (some ⟨W.heap.size,0,none⟩) L.length L.length) us F':=by
 refine ⟨[_],fun b=>F b∨b=W.heap.size,zkg ⟨rfl,rfl⟩ ?_ ?_ rfl ⟨zyr t L hx hL,trivial⟩ fun b hb=>?_⟩
 ·intro c hc
  simp only [zq,zY1z,zY2n,zY1e,zY0i,zY1h,or_false] at hc;exact .inr hc
 ·intro j d hj hd
  match j,hj with
  | 0,hj=>cases hj
  | j+1,hj=>simp [zq] at hj
 ·rcases hb with hb|rfl
  ·exact .inl hb
  ·exact .inr ⟨zY0h _,by simp⟩
end
noncomputable def z5j:zd:=spD (fun x:List UInt8=>x.length≤1000000∧(∀ b ∈ x,b.toNat<128)∧(Go.Lib.fields x).length≤1000000∧∀ y ∈ Go.Lib.fields x,y.length≤1000000) fun x=>Go.Lib.fields x
theorem zn9 (x:List UInt8) (h:x.length≤1000000∧(∀ b ∈ x,b.toNat<128)∧(Go.Lib.fields x).length≤1000000∧∀ y ∈ Go.Lib.fields x,y.length≤1000000):z5j [.s x]=some [.l 1 ((Go.Lib.fields x).map z13)] :=
 zm (p:=fun x:List UInt8=>x.length≤1000000∧(∀ b ∈ x,b.toNat<128)∧(Go.Lib.fields x).length≤1000000∧∀ y ∈ Go.Lib.fields x,y.length≤1000000) (f:=fun x:List UInt8=>Go.Lib.fields x) x h
theorem z074:Meets Tryz.prog z5j 131 ⟨[.one],[(false,[.pure])],false⟩ :=
 z52 rfl (z2t (fn:=Tryz.f131) (by kernel_rfl) (by kernel_rfl) (by kernel_rfl)) fun s ⟨hs,ha,hn,hy⟩ W F us hF h=>by
  obtain ⟨v,us,rfl,h1,h⟩:=z1q h;obtain rfl:=z30 h;obtain ⟨rfl,-⟩:=ziu h1;refine (Any.strings_Fields_laid Tryz.lays157 ⟨s.toArray⟩ W (by rw [z0o9];omega) (fun j b hb=>ha b (zY0a hb)) hF.2.2.2.2).mono ?_;rintro e w' ⟨rfl,rfl⟩;refine ⟨_,rfl,(Below.refl _ _).alloc (zY0h _) _,?_⟩;have e:Go.Lib.fields (⟨s.toArray⟩:ByteArray).data.toList=Go.Lib.fields s:=rfl;rw [e];exact z0ii (fun x hx=>by have:=hy x hx;omega) (by omega)
def zcf (s:List UInt8):Int × GoErr:=match atoiAll s with
 | .ok v=>(v,⟨false⟩)
 | .range=>(atoiSat s,⟨true⟩)
 | _=>(0,⟨true⟩)
end
section
open Go.RowKit Go.Shelf
open Go.Lib (itoa atoiAll atoiSat)
set_option maxRecDepth 100000
end
section
open Go.RowKit
theorem zs4:∀ {l:List Out},z12 l=0→∀ o ∈ l,z4i o=0
 | [],_,o,ho=>by cases ho
 | x::l,h,o,ho=>by
  rw [z12] at h
  split at h
  ·rename_i hb;exact absurd h hb
  ·rename_i hb
   rcases zY0i.1 ho with rfl|ho
   ·exact zY12.1 hb
   ·exact zs4 h o ho
theorem z0ex {o:Out} (h:z4i o=0):1≤o.coin∧za o.lock=0:=by
 unfold z4i at h
 split at h
 ·cases h
 ·exact ⟨by omega,h⟩
theorem zys:∀ (l:List Int) (s:Int),(za8 l s).2=0→∀ x ∈ l,0≤x∧x≤1000000000
 | [],_,_,x,hx=>by cases hx
 | y::l,s,h,x,hx=>by
  unfold za8 at h
  by_cases hb:0≤y∧y≤1000000000
  ·rw [if_pos hb] at h
   by_cases hf:1000000000<s+y
   ·rw [if_pos hf] at h;cases h
   ·rw [if_neg hf] at h
    rcases zY0i.1 hx with rfl|hx
    ·exact hb
    ·exact zys l _ h x hx
  ·rw [if_neg hb] at h;cases h
structure TxOK (t:Tx):Prop where
 ins:t.ins.length≤6
 outs:t.outs.length≤6
 some:0<t.outs.length
 head:z27 t=0
 insOk:z15 t.ins []=0
 good:∀ o ∈ t.outs,1≤o.coin∧o.coin≤1000000000∧za o.lock=0
theorem z39 {t:Tx} (h:zg t=0):TxOK t:=by
 unfold zg at h
 split at h
 ·rename_i hb;exact absurd h hb
 rename_i h1
 split at h
 ·rename_i hb;exact absurd h hb
 rename_i h2
 split at h
 ·rename_i hb;exact absurd h hb
 rename_i h3;have h1:z27 t=0:=zY12.1 h1;have h3:z12 t.outs=0:=zY12.1 h3;have h1':=h1;unfold z27 at h1'
 split at h1'
 ·cases h1'
 split at h1'
 ·cases h1'
 refine ⟨by omega,by omega,by omega,h1,zY12.1 h2,fun o ho=>?_⟩;have a:=z0ex (zs4 h3 o ho);have b:=zys _ _ h o.coin (zY2g.2 ⟨o,ho,rfl⟩);exact ⟨a.1,b.2,a.2⟩
theorem zyt {x:In} (h:z37 x=0):1≤x.p.tx∧x.p.tx≤120∧0≤x.p.at_∧x.p.at_<6∧za x.key=0:=by
 unfold z37 at h
 split at h
 ·cases h
 ·exact ⟨by omega,by omega,by omega,by omega,h⟩
theorem zkl:∀ {l seen:List In},z15 l seen=0→∀ x ∈ l,z37 x=0
 | [],_,_,_,h=>by cases h
 | y::l,seen,h,x,hx=>by
  rw [z15] at h
  split at h
  ·rename_i hb;exact absurd h hb
  ·rename_i hb
   split at h
   ·cases h
   ·rcases zY0i.1 hx with rfl|hx
    ·exact zY12.1 hb
    ·exact zkl h x hx
theorem zjh {h:Int}:∀ {l:List Tx} {i:Nat},z3j h l i=0→∀ t ∈ l,zg t=0
 | [],_,_,t,ht=>by cases ht
 | y::l,i,e,t,ht=>by
  rw [z3j] at e
  by_cases h1:zg y≠0
  ·rw [if_pos h1] at e;exact absurd e h1
  ·rw [if_neg h1] at e
   split at e
   ·cases e
   ·rcases zY0i.1 ht with rfl|ht
    ·simpa using h1
    ·exact zjh e t ht
structure BlkOK (b:Block):Prop where
 range:¬ z38 b
 len:b.txs.length≤4
 some:0<b.txs.length
 go:z3j b.height b.txs 0=0
 each:∀ t ∈ b.txs,zg t=0
theorem z1g {b:Block} (h:zf b=0):BlkOK b:=by
 unfold zf at h
 by_cases h0:z4u b=0
 ·rw [if_neg (fun k=>k h0)] at h
  unfold z4u at h0
  split at h0
  ·cases h0
  split at h0
  ·cases h0
  split at h0
  ·cases h0
  exact ⟨by assumption,by omega,by omega,h,zjh h⟩
 ·rw [if_pos h0] at h;exact absurd h h0
end
section
open Go.Lib (itoa)
def z3f (x:In):List UInt8:=[105,110,32]++itoa x.p.tx++[32]++itoa x.p.at_++[58]++(z3a x.key).1++[10]
def z2j (x:Out):List UInt8:=[111,117,116,32]++itoa x.coin++[58]++(z3a x.lock).1++[10]
def z4e (t:Tx):List UInt8:=[116,120,32]++itoa t.height++[10]
def z0d (t:Tx):List UInt8:=z4e t++t.ins.flatMap z3f++t.outs.flatMap z2j
def z0b (t:Tx):List UInt8 × Int:=if zg t≠0 then ([],zg t) else (z0d t,0)
theorem zbg (l:List Op):(z3a l).1.length≤144:=by
 unfold z3a
 by_cases h:za l=0
 ·rw [if_neg (fun k=>k h)];exact za7 h
 ·rw [if_pos h];simp
def z4k (b:Block):List UInt8:=[98,108,111,99,107,32]++itoa b.parent++[32]++itoa b.height++[32]++itoa b.work++[32]++itoa b.nonce++[10]
def z18 (b:Block):List UInt8:=z4k b++b.txs.flatMap z0d
def z0h (b:Block):List UInt8 × Int:=if zf b≠0 then ([],zf b) else (z18 b,0)
theorem zbh {α:Type} (f:α→List UInt8) (m:Nat):∀ l:List α,(∀ x ∈ l,(f x).length≤m)→(l.flatMap f).length≤m * l.length
 | [],_=>by simp
 | x::r,h=>by
  have h1:=h x (by simp);have h2:=zbh f m r fun y hy=>h y (zY0n _ hy)
  simp only [zY1z,zY04,zY0c,Nat.mul_add,Nat.mul_one];omega
theorem z4f {n:Int} (h0 : -1000000000≤n) (h1:n≤1000000000):(itoa n).length≤20:=by
 by_cases hn:n<0
 ·rw [zkh hn,zY0c]
  have:=z4t 18 n.natAbs (by omega);omega
 ·rw [zki hn]
  have:=z4t 18 n.toNat (by omega);omega
theorem zs5 {x:In} (h:z37 x=0):(z3f x).length≤200:=by
 obtain ⟨h1,h2,h3,h4,h5⟩:=zyt h;have:=z4f (n:=x.p.tx) (by omega) (by omega);have:=z4f (n:=x.p.at_) (by omega) (by omega);have:=zbg x.key;simp [z3f];omega
theorem zna {x:Out} (h1:1≤x.coin) (h2:x.coin≤1000000000):(z2j x).length≤200:=by
 have:=z4f (n:=x.coin) (by omega) (by omega);have:=zbg x.lock;simp [z2j];omega
theorem zg7 {t:Tx} (h:z27 t=0):0≤t.height∧t.height≤1000:=by
 unfold z27 at h
 split at h
 ·cases h
 split at h
 ·cases h
 split at h
 ·cases h
 omega
theorem zhc {t:Tx} (h:zg t=0):(z0d t).length≤2500:=by
 have ok:=z39 h;have h0:=zg7 ok.head;have h1:=z4f (n:=t.height) (by omega) (by omega);have h2:=zbh z3f 200 t.ins fun x hx=>zs5 (zkl ok.insOk x hx)
 have h3:=zbh z2j 200 t.outs fun x hx=>zna (ok.good x hx).1 (ok.good x hx).2.1
 have h4:=ok.ins;have h5:=ok.outs;simp only [z0d,z4e,zY04,zY0c,zY0r];omega
theorem znb (t:Tx):(z0b t).1.length≤2500:=by
 unfold z0b
 by_cases h:zg t=0
 ·rw [if_neg (fun k=>k h)];exact zhc h
 ·rw [if_pos h];simp
theorem znc {t:Tx} (h:zg t=0):z0b t=(z0d t,0):=by
 unfold z0b;rw [if_neg (fun k=>k h)]
theorem zji {b:Block} (h:zf b=0):z0h b=(z18 b,0):=by
 unfold z0h;rw [if_neg (fun k=>k h)]
theorem z0bt {b:Block} (h:zf b=0):(z18 b).length≤20000:=by
 have ok:=z1g h;have hr:=ok.range;unfold z38 at hr;have h1:=z4f (n:=b.parent) (by omega) (by omega);have h2:=z4f (n:=b.height) (by omega) (by omega);have h3:=z4f (n:=b.work) (by omega) (by omega);have h4:=z4f (n:=b.nonce) (by omega) (by omega);have h5:=zbh z0d 2500 b.txs fun x hx=>zhc (ok.each x hx)
 have h6:=ok.len;simp only [z18,z4k,zY04,zY0c,zY0r];omega
theorem z075 (b:Block):(z0h b).1.length≤20000:=by
 unfold z0h
 by_cases h:zf b=0
 ·rw [if_neg (fun k=>k h)];exact z0bt h
 ·rw [if_pos h];simp
end
section
open Go.Lib (itoa atoiAll)
open Go.RowKit
def z0ey:List (List UInt8)→Option (List Int)
 | []=>some []
 | w::r=>match zpl w with
  | none=>none
  | some n=>(z0ey r).map fun l=>n::l
def tIn:List UInt8:=[105,110]
def tOut:List UInt8:=[111,117,116]
def tTx:List UInt8:=[116,120,32]
def z0lf (o:List Out) (i:List In) (x:List UInt8) (n:List Int):Option (List Out × List In) :=
 if (zmz (Go.Lib.cut x [58]).2.1).2≠0 then none else if Go.Lib.contains x [58]=false then none else
 if (z6h 32 (Go.Lib.cut x [58]).1).headD []=tIn∧n.length=2∧o.length=0 then some (o,i++[⟨⟨n.getD 0 0,n.getD 1 0⟩,(zmz (Go.Lib.cut x [58]).2.1).1⟩]) else
 if (z6h 32 (Go.Lib.cut x [58]).1).headD []=tOut∧n.length=1 then some (o++[⟨n.getD 0 0,(zmz (Go.Lib.cut x [58]).2.1).1⟩],i) else none
def z0ij (o:List Out) (i:List In) (x:List UInt8):Option (List Out × List In):=match z0ey ((z6h 32 (Go.Lib.cut x [58]).1).drop 1) with
 | none=>none
 | some n=>z0lf o i x n
def zTx:Tx:=⟨0,[],[]⟩
def z0ab (n:Int) (o:List Out) (i:List In):List (List UInt8)→Tx × Int
 | []=>if zg ⟨n,i,o⟩≠0 then (zTx,zg ⟨n,i,o⟩) else (⟨n,i,o⟩,0)
 | x::r=>match z0ij o i x with
  | none=>(zTx,1)
  | some p=>z0ab n p.1 p.2 r
def z0ez (s:List UInt8):Tx × Int:=if 4000<(s.length:Int) then (zTx,2) else
 if Go.Lib.hasSuffix s [10]=false then (zTx,1) else
 if Go.Lib.hasPrefix ((z6h 10 (Go.Lib.trimSuffix s [10])).headD []) tTx=false then (zTx,1) else
 match zpl (Go.Lib.trimPrefix ((z6h 10 (Go.Lib.trimSuffix s [10])).headD []) tTx) with
 | none=>(zTx,1)
 | some n=>z0ab n [] [] ((z6h 10 (Go.Lib.trimSuffix s [10])).drop 1)
end
section
open Go.Lib (itoa atoiAll)
open Go.RowKit
end
section
open Go.RowKit
def z3h (n:Int):Prop:=-1000000≤n∧n≤1000000
def z19 (b:Bool):Int:=if b=true then 1 else 0
def z10 (x:Int):Int:=(x * 7919+104729).tmod 1000003
def z8z (n:Int):Int:=(z10 (z10 (z10 (n+1000000)))).tmod 1000001
def z87 (s:List Int) (n:Int):Option (List Int):=if (s.length:Int)=16∨n < -1000000∨1000000<n then none else some (s++[n])
def z4r (s:List Int):Option (Int × List Int):=match s.getLast? with
 | none=>none
 | some a=>some (a,s.dropLast)
def z1m (s:List Int) (f:Int→Int):Option (List Int):=(z4r s).bind fun p=>z87 p.2 (f p.1)
def z1e (s:List Int) (f:Int→Int→Int):Option (List Int):=(z4r s).bind fun p=>(z4r p.2).bind fun q=>z87 q.2 (f q.1 p.1)
def z2v (h:Int) (s:List Int) (o:Op):Option (List Int) :=
 if o.kind=1 then z87 s o.n
 else if o.kind=2 then (z4r s).bind fun p=>(z87 p.2 p.1).bind fun s=>z87 s p.1
 else if o.kind=3 then (z4r s).bind fun p=>(z4r p.2).bind fun q=>(z87 q.2 p.1).bind fun s=>z87 s q.1
 else if o.kind=4 then (z4r s).bind fun p=>some p.2
 else if o.kind=5 then z1e s fun a b=>a+b
 else if o.kind=6 then z1e s fun a b=>a - b
 else if o.kind=7 then z1e s fun a b=>z19 (decide (a=b))
 else if o.kind=8 then z1e s fun a b=>z19 (decide (a<b))
 else if o.kind=10 then z1e s fun a b=>z19 (decide (a≠0) && decide (b≠0))
 else if o.kind=9 then z1m s fun a=>z19 (decide (a=0))
 else if o.kind=13 then z1m s z8z
 else if o.kind=11 then (z4r s).bind fun p=>if p.1=0 then none else some p.2
 else if o.kind=12 then z87 s h
 else some s
def z2p (h:Int):List Int→List Op→Option (List Int)
 | s,[]=>some s
 | s,o::r=>match z2v h s o with
  | none=>none
  | some s'=>z2p h s' r
def z1k (s:List Int):Prop:=s.length≤16∧∀ x ∈ s,z3h x
instance (n:Int):Decidable (z3h n):=by unfold z3h;infer_instance
def z42 (l:List Op) (s:List Int) (h:Int):List Int × Int :=
 if za l≠0 then ([],za l)
 else if h<0∨1000<h∨16<(s.length:Int) then ([],3)
 else if ∀ x ∈ s,z3h x then (match z2p h s l with|none=>([],8)|some s'=>(s',0)) else ([],3)
theorem zdd {s:List Int} (h:s.length=0):z4r s=none:=by
 rw [zY08 h];rfl
theorem zde {s:List Int} (h:s.length≠0):∃ a t,z4r s=some (a,t)∧s=t++[a]∧(s.length:Int)=t.length+1∧s[((s.length:Int) - 1).toNat]? = some a∧s.take ((s.length:Int) - 1).toNat=t:=by
 rcases List.eq_nil_or_concat s with rfl|⟨t,a,rfl⟩
 ·exact absurd rfl h
 ·refine ⟨a,t,by simp [z4r],by simp,by simp,?_,?_⟩
  ·rw [show (((t.concat a).length:Int) - 1).toNat=t.length by simp];simp
  ·rw [show (((t.concat a).length:Int) - 1).toNat=t.length by simp];simp
theorem z28 {s:List Int} {n:Int} (h:(s.length:Int)=16∨n < -1000000∨1000000<n):z87 s n=none:=if_pos h
theorem z08 {s:List Int} {n:Int} (h1:¬ (s.length:Int)=16) (h2:¬ n < -1000000) (h3:¬ 1000000<n):z87 s n=some (s++[n]):=if_neg (by omega)
theorem z6z {s s':List Int} {n:Int} (hs:z1k s) (h:z87 s n=some s'):z1k s':=by
 unfold z87 at h
 split at h
 ·cases h
 ·rename_i hc
  cases h
  obtain ⟨h1,h2⟩:=hs;refine ⟨by simp;omega,fun x hx=>?_⟩;rcases zY11.1 hx with hx|hx
  ·exact h2 x hx
  ·simp only [zY13] at hx;subst hx;exact ⟨by omega,by omega⟩
theorem z4v {s t:List Int} {a:Int} (hs:z1k s) (h:z4r s=some (a,t)):z3h a∧z1k t:=by
 rcases List.eq_nil_or_concat s with rfl|⟨u,b,rfl⟩
 ·cases h
 ·have:z4r (u.concat b)=some (b,u):=by simp [z4r]
  rw [this] at h
  cases h
  obtain ⟨h1,h2⟩:=hs;exact ⟨h2 _ (by simp),by simp at h1;omega,fun x hx=>h2 x (by simp [hx])⟩
theorem z6c {α:Type} {x:Option α} {f:α→Option (List Int)} {s':List Int} (h:x.bind f=some s'):∃ y,x=some y∧f y=some s':=zY01.1 h
theorem zei {s s':List Int} {f:Int→Int→Int} (hs:z1k s) (h:z1e s f=some s'):z1k s':=by
 obtain ⟨⟨a,t⟩,h1,h⟩:=z6c h;obtain ⟨⟨b,u⟩,h2,h⟩:=z6c h;exact z6z (z4v (z4v hs h1).2 h2).2 h
theorem z0ac {s s':List Int} {f:Int→Int} (hs:z1k s) (h:z1m s f=some s'):z1k s':=by
 obtain ⟨⟨a,t⟩,h1,h⟩:=z6c h;exact z6z (z4v hs h1).2 h
theorem zfl {h:Int} {s s':List Int} {o:Op} (hs:z1k s) (he:z2v h s o=some s'):z1k s':=by
 unfold z2v at he
 by_cases k1:o.kind=1
 ·rw [if_pos k1] at he
  exact z6z hs he
 rw [if_neg k1] at he
 by_cases k2:o.kind=2
 ·rw [if_pos k2] at he
  obtain ⟨⟨a,t⟩,h1,he⟩:=z6c he;obtain ⟨u,h2,he⟩:=z6c he;exact z6z (z6z (z4v hs h1).2 h2) he
 rw [if_neg k2] at he
 by_cases k3:o.kind=3
 ·rw [if_pos k3] at he
  obtain ⟨⟨a,t⟩,h1,he⟩:=z6c he;obtain ⟨⟨b,u⟩,h2,he⟩:=z6c he;obtain ⟨v,h3,he⟩:=z6c he;exact z6z (z6z (z4v (z4v hs h1).2 h2).2 h3) he
 rw [if_neg k3] at he
 by_cases k4:o.kind=4
 ·rw [if_pos k4] at he
  obtain ⟨⟨a,t⟩,h1,he⟩:=z6c he
  cases he
  exact (z4v hs h1).2
 rw [if_neg k4] at he
 by_cases k5:o.kind=5
 ·rw [if_pos k5] at he
  exact zei hs he
 rw [if_neg k5] at he
 by_cases k6:o.kind=6
 ·rw [if_pos k6] at he
  exact zei hs he
 rw [if_neg k6] at he
 by_cases k7:o.kind=7
 ·rw [if_pos k7] at he
  exact zei hs he
 rw [if_neg k7] at he
 by_cases k8:o.kind=8
 ·rw [if_pos k8] at he
  exact zei hs he
 rw [if_neg k8] at he
 by_cases k10:o.kind=10
 ·rw [if_pos k10] at he
  exact zei hs he
 rw [if_neg k10] at he
 by_cases k9:o.kind=9
 ·rw [if_pos k9] at he
  exact z0ac hs he
 rw [if_neg k9] at he
 by_cases k13:o.kind=13
 ·rw [if_pos k13] at he
  exact z0ac hs he
 rw [if_neg k13] at he
 by_cases k11:o.kind=11
 ·rw [if_pos k11] at he
  obtain ⟨⟨a,t⟩,h1,he⟩:=z6c he
  by_cases ha:a=0
  ·have he:(if a=0 then none else some t)=some s':=he
   rw [if_pos ha] at he;cases he
  ·have he:(if a=0 then none else some t)=some s':=he
   rw [if_neg ha] at he;cases he;exact (z4v hs h1).2
 rw [if_neg k11] at he
 by_cases k12:o.kind=12
 ·rw [if_pos k12] at he
  exact z6z hs he
 rw [if_neg k12] at he
 cases he;exact hs
def zej (r:List Int × Int):Bool × Int:=if r.2=3 then (false,r.2) else if r.2=0 then (if (r.1.length:Int)=1 then (decide (r.1.headD 0≠0),0) else (false,0)) else (false,0)
def z20 (l k:List Op) (h:Int):Bool × Int :=
 if za l≠0 then (false,za l) else if za k≠0 then (false,za k) else
  if (z42 k [] h).2=0 then zej (z42 l (z42 k [] h).1 h) else zej (z42 k [] h)
end
section
open Go.RowKit
set_option maxRecDepth 100000
set_option maxHeartbeats 4000000
attribute [local irreducible] z00 spD z1h
noncomputable def z3l:zd:=spD (fun _:Bool=>True) fun b=>z19 b
noncomputable def z90:zd:=spD z3h z8z
noncomputable def zek:zd:=spD (fun x:Int × Int=>z3h x.1∧z3h x.2) fun x=>x.1+x.2
noncomputable def zel:zd:=spD (fun x:Int × Int=>z3h x.1∧z3h x.2) fun x=>x.1 - x.2
noncomputable def zcg:zd:=spD (fun _:Int × Int=>True) fun x=>z19 (decide (x.1=x.2))
noncomputable def zch:zd:=spD (fun _:Int × Int=>True) fun x=>z19 (decide (x.1<x.2))
noncomputable def zem:zd:=spD (fun _:Int × Int=>True) fun x=>z19 (decide (x.1≠0) && decide (x.2≠0))
noncomputable def zen:zd:=spD (fun _:Int=>True) fun x=>z19 (decide (x=0))
theorem z63 (b:Bool):z3l [.b b]=some [I (z19 b)]:=zm (f:=fun b=>z19 b) b trivial
theorem zg8 (n:Int) (h:z3h n):z90 [I n]=some [I (z8z n)]:=zm (f:=z8z) n h
theorem z0bu (a b:Int) (h:z3h a∧z3h b):zek [I a,I b]=some [I (a+b)]:=zm (p:=fun x:Int × Int=>z3h x.1∧z3h x.2) (f:=fun x:Int × Int=>x.1+x.2) (a,b) h
theorem z0bv (a b:Int) (h:z3h a∧z3h b):zel [I a,I b]=some [I (a - b)]:=zm (p:=fun x:Int × Int=>z3h x.1∧z3h x.2) (f:=fun x:Int × Int=>x.1 - x.2) (a,b) h
theorem z076 (a b:Int):zcg [I a,I b]=some [I (z19 (decide (a=b)))]:=zm (f:=fun x:Int × Int=>z19 (decide (x.1=x.2))) (a,b) trivial
theorem z077 (a b:Int):zch [I a,I b]=some [I (z19 (decide (a<b)))]:=zm (f:=fun x:Int × Int=>z19 (decide (x.1<x.2))) (a,b) trivial
theorem z0bw (a b:Int):zem [I a,I b]=some [I (z19 (decide (a≠0) && decide (b≠0)))]:=zm (f:=fun x:Int × Int=>z19 (decide (x.1≠0) && decide (x.2≠0))) (a,b) trivial
theorem znd (a:Int):zen [I a]=some [I (z19 (decide (a=0)))]:=zm (f:=fun x:Int=>z19 (decide (x=0))) a trivial
def zyu:T :=
 .lets [.bin .add 0 1] [] (.ret [2])
def zyv:T :=
 .lets [.bin .sub 0 1] [] (.ret [2])
def zpw:T :=
 .lets [.bin .eql 0 1] [] (.lets [.call 36 [2] 0] [] (.ret [3]))
def zpx:T :=
 .lets [.bin .lss 0 1] [] (.lets [.call 36 [2] 0] [] (.ret [3]))
def zyw:T :=
 .lets [.bin .neq 0 (zI 0)] [] (.ite 2 (.lets [.bin .neq 1 (zI 0)] [] (.lets [.call 36 [3] 0] [] (.ret [4]))) (.lets [.call 36 [.c (.b
 false)] 0] [] (.ret [3])))
def zyx:T :=
 .lets [.bin .eql 0 (zI 0)] [] (.lets [.call 36 [1] 0] [] (.ret [2]))
def zhd:T :=
 .ite 0 (.ret [zI 1]) (.ret [zI 0])
def z078:T :=
 .lets [.bin .add 5 (zI 104729)] [] (.lets [.bin .rem 6 (zI 1000003)] [] (.lets [.bin .add 3 (zI 1)] [] (.again 0 [7,8])))
def z079:T :=
 .lets [.bin .lss 3 (zI 3)] [] (.ite 4 (.lets [.bin .mul 2 (zI 7919)] [] z078) (.lets [.bin .rem 2 (zI 1000001)] [] (.ret [.v
 5])))
def zak:T :=
 .lets [.bin .add 0 (zI 1000000)] [] (.loop [1,zI 0] z079)
theorem zdf:Meets Tryz.prog z3l 213 ⟨[.one],[(false,[.scal])],true⟩:=by
 refine zl (sp:=(z0g [])) (sigs:=z0p) (cut:=[]) (hints:=[]) (fn:=Tryz.f213) (t:=zhd) (by kernel_rfl) (by kernel_rfl) (by kernel_rfl) ?_ ?_
 ·exact (z05 (L:=[]) trivial)
 ·rintro ds rs - h
  obtain ⟨b,-,rfl,rfl⟩:=zp h;clear h;refine ⟨⟨1,?_⟩,z04 rfl⟩
  show den _ _ zhd [.b b] []=ret (z19 b)
  unfold zhd z19
  repeat' (first|exact z6 rfl rfl|refine tB (fun h=>?_) fun h=>?_|fail)
theorem z0oa:Meets Tryz.prog zek 210 ⟨[.one,.one],[(false,[.scal])],true⟩:=by
 refine zl (sp:=(z0g [])) (sigs:=z0p) (cut:=[]) (hints:=[]) (fn:=Tryz.f210) (t:=zyu) (by kernel_rfl) (by kernel_rfl) (by kernel_rfl) ?_ ?_
 ·exact (z05 (L:=[]) trivial)
 ·rintro ds rs - h
  obtain ⟨⟨a,b⟩,⟨⟨h1,h2⟩,h3,h4⟩,rfl,rfl⟩:=zp h;clear h;simp only at h1 h2 h3 h4;refine ⟨⟨1,?_⟩,z04 rfl⟩
  show den _ _ zyu [I a,I b] []=ret (a+b)
  unfold zyu
  repeat' (first|refine dq1 ?_|exact z6 rfl rfl|fail)
theorem z0ob:Meets Tryz.prog zel 211 ⟨[.one,.one],[(false,[.scal])],true⟩:=by
 refine zl (sp:=(z0g [])) (sigs:=z0p) (cut:=[]) (hints:=[]) (fn:=Tryz.f211) (t:=zyv) (by kernel_rfl) (by kernel_rfl) (by kernel_rfl) ?_ ?_
 ·exact (z05 (L:=[]) trivial)
 ·rintro ds rs - h
  obtain ⟨⟨a,b⟩,⟨⟨h1,h2⟩,h3,h4⟩,rfl,rfl⟩:=zp h;clear h;simp only at h1 h2 h3 h4;refine ⟨⟨1,?_⟩,z04 rfl⟩
  show den _ _ zyv [I a,I b] []=ret (a - b)
  unfold zyv
  repeat' (first|refine dq1 ?_|exact z6 rfl rfl|fail)
theorem z0lg:Meets Tryz.prog zcg 212 ⟨[.one,.one],[(false,[.scal])],true⟩:=by
 refine zl (sp:=(z0g [(36,z3l)])) (sigs:=z0p) (cut:=[]) (hints:=[]) (fn:=Tryz.f212) (t:=zpw) (by kernel_rfl) (by kernel_rfl) (by kernel_rfl) ?_ ?_
 ·exact (z05 (L:=[(36,z3l)]) ⟨ze rfl zdf,trivial⟩)
 ·rintro ds rs - h
  obtain ⟨⟨a,b⟩,-,rfl,rfl⟩:=zp h;clear h;refine ⟨⟨1,?_⟩,z04 rfl⟩
  show den _ _ zpw [I a,I b] []=ret (z19 (decide (a=b)))
  unfold zpw
  repeat' (first|refine dq1 ?_|refine dqk rfl (z63 _) ?_|exact z6 rfl rfl|fail)
theorem z0lh:Meets Tryz.prog zch 214 ⟨[.one,.one],[(false,[.scal])],true⟩:=by
 refine zl (sp:=(z0g [(36,z3l)])) (sigs:=z0p) (cut:=[]) (hints:=[]) (fn:=Tryz.f214) (t:=zpx) (by kernel_rfl) (by kernel_rfl) (by kernel_rfl) ?_ ?_
 ·exact (z05 (L:=[(36,z3l)]) ⟨ze rfl zdf,trivial⟩)
 ·rintro ds rs - h
  obtain ⟨⟨a,b⟩,-,rfl,rfl⟩:=zp h;clear h;refine ⟨⟨1,?_⟩,z04 rfl⟩
  show den _ _ zpx [I a,I b] []=ret (z19 (decide (a<b)))
  unfold zpx
  repeat' (first|refine dq1 ?_|refine dqk rfl (z63 _) ?_|exact z6 rfl rfl|fail)
theorem z0oc:Meets Tryz.prog zen 216 ⟨[.one],[(false,[.scal])],true⟩:=by
 refine zl (sp:=(z0g [(36,z3l)])) (sigs:=z0p) (cut:=[]) (hints:=[]) (fn:=Tryz.f216) (t:=zyx) (by kernel_rfl) (by kernel_rfl) (by kernel_rfl) ?_ ?_
 ·exact (z05 (L:=[(36,z3l)]) ⟨ze rfl zdf,trivial⟩)
 ·rintro ds rs - h
  obtain ⟨a,-,rfl,rfl⟩:=zp h;clear h;refine ⟨⟨1,?_⟩,z04 rfl⟩
  show den _ _ zyx [I a] []=ret (z19 (decide (a=0)))
  unfold zyx
  repeat' (first|refine dq1 ?_|refine dqk rfl (z63 _) ?_|exact z6 rfl rfl|fail)
theorem z0od:Meets Tryz.prog zem 215 ⟨[.one,.one],[(false,[.scal])],true⟩:=by
 refine zl (sp:=(z0g [(36,z3l)])) (sigs:=z0p) (cut:=[]) (hints:=[]) (fn:=Tryz.f215) (t:=zyw) (by kernel_rfl) (by kernel_rfl) (by kernel_rfl) ?_ ?_
 ·exact (z05 (L:=[(36,z3l)]) ⟨ze rfl zdf,trivial⟩)
 ·rintro ds rs - h
  obtain ⟨⟨a,b⟩,-,rfl,rfl⟩:=zp h;clear h;refine ⟨⟨1,?_⟩,z04 rfl⟩
  show den _ _ zyw [I a,I b] []=ret (z19 (decide (a≠0) && decide (b≠0)))
  unfold zyw
  repeat' (first|refine dq1 ?_|fail)
  refine z36 rfl (fun h=>?_) (fun h=>?_)
  ·rw [decide_eq_true h,zY36]
   repeat' (first|refine dq1 ?_|refine dqk rfl (z63 _) ?_|exact z6 rfl rfl|fail)
  ·rw [decide_eq_false h,zY3m]
   repeat' (first|refine dqk rfl (z63 _) ?_|exact z6 rfl rfl|fail)
theorem zfm {x:Int} (h0:0≤x):0≤z10 x∧z10 x<1000003:=by
 unfold z10;exact ⟨zY3r _ (by omega),Int.tmod_lt_of_pos _ (by omega)⟩
theorem z0f0:Meets Tryz.prog z90 217 ⟨[.one],[(false,[.scal])],true⟩:=by
 refine zl (sp:=(z0g [])) (sigs:=z0p) (cut:=[]) (hints:=[⟨3,[.t 0,.t 5]⟩]) (fn:=Tryz.f217) (t:=zak) (by kernel_rfl) (by kernel_rfl) (by kernel_rfl) ?_ ?_
 ·exact (z05 (L:=[]) trivial)
 ·rintro ds rs - h
  obtain ⟨n,⟨h1,h2⟩,rfl,rfl⟩:=zp h;clear h;refine ⟨⟨5,?_⟩,z04 rfl⟩
  show den _ _ zak [I n] []=ret (z8z n)
  have b1:=zfm (x:=n+1000000) (by omega);have b2:=zfm b1.1;have b3:=zfm b2.1;unfold zak
  repeat' (first|refine dq1 ?_|fail)
  refine zh0 (fun (s:Nat × Int)=>[I s.2,I s.1]) (fun s=>(s=(0,n+1000000)∨s=(1,z10 (n+1000000))∨s=(2,z10 (z10 (n+1000000)))∨s=(3,z10 (z10 (z10 (n+1000000)))))) (fun s=>3 - s.1) (0,n+1000000) rfl (.inl rfl) (by omega) ?_;have go:∀ (again:List Dt→Option (List Dt)) (i:Int) (x:Int) (nx:Int),0≤x→x≤3000000→nx=z10 x→i<3→0≤i→again [I nx,I (i+1)]=ret (z8z n)→den (fun ci=>([]:List zd).getD ci fun _=>none) 5 (match zak with | .lets _ _ (.loop _ b)=>b|_=>.ret []) [I n,I (n+1000000),I x,I i] [again]=ret (z8z n):=by
   intro again i x nx hx0 hx1 hnx hi hi0 hag;subst hnx;unfold z10 at hag
   show den _ _ _ _ _=_
   simp only [zak]
   repeat' (first|refine dq1 ?_|refine dqT ?_|refine z5 (zed rfl rfl (by omega)) ?_|refine z5 (zph rfl rfl (by decide)) ?_|exact z7 rfl rfl hag|fail)
  rintro s hs again hag;rcases hs with rfl|rfl|rfl|rfl
  ·exact go again 0 _ _ (by omega) (by omega) rfl (by omega) (by omega) (hag (1,z10 (n+1000000)) (.inr (.inl rfl)) (by simp))
  ·exact go again 1 _ _ (by omega) (by omega) rfl (by omega) (by omega) (hag (2,z10 (z10 (n+1000000))) (.inr (.inr (.inl rfl))) (by simp))
  ·exact go again 2 _ _ (by omega) (by omega) rfl (by omega) (by omega) (hag (3,z10 (z10 (z10 (n+1000000)))) (.inr (.inr (.inr rfl))) (by simp))
  ·unfold z8z
   repeat' (first|refine dq1 ?_|refine dqF ?_|refine z5 (zph rfl rfl (by decide)) ?_|exact z6 rfl rfl|fail)
end
section
open Go.RowKit
set_option maxRecDepth 100000
set_option maxHeartbeats 8000000
attribute [local irreducible] z00 spD z1h z8z z19
attribute [local irreducible] den denX z0i z0q
noncomputable def z91:zd:=spD (fun x:List Op × List Int × Int=>True) fun x=>z42 x.1 x.2.1 x.2.2
theorem zpy (l:List Op) (s:List Int) (h:Int):z91 [.l 2 (l.map eOp),.l 1 (s.map z0r),I h]=some [.l 1 ((z42 l s h).1.map z0r),I (z42 l s h).2]:=zm (f:=fun x:List Op × List Int × Int=>z42 x.1 x.2.1 x.2.2) (l,s,h) trivial
theorem zg9 (l:List Op) (s:List Int) (h:Int) (hs:s.length≤1000000):z91 [.l 2 (l.map eOp),.l 1 (s.map z0r),I h]=some [.l 1 ((z42 l s h).1.map z0r),I (z42 l s h).2]:=zpy l s h
def z07a:T :=
 .lets [.bin .gtr 16 (zI 1000000)] [] (.ite 18 (.ret [.c (.nil 1),zI 3]) (.lets [.bin .add 14 (zI 1)] [] (.again 0 [12,13,.v
 19])))
def z07b:T :=
 .lets [] [.inr 1 1 14] (.lets [.idx 1 14 0] [] (.lets [.bin .lss 16 (.c (.i .i64 (-1000000)))] [] (.ite 17 (.ret [.c (.nil 1),zI 3])
 z07a)))
def z07c:T :=
 .ite 28 (.ret [.c (.nil 1),zI 8]) (.lets [.mk 1 [[23]]] [] (.lets [.app 1 17 29] [] (.lets [.bin .add 20 (zI 1)] [] (.again 1 [30,.v
 18,19,31]))))
def z07d:T :=
 .lets [.bin .lss 23 (.c (.i .i64 (-1000000)))] [] (.ite 27 (.ret [.c (.nil 1),zI 8]) (.lets [.bin .gtr 23 (zI 1000000)] [] z07c))
def z07e:T :=
 .lets [.bin .gtr 30 (zI 1000000)] [] (.ite 39 (.ret [.c (.nil 1),zI 8]) (.lets [.mk 1 [[30]]] [] (.lets [.app 1 33 40] [] (.ret [.c (.nil
 1),zI 8]))))
def z07f:T :=
 .ite 37 (.ret [.c (.nil 1),zI 8]) (.lets [.bin .lss 30 (.c (.i .i64 (-1000000)))] [] (.ite 38 (.ret [.c (.nil 1),zI 8]) z07e))
def z07g:T :=
 .lets [.bin .gtr 30 (zI 1000000)] [] (.ite 40 (.ret [.c (.nil 1),zI 8]) (.lets [.mk 1 [[30]]] [] (.lets [.app 1 33 41] [] (.ret [.c (.nil
 1),zI 8]))))
def z07h:T :=
 .ite 38 (.ret [.c (.nil 1),zI 8]) (.lets [.bin .lss 30 (.c (.i .i64 (-1000000)))] [] (.ite 39 (.ret [.c (.nil 1),zI 8]) z07g))
def z07i:T :=
 .lets [.bin .gtr 30 (zI 1000000)] [] (.ite 41 (.ret [.c (.nil 1),zI 8]) (.lets [.mk 1 [[30]]] [] (.lets [.app 1 33 42] [] (.ret [.c (.nil
 1),zI 8]))))
def z07j:T :=
 .ite 39 (.ret [.c (.nil 1),zI 8]) (.lets [.bin .lss 30 (.c (.i .i64 (-1000000)))] [] (.ite 40 (.ret [.c (.nil 1),zI 8]) z07i))
def zyy:T :=
 .ite 43 (.ret [.c (.nil 1),zI 8]) (.lets [.mk 1 [[30]]] [] (.lets [.app 1 39 44] [] (.lets [.bin .add 20 (zI 1)] [] (.again 1 [45,.v
 18,19,46]))))
def zyz:T :=
 .lets [.bin .lss 30 (.c (.i .i64 (-1000000)))] [] (.ite 42 (.ret [.c (.nil 1),zI 8]) (.lets [.bin .gtr 30 (zI 1000000)] [] zyy))
def zz0:T :=
 .lets [.app 1 33 38] [] (.lets [.len 39] [] (.lets [.bin .eql 40 (zI 16)] [] (.ite 41 (.ret [.c (.nil 1),zI 8]) zyz)))
def zz1:T :=
 .lets [.bin .gtr 30 (zI 1000000)] [] (.ite 37 (.lets [.len 33] [] (.lets [.bin .eql 38 (zI 16)] [] z07j)) (.lets [.mk 1 [[30]]] []
 zz0))
def zz2:T :=
 .lets [.bin .lss 30 (.c (.i .i64 (-1000000)))] [] (.ite 36 (.lets [.len 33] [] (.lets [.bin .eql 37 (zI 16)] [] z07h)) zz1)
def zz3:T :=
 .lets [.bin .eql 34 (zI 16)] [] (.ite 35 (.lets [.len 33] [] (.lets [.bin .eql 36 (zI 16)] [] z07f)) zz2)
def zz4:T :=
 .lets [.idx 17 29 0] [] (.lets [.len 17] [] (.lets [.bin .sub 31 (zI 1)] [] (.lets [.sub 1 17 none (some 32)] [] (.lets [.len 33] []
 zz3))))
def zz5:T :=
 .ite 27 (.ret [.c (.nil 1),zI 8]) (.lets [.len 17] [] (.lets [.bin .sub 28 (zI 1)] [] (.lets [] [.inr 1 17 29] zz4)))
def zz6:T :=
 .lets [.idx 17 32 0] [] (.lets [.len 17] [] (.lets [.bin .sub 34 (zI 1)] [] (.lets [.sub 1 17 none (some 35)] [] (.ret [.c (.nil 1),.c (.i
 .i64 8)]))))
def zz7:T :=
 .ite 30 (.ret [.c (.nil 1),zI 8]) (.lets [.len 17] [] (.lets [.bin .sub 31 (zI 1)] [] (.lets [] [.inr 1 17 32] zz6)))
def zz8:T :=
 .lets [.bin .gtr 39 (zI 1000000)] [] (.ite 48 (.ret [.c (.nil 1),zI 8]) (.lets [.mk 1 [[39]]] [] (.lets [.app 1 42 49] [] (.ret [.c (.nil
 1),zI 8]))))
def zz9:T :=
 .ite 46 (.ret [.c (.nil 1),zI 8]) (.lets [.bin .lss 39 (.c (.i .i64 (-1000000)))] [] (.ite 47 (.ret [.c (.nil 1),zI 8]) zz8))
def zza:T :=
 .lets [.bin .gtr 39 (zI 1000000)] [] (.ite 49 (.ret [.c (.nil 1),zI 8]) (.lets [.mk 1 [[39]]] [] (.lets [.app 1 42 50] [] (.ret [.c (.nil
 1),zI 8]))))
def zzb:T :=
 .ite 47 (.ret [.c (.nil 1),zI 8]) (.lets [.bin .lss 39 (.c (.i .i64 (-1000000)))] [] (.ite 48 (.ret [.c (.nil 1),zI 8]) zza))
def zzc:T :=
 .lets [.bin .gtr 39 (zI 1000000)] [] (.ite 50 (.ret [.c (.nil 1),zI 8]) (.lets [.mk 1 [[39]]] [] (.lets [.app 1 42 51] [] (.ret [.c (.nil
 1),zI 8]))))
def zzd:T :=
 .ite 48 (.ret [.c (.nil 1),zI 8]) (.lets [.bin .lss 39 (.c (.i .i64 (-1000000)))] [] (.ite 49 (.ret [.c (.nil 1),zI 8]) zzc))
def zze:T :=
 .ite 52 (.ret [.c (.nil 1),zI 8]) (.lets [.mk 1 [[39]]] [] (.lets [.app 1 48 53] [] (.lets [.bin .add 20 (zI 1)] [] (.again 1 [54,.v
 18,19,55]))))
def zzf:T :=
 .lets [.bin .lss 39 (.c (.i .i64 (-1000000)))] [] (.ite 51 (.ret [.c (.nil 1),zI 8]) (.lets [.bin .gtr 39 (zI 1000000)] [] zze))
def zzg:T :=
 .lets [.app 1 42 47] [] (.lets [.len 48] [] (.lets [.bin .eql 49 (zI 16)] [] (.ite 50 (.ret [.c (.nil 1),zI 8]) zzf)))
def zzh:T :=
 .lets [.bin .gtr 31 (zI 1000000)] [] (.ite 46 (.lets [.len 42] [] (.lets [.bin .eql 47 (zI 16)] [] zzd)) (.lets [.mk 1 [[31]]] []
 zzg))
def zzi:T :=
 .lets [.bin .lss 31 (.c (.i .i64 (-1000000)))] [] (.ite 45 (.lets [.len 42] [] (.lets [.bin .eql 46 (zI 16)] [] zzb)) zzh)
def zzj:T :=
 .lets [.bin .eql 43 (zI 16)] [] (.ite 44 (.lets [.len 42] [] (.lets [.bin .eql 45 (zI 16)] [] zz9)) zzi)
def zzk:T :=
 .lets [.idx 34 38 0] [] (.lets [.len 34] [] (.lets [.bin .sub 40 (zI 1)] [] (.lets [.sub 1 34 none (some 41)] [] (.lets [.len 42] []
 zzj))))
def zzl:T :=
 .ite 36 (.ret [.c (.nil 1),zI 8]) (.lets [.len 34] [] (.lets [.bin .sub 37 (zI 1)] [] (.lets [] [.inr 1 34 38] zzk)))
def zzm:T :=
 .lets [.bin .sub 32 (zI 1)] [] (.lets [.sub 1 17 none (some 33)] [] (.lets [.len 34] [] (.lets [.bin .eql 35 (zI 0)] [] zzl)))
def zzn:T :=
 .lets [.len 17] [] (.lets [.bin .sub 29 (zI 1)] [] (.lets [] [.inr 1 17 30] (.lets [.idx 17 30 0] [] (.lets [.len 17] []
 zzm))))
def zzo:T :=
 .lets [.len 17] [] (.lets [.bin .eql 27 (zI 0)] [] (.ite 28 (.lets [.len 17] [] (.lets [.bin .eql 29 (zI 0)] [] zz7))
 zzn))
def zzp:T :=
 .lets [.bin .sub 33 (zI 1)] [] (.lets [.sub 1 17 none (some 34)] [] (.lets [.bin .add 20 (zI 1)] [] (.again 1 [35,18,19,36])))
def zzq:T :=
 .lets [.len 17] [] (.lets [.bin .sub 30 (zI 1)] [] (.lets [] [.inr 1 17 31] (.lets [.idx 17 31 0] [] (.lets [.len 17] []
 zzp))))
def zzr:T :=
 .lets [.idx 17 34 0] [] (.lets [.len 17] [] (.lets [.bin .sub 36 (zI 1)] [] (.lets [.sub 1 17 none (some 37)] [] (.ret [.c (.nil 1),.c (.i
 .i64 8)]))))
def zzs:T :=
 .ite 32 (.ret [.c (.nil 1),zI 8]) (.lets [.len 17] [] (.lets [.bin .sub 33 (zI 1)] [] (.lets [] [.inr 1 17 34] zzr)))
def zzt:T :=
 .ite 49 (.ret [.c (.nil 1),zI 8]) (.lets [.mk 1 [[45]]] [] (.lets [.app 1 44 50] [] (.lets [.bin .add 20 (zI 1)] [] (.again 1 [51,.v
 18,19,52]))))
def zzu:T :=
 .lets [.bin .lss 45 (.c (.i .i64 (-1000000)))] [] (.ite 48 (.ret [.c (.nil 1),zI 8]) (.lets [.bin .gtr 45 (zI 1000000)] [] zzt))
def zzv:T :=
 .lets [.call 30 [41,33] 0] [] (.lets [.len 44] [] (.lets [.bin .eql 46 (zI 16)] [] (.ite 47 (.ret [.c (.nil 1),zI 8]) zzu)))
def zzw:T :=
 .lets [.idx 36 40 0] [] (.lets [.len 36] [] (.lets [.bin .sub 42 (zI 1)] [] (.lets [.sub 1 36 none (some 43)] [] zzv)))
def zzx:T :=
 .ite 38 (.ret [.c (.nil 1),zI 8]) (.lets [.len 36] [] (.lets [.bin .sub 39 (zI 1)] [] (.lets [] [.inr 1 36 40] zzw)))
def zzy:T :=
 .lets [.bin .sub 34 (zI 1)] [] (.lets [.sub 1 17 none (some 35)] [] (.lets [.len 36] [] (.lets [.bin .eql 37 (zI 0)] [] zzx)))
def zzz:T :=
 .lets [.len 17] [] (.lets [.bin .sub 31 (zI 1)] [] (.lets [] [.inr 1 17 32] (.lets [.idx 17 32 0] [] (.lets [.len 17] []
 zzy))))
def z000:T :=
 .lets [.len 17] [] (.lets [.bin .eql 29 (zI 0)] [] (.ite 30 (.lets [.len 17] [] (.lets [.bin .eql 31 (zI 0)] [] zzs))
 zzz))
def z001:T :=
 .lets [.idx 17 35 0] [] (.lets [.len 17] [] (.lets [.bin .sub 37 (zI 1)] [] (.lets [.sub 1 17 none (some 38)] [] (.ret [.c (.nil 1),.c (.i
 .i64 8)]))))
def z002:T :=
 .ite 33 (.ret [.c (.nil 1),zI 8]) (.lets [.len 17] [] (.lets [.bin .sub 34 (zI 1)] [] (.lets [] [.inr 1 17 35] z001)))
def z003:T :=
 .ite 50 (.ret [.c (.nil 1),zI 8]) (.lets [.mk 1 [[46]]] [] (.lets [.app 1 45 51] [] (.lets [.bin .add 20 (zI 1)] [] (.again 1 [52,.v
 18,19,53]))))
def z004:T :=
 .lets [.bin .lss 46 (.c (.i .i64 (-1000000)))] [] (.ite 49 (.ret [.c (.nil 1),zI 8]) (.lets [.bin .gtr 46 (zI 1000000)] [] z003))
def z005:T :=
 .lets [.call 31 [42,34] 0] [] (.lets [.len 45] [] (.lets [.bin .eql 47 (zI 16)] [] (.ite 48 (.ret [.c (.nil 1),zI 8]) z004)))
def z006:T :=
 .lets [.idx 37 41 0] [] (.lets [.len 37] [] (.lets [.bin .sub 43 (zI 1)] [] (.lets [.sub 1 37 none (some 44)] [] z005)))
def z007:T :=
 .ite 39 (.ret [.c (.nil 1),zI 8]) (.lets [.len 37] [] (.lets [.bin .sub 40 (zI 1)] [] (.lets [] [.inr 1 37 41] z006)))
def z008:T :=
 .lets [.bin .sub 35 (zI 1)] [] (.lets [.sub 1 17 none (some 36)] [] (.lets [.len 37] [] (.lets [.bin .eql 38 (zI 0)] [] z007)))
def z009:T :=
 .lets [.len 17] [] (.lets [.bin .sub 32 (zI 1)] [] (.lets [] [.inr 1 17 33] (.lets [.idx 17 33 0] [] (.lets [.len 17] []
 z008))))
def z00a:T :=
 .lets [.len 17] [] (.lets [.bin .eql 30 (zI 0)] [] (.ite 31 (.lets [.len 17] [] (.lets [.bin .eql 32 (zI 0)] [] z002))
 z009))
def z00b:T :=
 .lets [.idx 17 36 0] [] (.lets [.len 17] [] (.lets [.bin .sub 38 (zI 1)] [] (.lets [.sub 1 17 none (some 39)] [] (.ret [.c (.nil 1),.c (.i
 .i64 8)]))))
def z00c:T :=
 .ite 34 (.ret [.c (.nil 1),zI 8]) (.lets [.len 17] [] (.lets [.bin .sub 35 (zI 1)] [] (.lets [] [.inr 1 17 36] z00b)))
def z00d:T :=
 .ite 51 (.ret [.c (.nil 1),zI 8]) (.lets [.mk 1 [[47]]] [] (.lets [.app 1 46 52] [] (.lets [.bin .add 20 (zI 1)] [] (.again 1 [53,.v
 18,19,54]))))
def z00e:T :=
 .lets [.bin .lss 47 (.c (.i .i64 (-1000000)))] [] (.ite 50 (.ret [.c (.nil 1),zI 8]) (.lets [.bin .gtr 47 (zI 1000000)] [] z00d))
def z00f:T :=
 .lets [.call 32 [43,35] 0] [] (.lets [.len 46] [] (.lets [.bin .eql 48 (zI 16)] [] (.ite 49 (.ret [.c (.nil 1),zI 8]) z00e)))
def z00g:T :=
 .lets [.idx 38 42 0] [] (.lets [.len 38] [] (.lets [.bin .sub 44 (zI 1)] [] (.lets [.sub 1 38 none (some 45)] [] z00f)))
def z00h:T :=
 .ite 40 (.ret [.c (.nil 1),zI 8]) (.lets [.len 38] [] (.lets [.bin .sub 41 (zI 1)] [] (.lets [] [.inr 1 38 42] z00g)))
def z00i:T :=
 .lets [.bin .sub 36 (zI 1)] [] (.lets [.sub 1 17 none (some 37)] [] (.lets [.len 38] [] (.lets [.bin .eql 39 (zI 0)] [] z00h)))
def z00j:T :=
 .lets [.len 17] [] (.lets [.bin .sub 33 (zI 1)] [] (.lets [] [.inr 1 17 34] (.lets [.idx 17 34 0] [] (.lets [.len 17] []
 z00i))))
def z00k:T :=
 .lets [.len 17] [] (.lets [.bin .eql 31 (zI 0)] [] (.ite 32 (.lets [.len 17] [] (.lets [.bin .eql 33 (zI 0)] [] z00c))
 z00j))
def z00l:T :=
 .lets [.idx 17 37 0] [] (.lets [.len 17] [] (.lets [.bin .sub 39 (zI 1)] [] (.lets [.sub 1 17 none (some 40)] [] (.ret [.c (.nil 1),.c (.i
 .i64 8)]))))
def z00m:T :=
 .ite 35 (.ret [.c (.nil 1),zI 8]) (.lets [.len 17] [] (.lets [.bin .sub 36 (zI 1)] [] (.lets [] [.inr 1 17 37] z00l)))
def z00n:T :=
 .ite 52 (.ret [.c (.nil 1),zI 8]) (.lets [.mk 1 [[48]]] [] (.lets [.app 1 47 53] [] (.lets [.bin .add 20 (zI 1)] [] (.again 1 [54,.v
 18,19,55]))))
def z00o:T :=
 .lets [.bin .lss 48 (.c (.i .i64 (-1000000)))] [] (.ite 51 (.ret [.c (.nil 1),zI 8]) (.lets [.bin .gtr 48 (zI 1000000)] [] z00n))
def z00p:T :=
 .lets [.call 33 [44,36] 0] [] (.lets [.len 47] [] (.lets [.bin .eql 49 (zI 16)] [] (.ite 50 (.ret [.c (.nil 1),zI 8]) z00o)))
def z00q:T :=
 .lets [.idx 39 43 0] [] (.lets [.len 39] [] (.lets [.bin .sub 45 (zI 1)] [] (.lets [.sub 1 39 none (some 46)] [] z00p)))
def z00r:T :=
 .ite 41 (.ret [.c (.nil 1),zI 8]) (.lets [.len 39] [] (.lets [.bin .sub 42 (zI 1)] [] (.lets [] [.inr 1 39 43] z00q)))
def z00s:T :=
 .lets [.bin .sub 37 (zI 1)] [] (.lets [.sub 1 17 none (some 38)] [] (.lets [.len 39] [] (.lets [.bin .eql 40 (zI 0)] [] z00r)))
def z00t:T :=
 .lets [.len 17] [] (.lets [.bin .sub 34 (zI 1)] [] (.lets [] [.inr 1 17 35] (.lets [.idx 17 35 0] [] (.lets [.len 17] []
 z00s))))
def z00u:T :=
 .lets [.len 17] [] (.lets [.bin .eql 32 (zI 0)] [] (.ite 33 (.lets [.len 17] [] (.lets [.bin .eql 34 (zI 0)] [] z00m))
 z00t))
def z00v:T :=
 .lets [.idx 17 38 0] [] (.lets [.len 17] [] (.lets [.bin .sub 40 (zI 1)] [] (.lets [.sub 1 17 none (some 41)] [] (.ret [.c (.nil 1),.c (.i
 .i64 8)]))))
def z00w:T :=
 .ite 36 (.ret [.c (.nil 1),zI 8]) (.lets [.len 17] [] (.lets [.bin .sub 37 (zI 1)] [] (.lets [] [.inr 1 17 38] z00v)))
def z00x:T :=
 .ite 53 (.ret [.c (.nil 1),zI 8]) (.lets [.mk 1 [[49]]] [] (.lets [.app 1 48 54] [] (.lets [.bin .add 20 (zI 1)] [] (.again 1 [55,.v
 18,19,56]))))
def z00y:T :=
 .lets [.bin .lss 49 (.c (.i .i64 (-1000000)))] [] (.ite 52 (.ret [.c (.nil 1),zI 8]) (.lets [.bin .gtr 49 (zI 1000000)] [] z00x))
def z00z:T :=
 .lets [.call 34 [45,37] 0] [] (.lets [.len 48] [] (.lets [.bin .eql 50 (zI 16)] [] (.ite 51 (.ret [.c (.nil 1),zI 8]) z00y)))
def z010:T :=
 .lets [.idx 40 44 0] [] (.lets [.len 40] [] (.lets [.bin .sub 46 (zI 1)] [] (.lets [.sub 1 40 none (some 47)] [] z00z)))
def z011:T :=
 .ite 42 (.ret [.c (.nil 1),zI 8]) (.lets [.len 40] [] (.lets [.bin .sub 43 (zI 1)] [] (.lets [] [.inr 1 40 44] z010)))
def z012:T :=
 .lets [.bin .sub 38 (zI 1)] [] (.lets [.sub 1 17 none (some 39)] [] (.lets [.len 40] [] (.lets [.bin .eql 41 (zI 0)] [] z011)))
def z013:T :=
 .lets [.len 17] [] (.lets [.bin .sub 35 (zI 1)] [] (.lets [] [.inr 1 17 36] (.lets [.idx 17 36 0] [] (.lets [.len 17] []
 z012))))
def z014:T :=
 .lets [.len 17] [] (.lets [.bin .eql 33 (zI 0)] [] (.ite 34 (.lets [.len 17] [] (.lets [.bin .eql 35 (zI 0)] [] z00w))
 z013))
def z015:T :=
 .ite 46 (.ret [.c (.nil 1),zI 8]) (.lets [.mk 1 [[42]]] [] (.lets [.app 1 41 47] [] (.lets [.bin .add 20 (zI 1)] [] (.again 1 [48,.v
 18,19,49]))))
def z016:T :=
 .lets [.bin .lss 42 (.c (.i .i64 (-1000000)))] [] (.ite 45 (.ret [.c (.nil 1),zI 8]) (.lets [.bin .gtr 42 (zI 1000000)] [] z015))
def z017:T :=
 .lets [.call 35 [38] 0] [] (.lets [.len 41] [] (.lets [.bin .eql 43 (zI 16)] [] (.ite 44 (.ret [.c (.nil 1),zI 8]) z016)))
def z018:T :=
 .lets [.idx 17 37 0] [] (.lets [.len 17] [] (.lets [.bin .sub 39 (zI 1)] [] (.lets [.sub 1 17 none (some 40)] [] z017)))
def z019:T :=
 .ite 35 (.ret [.c (.nil 1),zI 8]) (.lets [.len 17] [] (.lets [.bin .sub 36 (zI 1)] [] (.lets [] [.inr 1 17 37] z018)))
def z01a:T :=
 .ite 47 (.ret [.c (.nil 1),zI 8]) (.lets [.mk 1 [[43]]] [] (.lets [.app 1 42 48] [] (.lets [.bin .add 20 (zI 1)] [] (.again 1 [49,.v
 18,19,50]))))
def z01b:T :=
 .lets [.bin .lss 43 (.c (.i .i64 (-1000000)))] [] (.ite 46 (.ret [.c (.nil 1),zI 8]) (.lets [.bin .gtr 43 (zI 1000000)] [] z01a))
def z01c:T :=
 .lets [.call 37 [39] 0] [] (.lets [.len 42] [] (.lets [.bin .eql 44 (zI 16)] [] (.ite 45 (.ret [.c (.nil 1),zI 8]) z01b)))
def z01d:T :=
 .lets [.idx 17 38 0] [] (.lets [.len 17] [] (.lets [.bin .sub 40 (zI 1)] [] (.lets [.sub 1 17 none (some 41)] [] z01c)))
def z01e:T :=
 .ite 36 (.ret [.c (.nil 1),zI 8]) (.lets [.len 17] [] (.lets [.bin .sub 37 (zI 1)] [] (.lets [] [.inr 1 17 38] z01d)))
def z01f:T :=
 .lets [.bin .eql 40 (zI 0)] [] (.ite 44 (.ret [.c (.nil 1),zI 8]) (.lets [.bin .add 20 (zI 1)] [] (.again 1 [43,18,19,.v
 45])))
def zsy:T :=
 .lets [.idx 17 39 0] [] (.lets [.len 17] [] (.lets [.bin .sub 41 (zI 1)] [] (.lets [.sub 1 17 none (some 42)] [] z01f)))
def zsz:T :=
 .ite 37 (.ret [.c (.nil 1),zI 8]) (.lets [.len 17] [] (.lets [.bin .sub 38 (zI 1)] [] (.lets [] [.inr 1 17 39] zsy)))
def zt0:T :=
 .ite 40 (.ret [.c (.nil 1),zI 8]) (.lets [.mk 1 [[2]]] [] (.lets [.app 1 17 41] [] (.lets [.bin .add 20 (zI 1)] [] (.again 1 [42,.v
 18,19,43]))))
def zt1:T :=
 .lets [.bin .lss 2 (.c (.i .i64 (-1000000)))] [] (.ite 39 (.ret [.c (.nil 1),zI 8]) (.lets [.bin .gtr 2 (zI 1000000)] [] zt0))
def zt2:T :=
 .ite 36 (.lets [.len 17] [] (.lets [.bin .eql 37 (zI 16)] [] (.ite 38 (.ret [.c (.nil 1),zI 8]) zt1))) (.lets [.bin .add 20
 (zI 1)] [] (.again 1 [17,18,19,37]))
def zt3:T :=
 .ite 35 (.lets [.len 17] [] (.lets [.bin .eql 36 (zI 0)] [] zsz)) (.lets [.bin .eql 22 (zI 12)] [] zt2)
def zt4:T :=
 .ite 34 (.lets [.len 17] [] (.lets [.bin .eql 35 (zI 0)] [] z01e)) (.lets [.bin .eql 22 (zI 11)] [] zt3)
def zt5:T :=
 .ite 33 (.lets [.len 17] [] (.lets [.bin .eql 34 (zI 0)] [] z019)) (.lets [.bin .eql 22 (zI 13)] [] zt4)
def zt6:T :=
 .ite 31 z00u (.lets [.bin .eql 22 (zI 10)] [] (.ite 32 z014 (.lets [.bin .eql 22 (zI 9)] [] zt5)))
def zt7:T :=
 .ite 29 z00a (.lets [.bin .eql 22 (zI 7)] [] (.ite 30 z00k (.lets [.bin .eql 22 (zI 8)] [] zt6)))
def zt8:T :=
 .ite 27 (.lets [.len 17] [] (.lets [.bin .eql 28 (zI 0)] [] (.ite 29 (.ret [.c (.nil 1),zI 8]) zzq))) (.lets [.bin .eql 22 (.c
 (.i .i64 5))] [] (.ite 28 z000 (.lets [.bin .eql 22 (zI 6)] [] zt7)))
def zt9:T :=
 .ite 25 (.lets [.len 17] [] (.lets [.bin .eql 26 (zI 0)] [] zz5)) (.lets [.bin .eql 22 (zI 3)] [] (.ite 26 zzo (.lets
 [.bin .eql 22 (zI 4)] [] zt8)))
def zta:T :=
 .ite 24 (.lets [.len 17] [] (.lets [.bin .eql 25 (zI 16)] [] (.ite 26 (.ret [.c (.nil 1),zI 8]) z07d))) (.lets [.bin .eql 22 (.c
 (.i .i64 2))] [] zt9)
def ztb:T :=
 .ite 21 (.lets [] [.inr 2 0 20] (.lets [.idx 0 20 0,.idx 0 20 1] [] (.lets [.bin .eql 22 (zI 1)] [] zta))) (.ret [17,
 .c (.i .i64 0)])
def ztc:T :=
 .lets [.bin .lss 14 11] [] (.ite 15 z07b (.lets [.len 0] [] (.loop [10,12,13,zI 0] (.lets [.bin .lss 20 16] []
 ztb))))
def ztd:T :=
 .ite 8 (.ret [.c (.nil 1),zI 3]) (.lets [.mk 1 []] [] (.lets [.app 1 9 1] [] (.lets [.len 1] [] (.loop [.c (.nil 1),zI 0,zI 0]
 ztc))))
def zte:T :=
 .lets [.bin .gtr 2 (zI 1000)] [] (.ite 6 (.ret [.c (.nil 1),zI 3]) (.lets [.len 1] [] (.lets [.bin .gtr 7 (zI 16)] []
 ztd)))
def ztf:T :=
 .lets [.bin .neq 3 (zI 0)] [] (.ite 4 (.ret [.c (.nil 1),3]) (.lets [.bin .lss 2 (zI 0)] [] (.ite 5 (.ret [.c (.nil 1),zI 3])
 zte)))
def zhe:T :=
 .lets [.call 7 [0] 0] [] ztf
attribute [local irreducible] z2a z90 zek zem zch zen zcg zel
theorem z0f1:Meets Tryz.prog z91 165 ⟨[.one,.one,.one],[(false,[.fresh 3 1]),(false,[.scal])],false⟩:=by
 refine zai (sp:=(z0g [(7,z2a),(30,zek),(31,zel),(32,zcg),(33,zch),(34,zem),(35,zen),(37,z90)])) (sigs:=z0p) (cut:=[]) (hints:=[⟨8,[.r 6 3 1,.t 7,.t 38]⟩,⟨14,[.c 35 0 360,.r 6 3 1,.t 7,.t 51,.o 32,.z 34,.z 32]⟩]) (fns:=[zau 192 Tryz.f192 [] [],zau 207 Tryz.f207 [] [35],zau 208 Tryz.f208 [] [],zau 218 Tryz.f218 [] [],zau 206 Tryz.f206 [] [],zau 209 Tryz.f209 [] []]) (dep:=6) (pool:=300) (fn:=Tryz.f165) (t:=zhe) (by kernel_rfl) (by kernel_rfl) (by kernel_rfl) ?_ ?_ ?_
 ·exact (z3b (fn:=Tryz.f192) (by kernel_rfl) (by kernel_rfl) (by kernel_rfl) (by kernel_rfl) (by kernel_rfl) (z3b (fn:=Tryz.f207) (by kernel_rfl) (by kernel_rfl) (by kernel_rfl) (by kernel_rfl) (by kernel_rfl) (z3b (fn:=Tryz.f208) (by kernel_rfl) (by kernel_rfl) (by kernel_rfl) (by kernel_rfl) (by kernel_rfl) (z3b (fn:=Tryz.f218) (by kernel_rfl) (by kernel_rfl) (by kernel_rfl) (by kernel_rfl) (by kernel_rfl) (z3b (fn:=Tryz.f206) (by kernel_rfl) (by kernel_rfl) (by kernel_rfl) (by kernel_rfl) (by kernel_rfl) (z3b (fn:=Tryz.f209) (by kernel_rfl) (by kernel_rfl) (by kernel_rfl) (by kernel_rfl) (by kernel_rfl) zcb))))))
 ·exact (z05 (L:=[(7,z2a),(30,zek),(31,zel),(32,zcg),(33,zch),(34,zem),(35,zen),(37,z90)]) ⟨ze rfl za9,ze rfl z0oa,ze rfl z0ob,ze rfl z0lg,ze rfl z0lh,ze rfl z0od,ze rfl z0oc,ze rfl z0f0,trivial⟩)
 ·rintro ds rs - h
  obtain ⟨⟨l,s0,ht⟩,-,rfl,rfl⟩:=zp h;clear h;refine ⟨⟨l.length+s0.length+1,?_⟩,?_⟩
  ·show den _ _ zhe [.l 2 (l.map eOp),.l 1 (s0.map z0r),I ht] []=ret (z42 l s0 ht)
   unfold zhe z42
   repeat' (first|refine dq1 ?_|refine dqk rfl (z6i _) ?_|exact z6 rfl rfl|((first|refine tR ?_ ?_|refine tO ?_ ?_) <;> intro h)|fail)
   have hc0:za l=0:=zY12.1 (by assumption);refine z5 (z24 (r:=[]) rfl rfl (by simp)) ?_;refine z5 (zh4 (l:=([]:List Int)) (l':=s0) (f:=z0r) rfl rfl (by simp;omega)) ?_
   repeat' (first|refine dq1 ?_|fail)
   (refine zr (fun (_:Unit) k=>[.l 1 (([]:List Int).map z0r),I 0,I k]) (fun (_:Unit) _ (r:List Int)=>if ∀ x ∈ r,z3h x then (match z2p ht s0 l with|none=>(([]:List Int),(8:Int))|some s'=>(s',0)) else (([]:List Int),(3:Int))) (fun _ k=>∀ x ∈ s0.take k,z3h x) () s0 ?_ ?_ ?_ ?_ ?_;rfl;exact (fun x hx=>by simp at hx);omega)
   ·rintro _ k x r hx hd hk hp again hag
    repeat' (first|refine dq1 ?_|refine dqc ?_|refine dqT ?_|fail)
    refine z36 rfl (fun h=>?_) (fun h=>?_)
    ·rw [if_neg (fun hh=>by have:=(hh x (zY0p ..)).1;omega)]
     repeat' (first|exact z6 rfl rfl|fail)
    repeat' (first|refine dq1 ?_|fail)
    refine z36 rfl (fun h=>?_) (fun h=>?_)
    ·rw [if_neg (fun hh=>by have:=(hh x (zY0p ..)).2;omega)]
     repeat' (first|exact z6 rfl rfl|fail)
    repeat' (first|refine dq1 ?_|fail)
    refine z7 rfl rfl ((hag () ?_).trans ?_)
    ·intro y hy
     rw [List.take_add_one,hx] at hy;rcases zY11.1 hy with hy|hy
     ·exact hp y hy
     ·simp only [Option.toList_some,zY13] at hy;subst hy;exact ⟨by omega,by omega⟩
    ·have:(∀ y ∈ x::r,z3h y)↔∀ y ∈ r,z3h y:=by
      simp only [zY0i,forall_eq_or_imp];exact ⟨fun h=>h.2,fun h=>⟨⟨by omega,by omega⟩,h⟩⟩
     simp only [this]
   ·rintro _ hp again
    rw [zY1i] at hp;rw [if_pos (by simp)]
    repeat' (first|refine dq1 ?_|refine dqF ?_|fail)
    (refine zr (fun (s:List Int) k=>[.l 1 (s.map z0r),.l 1 (([]:List Int).map z0r),I 0,I k]) (fun (s:List Int) _ (r:List Op)=>(match z2p ht s r with|none=>(([]:List Int),(8:Int))|some s'=>(s',0))) (fun s _=>z1k s) s0 l ?_ ?_ ?_ ?_ ?_;rfl;exact ⟨by omega,hp⟩;omega)
    ·rintro s k o r hx hd hk hs again' hag
     have hF:z2v ht s o=none→(match z2p ht s (o::r) with|none=>(([]:List Int),(8:Int))|some s'=>(s',0))=([],8):=fun e=>by rw [z2p,e]
     have hO:∀ s',z2v ht s o=some s'→again' [.l 1 (s'.map z0r),.l 1 (([]:List Int).map z0r),I 0,I ((k:Int)+1)]=ret (match z2p ht s (o::r) with|none=>(([]:List Int),(8:Int))|some s'=>(s',0)):=fun s' e=>by rw [z2p,e];exact hag s' (zfl hs e)
     generalize (match z2p ht s (o::r) with|none=>(([]:List Int),(8:Int))|some s'=>(s',0))=R at hF hO ⊢;have hsl:=hs.1;have hfit:=hs;have hll:l.length≤16:=z8y hc0;clear hag hd hp hs;have hk13:o.kind=1∨o.kind=2∨o.kind=3∨o.kind=4∨o.kind=5∨o.kind=6∨o.kind=7∨o.kind=8∨o.kind=9∨o.kind=10∨o.kind=11∨o.kind=12∨o.kind=13∨(o.kind≠1∧o.kind≠2∧o.kind≠3∧o.kind≠4∧o.kind≠5∧o.kind≠6∧o.kind≠7∧o.kind≠8∧o.kind≠9∧o.kind≠10∧o.kind≠11∧o.kind≠12∧o.kind≠13):=by omega
     have hcase:(s.length=0∧z4r s=none)∨(∃ a t,z3h a∧z4r s=some (a,t)∧(s.length:Int)=t.length+1∧s[((s.length:Int) - 1).toNat]? = some a∧s.take ((s.length:Int) - 1).toNat=t∧((t.length=0∧z4r t=none)∨∃ b u,z3h b∧z4r t=some (b,u)∧(t.length:Int)=u.length+1∧t[((t.length:Int) - 1).toNat]? = some b∧t.take ((t.length:Int) - 1).toNat=u)):=by
      by_cases h0:s.length=0
      ·exact .inl ⟨h0,zdd h0⟩
      ·obtain ⟨a,t,p1,p2,p3,p4,p5⟩:=zde h0
       have f1:=z4v hfit p1;refine .inr ⟨a,t,f1.1,p1,p3,p4,p5,?_⟩
       by_cases h1:t.length=0
       ·exact .inl ⟨h1,zdd h1⟩
       ·obtain ⟨b,u,q1,q2,q3,q4,q5⟩:=zde h1
        exact .inr ⟨b,u,(z4v f1.2 q1).1,q1,q3,q4,q5⟩
     rcases hk13 with hk|hk|hk|hk|hk|hk|hk|hk|hk|hk|hk|hk|hk|hk
     all_goals
      try simp only [z2v,hk,Int.reduceEq,if_true,if_false] at hF hO
      rcases hcase with ⟨c1,c2⟩|⟨a,t,fa,p1,p3,p4,p5,⟨c1,c2⟩|⟨b,u,fb,q1,q3,q4,q5⟩⟩
      ·try simp only [c2,z1e,z1m,zY0b] at hF hO
       repeat' (first|refine dq1 ?_|refine dqc ?_|refine dqm ?_|refine dqT ?_|refine dqF ?_|exact z6 rfl (by rw [hF (by (repeat' (first|rw [z28 (by omega)]|simp only [zY06,zY0b]|fail)))];rfl)|exact z7 rfl rfl (hO _ (by (repeat' (first|rfl|rw [z08 (by omega) (by omega) (by omega)]|fail))))|refine z36 rfl (fun h=>?_) (fun h=>?_)|fail)
      ·try simp only [p1,c2,z1e,z1m,zY0b,zY06] at hF hO
       obtain ⟨fa1,fa2⟩:=id fa
       repeat' (first|refine dq1 ?_|refine dqc ?_|refine dqm ?_|refine dqk rfl (zg8 _ (by assumption)) ?_|refine dqk rfl (znd _) ?_|refine dqT ?_|refine dqF ?_|exact z6 rfl (by rw [hF (by (repeat' (first|rw [z28 (by omega)]|rw [z08 (by omega) (by omega) (by omega)]|rw [if_pos (by omega)]|simp only [zY06,zY0b]|fail)))];rfl)|exact z7 rfl rfl (hO _ (by (repeat' (first|rfl|rw [z08 (by omega) (by omega) (by omega)]|rw [if_neg (by omega)]|simp only [zY06,zY0b]|fail))))|refine z36 rfl (fun h=>?_) (fun h=>?_)|fail)
      ·try simp only [p1,q1,z1e,z1m,zY0b,zY06] at hF hO
       obtain ⟨fa1,fa2⟩:=id fa;obtain ⟨fb1,fb2⟩:=id fb
       repeat' (first|refine dq1 ?_|refine dqc ?_|refine dqm ?_|refine dqk rfl (zg8 _ (by assumption)) ?_|refine dqk rfl (z0bu _ _ ⟨by assumption,by assumption⟩) ?_|refine dqk rfl (z0bv _ _ ⟨by assumption,by assumption⟩) ?_|refine dqk rfl (z076 _ _) ?_|refine dqk rfl (z077 _ _) ?_|refine dqk rfl (z0bw _ _) ?_|refine dqk rfl (znd _) ?_|refine dqT ?_|refine dqF ?_|exact z6 rfl (by rw [hF (by (repeat' (first|rw [z28 (by omega)]|rw [z08 (by omega) (by omega) (by omega)]|rw [if_pos (by omega)]|simp only [zY06,zY0b]|fail)))];rfl)|exact z7 rfl rfl (hO _ (by (repeat' (first|rfl|rw [z08 (by omega) (by omega) (by omega)]|rw [if_neg (by omega)]|simp only [zY06,zY0b]|fail))))|refine z36 rfl (fun h=>?_) (fun h=>?_)|fail)
    ·rintro s hs again'
     repeat' (first|refine dq1 ?_|exact z6 rfl rfl|refine dqF ?_|fail)
  ·intro i d hi hd
   match i,hi,hd with
   | 0,hi,_=>simp [zq] at hi
   | 1,_,hd=>simp only [Enc.e,z0r,zY1l,zY18,zY05,zY24,zY00] at hd;subst hd;rfl
   | i+2,hi,hd=>simp [zq] at hi
end
section
open Go.RowKit
set_option maxRecDepth 100000
set_option maxHeartbeats 4000000
attribute [local irreducible] z00 spD z1h z42
noncomputable def z92:zd:=spD (fun _:List Op × List Op × Int=>True) fun x=>z20 x.1 x.2.1 x.2.2
theorem zne (l k:List Op) (h:Int):z92 [.l 2 (l.map eOp),.l 2 (k.map eOp),I h]=some [.b (z20 l k h).1,I (z20 l k h).2]:=zm (f:=fun x:List Op × List Op × Int=>z20 x.1 x.2.1 x.2.2) (l,k,h) trivial
theorem z0ad {h:Int}:∀ {l:List Op} {s s':List Int},z1k s→z2p h s l=some s'→z1k s'
 | [],s,s',hs,he=>by cases he;exact hs
 | o::l,s,s',hs,he=>by
  rw [z2p] at he
  cases hm:z2v h s o with
  | none=>rw [hm] at he;cases he
  | some t=>rw [hm] at he;exact z0ad (zfl hs hm) he
theorem zs6 (l:List Op) (s:List Int) (h:Int):(z42 l s h).1.length≤16:=by
 unfold z42
 split
 ·simp
 split
 ·simp
 rename_i h2
 split
 ·rename_i h3
  have hs:z1k s:=⟨by omega,h3⟩
  cases hm:z2p h s l with
  | none=>simp
  | some t=>exact (z0ad hs hm).1
 ·simp
theorem z0li {l:List Int} (h:(l.length:Int)=1):l[(0:Int).toNat]? = some (l.headD 0):=by
 match l,h with
 | [x],_=>rfl
def ztg:T :=
 .lets [.bin .neq 8 (zI 0)] [] (.ite 9 (.ret [.c (.b false),8]) (.lets [.bin .add 5 (zI 1)] [] (.again 0 [3,4,10])))
def zth:T :=
 .lets [] [.inr 1 10 (zI 0)] (.lets [.idx 10 (zI 0) 0] [] (.lets [.bin .neq 16 (zI 0)] [] (.ret [17,zI 0])))
def zti:T :=
 .ite 13 (.lets [.len 10] [] (.lets [.bin .eql 14 (zI 1)] [] (.ite 15 zth (.ret [.c (.b false),zI 0])))) (.ret [.c (.b false),.c
 (.i .i64 0)])
def ztj:T :=
 .lets [.call 29 [0,7,2] 0,.call 29 [0,7,2] 1] [] (.lets [.bin .eql 11 (zI 3)] [] (.ite 12 (.ret [.c (.b false),11]) (.lets [.bin .eql
 11 (zI 0)] [] zti)))
def ztk:T :=
 .lets [] [.inr 1 7 (zI 0)] (.lets [.idx 7 (zI 0) 0] [] (.lets [.bin .neq 14 (zI 0)] [] (.ret [15,zI 0])))
def ztl:T :=
 .ite 11 (.lets [.len 7] [] (.lets [.bin .eql 12 (zI 1)] [] (.ite 13 ztk (.ret [.c (.b false),zI 0])))) (.ret [.c (.b false),.c
 (.i .i64 0)])
def ztm:T :=
 .ite 9 ztj (.lets [.bin .eql 8 (zI 3)] [] (.ite 10 (.ret [.c (.b false),8]) (.lets [.bin .eql 8 (zI 0)] [] ztl)))
def ztn:T :=
 .ite 6 (.lets [.sel [0,1] 5] [] (.lets [.call 7 [7] 0] [] ztg)) (.lets [.call 29 [1,.c (.nil 1),2] 0,.call 29 [1,.c (.nil 1),2] 1] []
 (.lets [.bin .eql 8 (zI 0)] [] ztm))
def zdx:T :=
 .loop [.c (.b false),zI 0,zI 0] (.lets [.bin .lss 5 (zI 2)] [] ztn)
theorem z07k:Meets Tryz.prog z92 144 ⟨[.one,.one,.one],[(false,[.scal]),(false,[.scal])],true⟩:=by
 refine zl (sp:=(z0g [(7,z2a),(29,z91)])) (sigs:=z0p) (cut:=[]) (hints:=[⟨2,[.t 6,.t 7,.t 16]⟩]) (fn:=Tryz.f144) (t:=zdx) (by kernel_rfl) (by kernel_rfl) (by kernel_rfl) ?_ ?_
 ·exact (z05 (L:=[(7,z2a),(29,z91)]) ⟨ze rfl za9,ze rfl z0f1,trivial⟩)
 ·rintro ds rs - h
  obtain ⟨⟨l,k,ht⟩,-,rfl,rfl⟩:=zp h;clear h;refine ⟨⟨3,?_⟩,zfa rfl rfl⟩
  show den _ _ zdx [.l 2 (l.map eOp),.l 2 (k.map eOp),I ht] []=ret (z20 l k ht)
  unfold zdx z20;refine z0n rfl ?_;rw [z01]
  repeat' (first|refine dq1 ?_|refine dqk rfl (z6i _) ?_|exact z6 rfl rfl|refine tR (fun h=>?_) fun h=>?_|fail)
  refine z7 rfl rfl ?_;rw [z01];have hr1:=zs6 k [] ht;have hr2:=zs6 l (z42 k [] ht).1 ht;unfold zej
  repeat' (first|refine dq1 ?_|refine dqc ?_|refine dqK rfl (zg9 k [] ht (by simp)) ?_|refine dqK rfl (zg9 l _ ht (by omega)) ?_|exact z6 rfl rfl|refine tR (fun h=>?_) fun h=>?_|fail)
  all_goals
   have hx:=z0li (by assumption)
   repeat' (first|refine dq1 ?_|exact z6 rfl rfl|fail)
end
section
open Go.RowKit
def znf (r:Option (List Int)):List Int × Int:=match r with
 | none=>([],8)
 | some s=>(s,0)
theorem zs7 {l:List Op} {s:List Int} {h:Int} (hl:za l=0) (h0:0≤h) (h1:h≤1000) (hs:z1k s):z42 l s h=znf (z2p h s l):=by
 unfold z42;rw [if_neg (fun e=>e hl),if_neg (by have:=hs.1;omega),if_pos hs.2];rfl
theorem zaa:z1k []:=⟨by simp,by simp⟩
theorem zkm {h:Int}:∀ {l:List Op} {s s':List Int},z1k s→z2p h s l=some s'→z1k s'
 | [],s,s',hs,he=>by cases he;exact hs
 | o::l,s,s',hs,he=>by
  rw [z2p] at he
  cases hm:z2v h s o with
  | none=>rw [hm] at he;cases he
  | some t=>rw [hm] at he;exact zkm (zfl hs hm) he
def zng (r:Option (List Int)):Bool:=match r with
 | some [x]=>decide (x≠0)
 | _=>false
theorem z07l (r:Option (List Int)):zej (znf r)=(zng r,0):=by
 match r with
 | none=>rfl
 | some []=>rfl
 | some [x]=>simp [zej,znf,zng]
 | some (x::y::t) =>
  show (if (0:Int)=3 then (false,0) else if (0:Int)=0 then (if ((x::y::t).length:Int)=1 then (decide ((x::y::t).headD 0≠0),0) else (false,0)) else (false,0))=(false,0)
  rw [if_neg (by decide),if_pos rfl,if_neg (by simp only [zY0c];omega)]
theorem z0bx {l k:List Op} {h:Int} (hl:za l=0) (hk:za k=0) (h0:0≤h) (h1:h≤1000):z20 l k h=(zng ((z2p h [] k).bind fun s=>z2p h s l),0):=by
 unfold z20;rw [if_neg (fun e=>e hl),if_neg (fun e=>e hk),zs7 hk h0 h1 zaa]
 cases hm:z2p h [] k with
 | none=>rfl
 | some s =>
  have hs:=zkm zaa hm;rw [if_pos (show (znf (some s)).2=0 from rfl),show (znf (some s)).1=s from rfl,zs7 hl h0 h1 hs,z07l];rfl
end
section
open Go.RowKit
open Go.Lib (itoa)
set_option maxRecDepth 100000
set_option maxHeartbeats 4000000
def z3s:zd:=fun ds=>match ds with
 | []=>some (opNames.map Dt.s)
 | _::_=>none
theorem znh:z3s []=some [.s [],.s [],.s [100,117,112],.s [115,119,97,112],.s [100,114,111,112],.s [97,100,100],.s [115,117,98],.s [115,97,109,101],.s [108,101,115,115],.s [110,111,116],.s [97,110,100],.s [118,101,114,105,102,121],.s [104,101,105,103,104,116],.s [109,105,120]]:=rfl
def z07m:T :=
 .ret [.c (.s []),.c (.s []),.c (.s [100,117,112]),.c (.s [115,119,97,112]),.c (.s [100,114,111,112]),.c (.s [97,100,100]),.c (.s [115,117,98]),.c (.s [115,97,
 109,101]),.c (.s [108,101,115,115]),.c (.s [110,111,116]),.c (.s [97,110,100]),.c (.s [118,101,114,105,102,121]),.c (.s [104,101,105,103,104,116]),.c (.s
 [109,105,120])]
def zto:T :=
 .lets [.call 38 [8] 0] [] (.lets [.mk 1 [[25]]] [] (.lets [.app 1 4 26] [] (.lets [.bin .add 5 (zI 1)] [] (.again 0 [27,28]))))
def ztp:T :=
 .ite 24 zto (.lets [.mk 1 [[23]]] [] (.lets [.app 1 4 25] [] (.lets [.bin .add 5 (zI 1)] [] (.again 0 [26,27]))))
def ztq:T :=
 .lets [.sel [9,10,11,12,13,14,15,16,17,18,19,20,21,22] 7] [] (.lets [.bin .eql 7 (zI 1)] [] ztp)
def ztr:T :=
 .lets [.call 40 [] 0,.call 40 [] 1,.call 40 [] 2,.call 40 [] 3,.call 40 [] 4,.call 40 [] 5,.call 40 [] 6,.call 40 [] 7,.call 40 [] 8,.call 40 [] 9,.call 40 [] 10,.call 40
 [] 11,.call 40 [] 12,.call 40 [] 13] [] ztq
def zts:T :=
 .ite 6 (.lets [] [.inr 2 0 5] (.lets [.idx 0 5 0,.idx 0 5 1] [] ztr)) (.lets [.call 39 [4,.c (.s [32])] 0] [] (.ret [7,.c (.i
 .i64 0)]))
def ztt:T :=
 .lets [.bin .neq 1 (zI 0)] [] (.ite 2 (.ret [.c (.s []),1]) (.lets [.len 0] [] (.loop [.c (.nil 1),zI 0] (.lets [.bin .lss 5 3] []
 zts))))
def zdy:T :=
 .lets [.call 7 [0] 0] [] ztt
theorem z07n:Meets Tryz.prog z3s 142 ⟨[],[(true,[.scal,.scal,.scal,.scal,.scal,.scal,.scal,.scal,.scal,.scal,.scal,.scal,.scal,.scal])],true⟩:=by
 refine zl (sp:=(z0g [])) (sigs:=z0p) (cut:=[]) (hints:=[]) (fn:=Tryz.f142) (t:=z07m) (by kernel_rfl) (by kernel_rfl) (by kernel_rfl) ?_ ?_
 ·exact (z05 (L:=[]) trivial)
 ·rintro ds rs - h
  cases ds with
  | cons d ds=>cases h
  | nil =>
   cases h
   refine ⟨⟨1,rfl⟩,fun i d hi hd=>?_⟩;rw [zY0j] at hd;obtain ⟨x,_,rfl⟩:=zY0s.1 hd;rfl
noncomputable def zhf:zd:=spD (fun _:List Op=>True) fun l=>z3a l
theorem zni (l:List Op):zhf [.l 2 (l.map eOp)]=some [.s (z3a l).1,I (z3a l).2]:=zm (f:=fun l:List Op=>z3a l) l trivial
theorem z0pb {k:Int} (h0:1≤k) (h1:k≤13):(opNames.map Dt.s)[k.toNat]? = some (.s ((opNames[k.toNat]?).getD [])):=by
 rcases z0bl h0 h1 with rfl|rfl|rfl|rfl|rfl|rfl|rfl|rfl|rfl|rfl|rfl|rfl|rfl <;> rfl
attribute [local irreducible] z00 spD z1h itoa za z20 z3y z3s
theorem z07o:Meets Tryz.prog zhf 114 ⟨[.one],[(false,[.scal]),(false,[.scal])],true⟩:=by
 refine zl (sp:=(z0g [(7,z2a),(38,z4d),(39,zbf),(40,z3s)])) (sigs:=z0p) (cut:=[]) (hints:=[⟨6,[.r 5 9 1,.t 16]⟩]) (fn:=Tryz.f114) (t:=zdy) (by kernel_rfl) (by kernel_rfl) (by kernel_rfl) ?_ ?_
 ·exact (z05 (L:=[(7,z2a),(38,z4d),(39,zbf),(40,z3s)]) ⟨ze rfl za9,ze rfl zn8,ze rfl z0ew,ze rfl z07n,trivial⟩)
 ·rintro ds rs - h
  obtain ⟨l,-,rfl,rfl⟩:=zp h;clear h;refine ⟨⟨l.length+1,?_⟩,zfa rfl rfl⟩
  show den _ _ zdy [.l 2 (l.map eOp)] []=ret (z3a l)
  unfold zdy z3a
  repeat' (first|refine dq1 ?_|refine dqk rfl (z6i _) ?_|exact z6 rfl rfl|refine tR (fun h=>?_) fun h=>?_|fail)
  have hc0:za l=0:=zY12.1 (by assumption);obtain ⟨hl16,hall⟩:=zcd hc0
  (refine zr (fun (s:List (List UInt8)) k=>[.l 1 (s.map z13),I k]) (fun (s:List (List UInt8)) _ (r:List Op)=>(z3y 32 (s++r.map z1s),(0:Int))) (fun s k=>s=(l.take k).map z1s) [] l ?_ ?_ ?_ ?_ ?_;rfl;exact rfl;omega)
  ·rintro s k o r hx hd hk hs again hag
   have hsl:s.length≤16:=by rw [hs,zY0v,zY0e];omega
   have ho:=zkj (hall o (zY0a hx));obtain ⟨ho1,ho2,-⟩:=ho;have hn:=z0pb ho1 ho2;have hnext:s++[z1s o]=(l.take (k+1)).map z1s:=by rw [hs,List.take_add_one,hx,zY1x];rfl
   have hag:=hag (s++[z1s o]) hnext;rw [← List.append_cons] at hag;rw [zY1m]
   repeat' (first|refine dq1 ?_|refine dqc ?_|refine dqm ?_|refine dqK rfl (znh) ?_|refine dqT ?_|fail)
   refine z5 (z0ej rfl rfl (by omega) hn) ?_
   repeat' (first|refine dq1 ?_|fail)
   refine z36 rfl (fun h=>?_) (fun h=>?_)
   ·have ht:z1s o=itoa o.n:=if_pos h
    rw [ht] at hag ⊢
    repeat' (first|refine dq1 ?_|refine dqk rfl (z5v _) ?_|refine z5 (z24 rfl rfl (by simp)) ?_|fail)
    exact z7 rfl rfl hag
   ·have ht:z1s o=(opNames[o.kind.toNat]?).getD []:=if_neg h
    rw [ht] at hag ⊢
    repeat' (first|refine dq1 ?_|refine z5 (z24 rfl rfl (by simp)) ?_|fail)
    exact z7 rfl rfl hag
  ·rintro s hs again
   rw [zY1i] at hs;subst hs;have hln:=za7 hc0;have hj:=zmx 32 (l.map z1s);have ht:z3y 32 (l.map z1s)=z5i l:=rfl;simp only [zY2e,zY1e];rw [← hj]
   repeat' (first|refine dq1 ?_|refine dqk rfl (zsx (l.map z1s) [32] ⟨by rw [zY0v];omega,by rw [hj,ht];omega⟩) ?_|exact z6 rfl rfl|refine dqF ?_|fail)
end
section
open Go.RowKit Go.Shelf
open Go.Lib (itoa)
set_option maxRecDepth 100000
def FactsW (w:World) (F:Nat→Prop) (Δ:List Res):Prop:=∀ r ∈ Δ,r.block=none∧r.holds w.heap.size F w
theorem FactsW.nil {w:World} {F:Nat→Prop}:FactsW w F []:=fun _ h=>by cases h
theorem FactsW.cons {w:World} {F:Nat→Prop} {Δ:List Res} {r:Res} (h1:r.block=none) (h2:r.holds w.heap.size F w) (h:FactsW w F Δ):FactsW w F (r::Δ):=fun q hq=>by
 rcases zY0i.1 hq with rfl|hq
 ·exact ⟨h1,h2⟩
 ·exact h q hq
theorem z0f7 {α:Type} {S:Sh α} {xs:List α} {A:Option Addr} {n c:Nat}:(rds xs A n c S).block=none:=by unfold rds zkf;rfl
theorem z0f8 {α:Type} {S:Sh α} {xs:List α} {A:Option Addr} {n c h0:Nat} {w:World} {F:Nat→Prop} (h:Rds S w F xs A n c):(rds xs A n c S).holds h0 F w:=by unfold rds zkf;exact h
theorem FactsW.rds {w:World} {F:Nat→Prop} {Δ:List Res} {α:Type} {S:Sh α} {xs:List α} {A:Option Addr} {n c:Nat} (h:Rds S w F xs A n c) (hΔ:FactsW w F Δ):FactsW w F (rds xs A n c S::Δ):=.cons z0f7 (z0f8 h) hΔ
def sb (gb:Nat) (l:List UInt8):Res:={
 block:=some gb
 holds h0 F W:=h0≤gb∧∃ v p,W.heap[gb]? = some (.cells #[p,v] 177 (0,0))∧W.ownsRow gb 5 1 v l.length (Lib.byteCells l)∧v.ownBlock≠some gb∧(∀ g,v.ownBlock=some g→F g)∧(p = .pointer none∨p = .pointer (some ⟨gb,0,none⟩))
 keep:=fun ha hF hb ⟨h0,v,p,h1,h2,h3,h4,h5⟩=>⟨h0,v,p,(hb _ rfl).trans h1,zgz h2 (fun g hg=>ha g (h4 g hg)),h3,fun g hg=>hF g (h4 g hg),h5⟩
 lt:=fun ⟨h0,v,p,h1,_⟩ e=>by injection e with e;subst e;exact ⟨h0,(zY17.1 h1).1⟩ }
section
variable {w0 W:World} {F0:Nat→Prop} {Γ Δ:List Res} {gb:Nat} {l:List UInt8}
theorem FactsW.sep {r:Res} (hΔ:FactsW w0 F0 Δ) (hb:Below w0.heap.size w0 W) (hF:∀ b,F0 b→b<w0.heap.size) (hr:r.holds w0.heap.size (Free w0.heap.size F0 (r::Δ) W) W) (hg:∀ g,r.block=some g→w0.heap.size≤g):Sep w0 F0 (r::Δ) W:=by
 refine ⟨hb,hF,?_,?_⟩
 ·intro q hq
  rcases zY0i.1 hq with rfl|hq
  ·exact hr
  ·refine q.keep (fun b hb'=>hb.block b (hF b hb')) (fun b hb'=>⟨.inl hb',fun p hp e=>?_⟩) (fun g hg'=>by rw [(hΔ q hq).1] at hg';cases hg') (hΔ q hq).2
   rcases zY0i.1 hp with rfl|hp
   ·have:=hg b e;have:=hF b hb';omega
   ·rw [(hΔ p hp).1] at e;cases e
 ·refine zY1v.2 ⟨fun q hq g _ h2=>(by rw [(hΔ q hq).1] at h2;cases h2),?_⟩
  exact List.pairwise_of_forall_mem_list fun q hq p hp g h1 _=>by rw [(hΔ q hq).1] at h1;cases h1
theorem Sep.sbStart {w:World} {F:Nat→Prop} (hF:∀ b,F b→b<w.heap.size) (hΔ:FactsW w F Δ):Sep w F (sb w.heap.size []::Δ) (w.alloc (.cells #[.pointer none,.slice none 0 0] 177)) :=
 hΔ.sep ((Below.refl _ _).alloc (zY0h _) _) hF ⟨zY0h _,.slice none 0 0,.pointer none,heap_alloc_new w _,World.ownsRow_nil _ _ _ _,by simp [Value.ownBlock],fun g hg=>by simp [Value.ownBlock] at hg,.inl rfl⟩ (fun g hg=>by injection hg with hg;omega)
theorem Sep.sbIs (hS:Sep w0 F0 Γ W) (hm:At Γ (sb gb l)):Lib.IsBuilder 177 5 gb gb (Lib.byteCells l) W:=by
 obtain ⟨h0,v,p,h1,h2,h3,-,h5⟩:=hS.get hm;have e:(Lib.byteCells l).length=l.length:=Lib.byteCells_length l;rcases h5 with rfl|rfl
 ·exact .inl ⟨zY0h _,v,h1,by rw [e];exact h2,h3⟩
 ·exact .inr ⟨zY0h _,v,h1,by rw [e];exact h2,h3⟩
theorem Sep.write (hS:Sep w0 F0 Γ W) (hm:At Γ (sb w0.heap.size l)) (hΔ:FactsW w0 F0 Δ) (s:ByteArray) (hl:l.length+s.size≤1000000) :
  Calls Tryz.prog 112 #[.pointer (some ⟨w0.heap.size,0,none⟩),.string s] W fun e W'=>(∃ v,e = .returned v)∧Sep w0 F0 (sb w0.heap.size (l++s.data.toList)::Δ) W':=by
 have hB:=hS.sbIs hm;have e:(Lib.byteCells l).length=l.length:=Lib.byteCells_length l;refine (Any.Builder_WriteString { Tryz.lays156 with } Tryz.Builder_Extra_156 w0.heap.size w0.heap.size (Lib.byteCells l) s W hB (by rw [e];omega) hS.size).mono ?_;rintro e w' ⟨rfl,⟨-,v,h1,h2,h3⟩,h4⟩;refine ⟨⟨_,rfl⟩,?_⟩;have hb:Below w0.heap.size w0 w':=hS.below.trans h4;rw [Lib.strCells_eq,← Lib.byteCells_append] at h2;rw [Lib.byteCells_length] at h2;refine hΔ.sep hb hS.low ⟨zY0h _,v,_,h1,h2,h3,fun g hg=>⟨.inr ?_,?_⟩,.inr rfl⟩ (fun g hg=>by injection hg with hg;omega)
 ·exact h2.lt g hg
 ·intro q hq e
  rcases zY0i.1 hq with rfl|hq
  ·exact h3 (hg.trans e.symm)
  ·rw [(hΔ q hq).1] at e;cases e
theorem Sep.text (hS:Sep w0 F0 Γ W) (hm:At Γ (sb w0.heap.size l)) :
  Calls Tryz.prog 113 #[.pointer (some ⟨w0.heap.size,0,none⟩)] W fun e W'=>e = .returned (.string ⟨l.toArray⟩)∧Below w0.heap.size w0 W' :=
 (Any.Builder_String_any Tryz.lays169 Tryz.Builder_Extra_169 w0.heap.size w0.heap.size l W (hS.sbIs hm) hS.size).mono fun e w' ⟨h1,h2⟩=>⟨h1,hS.below.trans h2⟩
section
variable {P:Program} {ops:Array Oper} {Q:Exit→Act→World→Prop} {a:Act} {rest:List Oper} {o:Oper}
theorem wsb (hgd:Region.wanted o (yielded ops a.tmps)=true) (ho:o.op = .alloc 177) (hz:z4z P 177 [.pointer none,.slice none 0 0]) (hΔ:FactsW W (Lt W.heap.size) Δ)
  (k:∀ W',Sep W (Lt W.heap.size) (sb W.heap.size []::Δ) W'→wpList P ops Q rest (a.put o.dst (.pointer (some ⟨W.heap.size,0,none⟩))) W'):wpList P ops Q (o::rest) a W :=
 BigFrame.wpList_want hgd fun K hK=>by
  obtain ⟨z,hz1,hz2⟩:=hz;unfold Oper.wp execOp;simp only [ho,Instr.alloc,newVar,newRow,Sem.run_bind,run_newObj_alloc,Result.andThen_ok,Sem.run_pure,hz2,hz1];exact hK _ _ (k _ (Sep.sbStart (fun _ h=>h) hΔ))
end
end
attribute [irreducible] sb
theorem Yl.cat {P:Program} {w0:World} {F0:Nat→Prop} {Γ:List Res} {o:Oper} {a:Act} {t t':TypeId} {x y:Operand} {s r:List UInt8} (ho:o.op = .binOp .add t x y t') (hx:a.eval x = .string ⟨s.toArray⟩) (hy:a.eval y = .string ⟨r.toArray⟩) (hl:s.length+r.length≤1000000):Yl P w0 F0 Γ o a (.string ⟨(s++r).toArray⟩) :=
 Yl.pure fun W=>by
  have e3:(⟨s.toArray⟩++⟨r.toArray⟩:ByteArray)=⟨(s++r).toArray⟩:=by
   apply ByteArray.ext;simp
  have hn:¬ ((((⟨s.toArray⟩:ByteArray).size+(⟨r.toArray⟩:ByteArray).size:Nat):Int) > IntKind.i64.max):=by
   simp only [ByteArray.size,zY2j,IntKind.max,IntKind.bits,IntKind.signed];omega
  unfold execOp;simp only [ho,hx,hy,binOp,Op.stringOp,if_neg hn,e3];rfl
theorem z_sb:z4z Tryz.prog 177 [.pointer none,.slice none 0 0]:=⟨.agg #[.pointer none,.slice none 0 0],rfl,Tryz.zeroValue177⟩
section
variable {P:Program} {W:World} {F:Nat→Prop}
theorem z01i {spec:zd} {f:Nat} {pk:List PK} {d1 d2:Dt} (hpk:z45 pk=false) (hen:En P f) (hM:Meets P spec f ⟨pk,[(false,[.scal]),(false,[.scal])],true⟩) {ds:List Dt} {us:List Value} (hF:z9o F W) (hs:spec ds=some [d1,d2]) (hargs:PKRs W F pk ds us) :
  Calls P f us.toArray W fun e w'=>(∃ v1 v2 F',e = .returned (.tuple #[v1,v2])∧Rep w' F' d1 v1∧Rep w' F' d2 v2)∧Below W.heap.size W w':=by
 rcases hM.1 hpk W F ds us _ hF hargs hs with ⟨_,h⟩|⟨v,W',h1,_⟩
 ·refine h.mono fun e w' ⟨v,h1,h2,us,F',hR⟩=>⟨?_,h2⟩
  obtain ⟨vs,rfl,v1,vs1,u1,u2,rfl,rfl,⟨rfl,-⟩,v2,vs2,u3,u4,rfl,rfl,⟨rfl,-⟩,rfl,rfl⟩:=hR.val;exact ⟨v1,v2,F',h1,(hR.cells 0 .scal d1 v1 rfl rfl rfl).2,(hR.cells 1 .scal d2 v2 rfl rfl rfl).2⟩
 ·rw [hen.run] at h1;cases h1
end
theorem zal (n:Int) (hn:I64 n) {W:World} (hG:Glob W):Calls Tryz.prog 104 #[.int .i64 n] W fun e w'=>e = .returned (.string ⟨(itoa n).toArray⟩)∧Below W.heap.size W w':=by
 refine (Any.strconv_Itoa Tryz.lays171 n hn.1 hn.2 W hG.1).mono ?_;rintro e w' ⟨rfl,k,os,rfl⟩;exact ⟨rfl,Go.Lib.below_grow _ _ (zY0h _) k os⟩
theorem zjk (l:List Op) {A:Option Addr} {n c:Nat} {W:World} {F:Nat→Prop} (hF:z9o F W) (h:Rds shOp W F l A n c) :
  Calls Tryz.prog 114 #[.slice A n c] W fun e w'=>e = .returned (.tuple #[.string ⟨(z3a l).1.toArray⟩,.int .i64 (z3a l).2])∧Below W.heap.size W w':=by
 refine (z01i (us:=[.slice A n c]) rfl (z2t (fn:=Tryz.f114) (by kernel_rfl) (by kernel_rfl) (by kernel_rfl)) z07o hF (zni l) (zf8 (z8h z8u h) zml)).mono ?_;rintro e w' ⟨⟨v1,v2,F',rfl,h1,h2⟩,h3⟩;obtain ⟨rfl,-⟩:=ziu h1;obtain ⟨rfl,-⟩:=zit h2;exact ⟨rfl,h3⟩
end
section
open Go.RowKit Go.Shelf
open Go.Lib (itoa)
set_option maxRecDepth 100000
set_option maxHeartbeats 4000000 in
theorem zsa (t:Tx) (cs:List Value) {w0 W:World} {F0:Nat→Prop} {Γ:List Res} (hS:Sep w0 F0 Γ W) (ht:At Γ (rep t cs shTx)) (hG:Glob w0) :
  Calls Tryz.prog 71 #[.agg cs.toArray] W (RV w0 F0 Γ (.tuple #[.string ⟨(z0b t).1.toArray⟩,.int .i64 (z0b t).2])):=by
 (have hO:=hS.open_tx ht;clear hS;obtain ⟨A,n,c,A2,n2,c2,rfl,i1,hS⟩:=hO)
 obtain ⟨hl1,hn1,hc1⟩:=hS.len (xs:=t.ins) (by repeat (with_reducible exact At.z))
 obtain ⟨hl2,hn2,hc2⟩:=hS.len (xs:=t.outs) (by repeat (first|with_reducible exact At.z|apply At.s))
 have HP:=Lib.hid (show z0b t=if zg t≠0 then ([],zg t) else (z0d t,0) from rfl)
 generalize z0b t=R at *
 have L1:=Lib.hid hl1
 have L2:=Lib.hid hl2
 clear hl1 hl2
 go_enter Tryz.func71,Tryz.ntmps71
 (go_wp2_with ((refine Sep.wbox hS (by rfl) rfl rfl ?_;clear hS;intro gt W hS;refine Stop.go ?_));refine Stop.mk ?_)
 go_wp2_with (((refine Sep.wloadNb hS (by rfl) rfl rfl (by repeat (with_reducible exact At.z)) (z2f rfl) ?_)))
 refine (hS.old (zdw t [_,_,_] _ _ (hS.ltsRep (At.s (At.s (At.s ht)))) (fun b hb=>hb))).mono ?_;clear hS;rintro e W ⟨rfl,hS⟩
 rcases Classical.em (zg t=0) with h0|h0
 ·rw [h0]
  have HR:Hid (R=(z0d t,0)):=Lib.hid (by rw [HP.out,if_neg (fun h=>h h0)])
  have H0:=Lib.hid h0
  have hlen:n≤6∧n2≤6:=by
   have q:=h0
   unfold zg z27 at q
   have:=L1.out
   have:=L2.out
   by_cases h6:6<t.ins.length∨6<t.outs.length
   ·rw [if_pos h6] at q;simp at q
   ·omega
  clear h0 HP
  have b0:=hS.boxCell (g:=gt) At.z 0 _ rfl
  have b1:=hS.boxCell (g:=gt) At.z 1 _ rfl
  have b2:=hS.boxCell (g:=gt) At.z 2 _ rfl
  have gl:gt<W.heap.size:=(zY17.1 (hS.getBox (g:=gt) At.z).2).1
  have hΔ:FactsW W (Lt W.heap.size) [rds t.ins A n c shIn,rds t.outs A2 n2 c2 shOut]:=.rds (hS.ltsRds (by repeat (first|with_reducible exact At.z|apply At.s))) (.rds (hS.ltsRds (by repeat (first|with_reducible exact At.z|apply At.s))) .nil)
  have hG1:Glob W:=hG.on hS.below
  obtain ⟨h,ins,outs⟩:=t
  simp only at *
  rename World=>Wb
  have hSo:=hS
  clear hS
  (go_wp2_with (first|(refine wsb (by rfl) rfl z_sb hΔ ?_;intro W1 hS;refine Stop.go ?_));refine Stop.mk ?_)
  have c0:=(hS.below.cell (p:=⟨gt,0,none⟩) gl).trans b0
  go_wp2_with fail
  refine (hS.old (zal h i1 (hG1.on hS.below))).mono ?_;clear hS;rintro e W ⟨rfl,hS⟩
  have li:=z5u h i1
  go_wp2_with fail
  refine (hS.write (l:=[]) (by repeat (with_reducible exact At.z)) hΔ _ (by simp [ByteArray.size];omega)).mono ?_
  clear hS
  rintro e W2 ⟨⟨v,rfl⟩,hS⟩
  have c1:=(hS.below.cell (p:=⟨gt,1,none⟩) gl).trans b1
  go_wp2_with fail
  have e0:[]++((⟨#[116,120,32]⟩:ByteArray)++⟨(itoa h).toArray⟩++⟨#[10]⟩).data.toList=z4e ⟨h,ins,outs⟩:=by simp [ByteArray.data_append,z4e]
  rw [e0] at hS
  clear e0
  have lh:(z4e ⟨h,ins,outs⟩).length≤24:=by simp [z4e];omega
  go_loopw [7,8,9,28] (fun _ _ _ i wr=>∃ k:Nat,k≤n∧i = .int .i64 k∧∃ l:List UInt8,l.length≤24+200 * k∧Hid (l=z4e ⟨h,ins,outs⟩++(ins.take k).flatMap z3f)∧Sep Wb (Lt Wb.heap.size) (sb Wb.heap.size l::rds ins A n c shIn::rds outs A2 n2 c2 shOut::[]) wr) (fun _ _ _ i _=>n - (intOf i).toNat)
  case atStart=>exact ⟨0,by omega,rfl,z4e ⟨h,ins,outs⟩,by omega,Lib.hid (by simp),hS.sub (by repeat (with_reducible exact Sub.refl))⟩
  case round =>
   clear hS c1 c0
   obtain ⟨k,hk,rfl,l,hl,HL,hS⟩:=hrel
   rcases Classical.em (k<n) with hlt|hlt
   ·(have hO:=hS.elemIn (xs:=ins) (by repeat (first|with_reducible exact At.z|apply At.s)) hlt;clear hS;obtain ⟨b,off,x,A1,n1,c1,rfl,hx,j1,j2,hS⟩:=hO)
    have HX:=Lib.hid hx
    have k1:(0:Int)≤(k:Int):=by omega
    have k2:(k:Int)<(n:Int):=by omega
    clear hx
    obtain ⟨⟨ptx,pat⟩,key⟩:=x
    simp only at j1 j2 hS
    (go_wp2_with (first|(refine Sep.wloadNz hS (by rfl) rfl rfl (by repeat (first|with_reducible exact At.z|apply At.s)) (z2f rfl) ?_)|(refine Sep.walloc hS (by rfl) rfl (by first|exact zhj|exact z_in) ?_;clear hS;intro g W hS)|(refine Sep.wstoreNb hS (by rfl) rfl rfl rfl (z2f rfl) (by simp [zar,Value.oneCell']) (by repeat (first|with_reducible exact At.z|apply At.s)) (by rfl) (by repeat (first|with_reducible exact Put.z|apply Put.s)) ?_;clear hS;intro W hS;refine Stop.go ?_));refine Stop.mk ?_)
    have x2:=hS.boxCell (g:=g) (cs:=[.int .i64 ptx,.int .i64 pat,.slice A1 n1 c1]) (by repeat (with_reducible exact At.z)) 2 _ rfl
    go_wp2_with fail
    refine (hS.old (zjk key ⟨fun b hb=>hb,hG1.on hS.below⟩ (hS.ltsRds (by repeat (first|with_reducible exact At.z|apply At.s))))).mono ?_;clear hS;rintro e W ⟨rfl,hS⟩
    clear x2
    have lp:=zbg key
    have l1:=z5u ptx j1
    have l2:=z5u pat j2
    go_wp2_with fail
    (refine Sep.regionT hS [15] (by kernel_rfl) ?_;clear hS;intro W hS)
    (refine z29 0 rfl rfl (by ((apply Yl.pure;intro W;go_simp;with_reducible rfl))) (hS.sub (by repeat (with_reducible exact Sub.refl))) (by kernel_rfl) (fun _ _ _ h=>h) ?_;simp only [Act.put,zY07,zY0k,zY0l])
    (refine z29 1 rfl rfl (by ((apply Yl.pure;intro W;go_simp;with_reducible rfl))) (hS.sub (by repeat (with_reducible exact Sub.refl))) (by kernel_rfl) (fun _ _ _ h=>h) ?_;simp only [Act.put,zY07,zY0k,zY0l])
    (refine z29 2 rfl rfl (by (exact Yl.load1b rfl rfl (z64 rfl) (by repeat (with_reducible exact At.z)) rfl)) (hS.sub (by repeat (with_reducible exact Sub.refl))) (by kernel_rfl) (fun _ _ _ h=>h) ?_;simp only [Act.put,zY07,zY0k,zY0l])
    (refine z29 6 rfl rfl (by ((apply Yl.pure;intro W;go_simp;with_reducible rfl))) (hS.sub (by repeat (with_reducible exact Sub.refl))) (by kernel_rfl) (fun _ _ _ h=>h) ?_;simp only [Act.put,zY07,zY0k,zY0l])
    (refine z29 7 rfl rfl (by ((apply Yl.pure;intro W;go_simp;with_reducible rfl))) (hS.sub (by repeat (with_reducible exact Sub.refl))) (by kernel_rfl) (fun _ _ _ h=>h) ?_;simp only [Act.put,zY07,zY0k,zY0l])
    (refine z29 8 rfl rfl (by (exact Yl.load1b rfl rfl (z64 rfl) (by repeat (with_reducible exact At.z)) rfl)) (hS.sub (by repeat (with_reducible exact Sub.refl))) (by kernel_rfl) (fun _ _ _ h=>h) ?_;simp only [Act.put,zY07,zY0k,zY0l])
    (refine z29 12 rfl rfl (by (exact Yl.move rfl)) (hS.sub (by repeat (with_reducible exact Sub.refl))) (by kernel_rfl) (fun _ _ _ h=>h) ?_;simp only [Act.put,zY07,zY0k,zY0l])
    refine zhi 3 (by kernel_rfl) rfl ?_
    go_wp2_with fail
    refine (hS.old (zal ptx j1 (hG1.on hS.below))).mono ?_;clear hS;rintro e W ⟨rfl,hS⟩
    go_wp2_with fail
    (refine ⟨fun _=>hS.sub (by repeat (with_reducible exact Sub.refl)),?_⟩;try simp only [Act.put,zY07,zY0k,zY0l])
    (refine z29 4 rfl rfl (Yl.cat rfl rfl rfl (by simp only [zY04,zY0c,zY0r];omega)) (hS.sub (by repeat (with_reducible exact Sub.refl))) (by kernel_rfl) (fun _ _ _ h=>h) ?_;simp only [Act.put,zY07,zY0k,zY0l])
    (refine z29 5 rfl rfl (Yl.cat rfl rfl rfl (by simp only [zY04,zY0c,zY0r];omega)) (hS.sub (by repeat (with_reducible exact Sub.refl))) (by kernel_rfl) (fun _ _ _ h=>h) ?_;simp only [Act.put,zY07,zY0k,zY0l])
    refine zhi 9 (by kernel_rfl) rfl ?_
    go_wp2_with fail
    refine (hS.old (zal pat j2 (hG1.on hS.below))).mono ?_;clear hS;rintro e W ⟨rfl,hS⟩
    go_wp2_with fail
    (refine ⟨fun _=>hS.sub (by repeat (with_reducible exact Sub.refl)),?_⟩;try simp only [Act.put,zY07,zY0k,zY0l])
    (refine z29 10 rfl rfl (Yl.cat rfl rfl rfl (by simp only [zY04,zY0c,zY0r];omega)) (hS.sub (by repeat (with_reducible exact Sub.refl))) (by kernel_rfl) (fun _ _ _ h=>h) ?_;simp only [Act.put,zY07,zY0k,zY0l])
    (refine z29 11 rfl rfl (Yl.cat rfl rfl rfl (by simp only [zY04,zY0c,zY0r];omega)) (hS.sub (by repeat (with_reducible exact Sub.refl))) (by kernel_rfl) (fun _ _ _ h=>h) ?_;simp only [Act.put,zY07,zY0k,zY0l])
    (refine z29 13 rfl rfl (Yl.cat rfl rfl rfl (by simp only [zY04,zY0c,zY0r];omega)) (hS.sub (by repeat (with_reducible exact Sub.refl))) (by kernel_rfl) (fun _ _ _ h=>h) ?_;simp only [Act.put,zY07,zY0k,zY0l])
    (refine z29 14 rfl rfl (Yl.cat rfl rfl rfl (by simp only [zY04,zY0c,zY0r];omega)) (hS.sub (by repeat (with_reducible exact Sub.refl))) (by kernel_rfl) (fun _ _ _ h=>h) ?_;simp only [Act.put,zY07,zY0k,zY0l])
    refine zhi 15 (by kernel_rfl) rfl ?_
    go_wp2_with fail
    refine (hS.write (l:=l) (by repeat (first|with_reducible exact At.z|apply At.s)) hΔ _ (by simp [ByteArray.size];omega)).mono ?_
    clear hS
    rintro e W2 ⟨⟨v,rfl⟩,hS⟩
    go_wp2_with fail
    (refine ⟨fun h=>z0ae (by kernel_rfl) h,?_⟩;try simp only [Act.put,zY07,zY0k,zY0l])
    refine zjj (by kernel_rfl) ?_
    go_wp2_with fail
    rw [show l++105::110::32::(itoa ptx++32::(itoa pat++58::((z3a key).1++[10])))=l++z3f ⟨⟨ptx,pat⟩,key⟩ by simp [z3f]] at hS
    go_roundw
    case measure=>simp [intOf];omega
    case rel=>exact ⟨k+1,by omega,by go_num,l++z3f ⟨⟨ptx,pat⟩,key⟩,by simp [z3f];omega,Lib.hid (by rw [z1x HX.out,HL.out];simp),hS.sub (by repeat (with_reducible exact Sub.refl))⟩
   ·obtain rfl:k=n:=by omega
    have d2:=(hS.below.cell (p:=⟨gt,2,none⟩) gl).trans b2
    have HL2:Hid (l=z4e ⟨h,ins,outs⟩++ins.flatMap z3f):=Lib.hid (by rw [HL.out,zY0t (by have:=L1.out;omega)])
    clear HL
    go_wp2_with fail
    clear d2
    go_loopw [11,12,13,58] (fun _ _ _ i wr=>∃ k:Nat,k≤n2∧i = .int .i64 k∧∃ m:List UInt8,m.length≤l.length+200 * k∧Hid (m=l++(outs.take k).flatMap z2j)∧Sep Wb (Lt Wb.heap.size) (sb Wb.heap.size m::rds outs A2 n2 c2 shOut::[]) wr) (fun _ _ _ i _=>n2 - (intOf i).toNat)
    case atStart=>exact ⟨0,by omega,rfl,l,by omega,Lib.hid (by simp),hS.sub (by repeat (first|with_reducible exact Sub.nil|refine Sub.take (by repeat (first|with_reducible exact Del.z|apply Del.s)) ?_))⟩
    case round =>
     clear hS
     obtain ⟨k,hk,rfl,m,hm,HM,hS⟩:=hrel
     rcases Classical.em (k<n2) with hlt|hlt
     ·(have hO:=hS.elemOut (xs:=outs) (by repeat (first|with_reducible exact At.z|apply At.s)) hlt;clear hS;obtain ⟨b,off,x,A1,n1,c1,rfl,hx,j1,hS⟩:=hO)
      have HX:=Lib.hid hx
      have k1:(0:Int)≤(k:Int):=by omega
      have k2:(k:Int)<(n2:Int):=by omega
      clear hx
      obtain ⟨coin,lock⟩:=x
      simp only at j1 hS
      (go_wp2_with (first|(refine Sep.wloadNz hS (by rfl) rfl rfl (by repeat (first|with_reducible exact At.z|apply At.s)) (z2f rfl) ?_)|(refine Sep.walloc hS (by rfl) rfl (by first|exact zhj|exact z0k6) ?_;clear hS;intro g W hS)|(refine Sep.wstoreNb hS (by rfl) rfl rfl rfl (z2f rfl) (by simp [zar,Value.oneCell']) (by repeat (first|with_reducible exact At.z|apply At.s)) (by rfl) (by repeat (first|with_reducible exact Put.z|apply Put.s)) ?_;clear hS;intro W hS;refine Stop.go ?_));refine Stop.mk ?_)
      have x1:=hS.boxCell (g:=g) (cs:=[.int .i64 coin,.slice A1 n1 c1]) (by repeat (with_reducible exact At.z)) 1 _ rfl
      go_wp2_with fail
      refine (hS.old (zjk lock ⟨fun b hb=>hb,hG1.on hS.below⟩ (hS.ltsRds (by repeat (first|with_reducible exact At.z|apply At.s))))).mono ?_;clear hS;rintro e W ⟨rfl,hS⟩
      clear x1
      have lp:=zbg lock
      have l1:=z5u coin j1
      have x0:=hS.boxCell (g:=g) (cs:=[.int .i64 coin,.slice A1 n1 c1]) (by repeat (with_reducible exact At.z)) 0 _ rfl
      go_wp2_with fail
      refine (hS.old (zal coin j1 (hG1.on hS.below))).mono ?_;clear hS;rintro e W ⟨rfl,hS⟩
      clear x0
      go_wp2_with fail
      refine (hS.write (l:=m) (by repeat (first|with_reducible exact At.z|apply At.s)) hΔ _ (by simp [ByteArray.size];omega)).mono ?_
      clear hS
      rintro e W2 ⟨⟨v,rfl⟩,hS⟩
      go_wp2_with fail
      have e2:((⟨#[111,117,116,32]⟩:ByteArray)++⟨(itoa coin).toArray⟩++⟨#[58]⟩++⟨(z3a lock).1.toArray⟩++⟨#[10]⟩).data.toList=z2j ⟨coin,lock⟩:=by simp [ByteArray.data_append,z2j]
      rw [e2] at hS
      clear e2
      go_roundw
      case measure=>simp [intOf];omega
      case rel=>exact ⟨k+1,by omega,by go_num,m++z2j ⟨coin,lock⟩,by simp [z2j];omega,Lib.hid (by rw [z1x HX.out,HM.out];simp),hS.sub (by repeat (first|with_reducible exact Sub.nil|refine Sub.take (by repeat (first|with_reducible exact Del.z|apply Del.s)) ?_))⟩
     ·obtain rfl:k=n2:=by omega
      go_wp2_with fail
      refine (hS.text (by repeat (with_reducible exact At.z))).mono ?_
      clear hS
      rintro e W3 ⟨rfl,hB⟩
      have hS:=hSo.belows hB
      go_wp2_with fail
      have em:m=z0d ⟨h,ins,outs⟩:=by rw [HM.out,HL2.out,zY0t (by have:=L2.out;omega)];rfl
      rw [em]
      refine bodyPost_ret (zfn rfl (by exact Got.tmp rfl) (by exact Got.tmp rfl)) rfl ?_
      exact ⟨by rw [HR.out];rfl,hS.sub (by repeat (first|with_reducible exact Sub.refl|apply Sub.skip))⟩
 ·have q:((zg t) != 0)=true:=by simp [h0]
  have HR:Hid (R=([],zg t)):=Lib.hid (by rw [HP.out,if_pos h0])
  clear h0 HP
  go_wp2_with fail
  refine bodyPost_ret (zfn rfl (by exact Got.tmp rfl) (by exact Got.tmp rfl)) rfl ?_
  exact ⟨by rw [HR.out];rfl,hS.sub (by repeat (first|with_reducible exact Sub.refl|apply Sub.skip))⟩
end
section
open Go.RowKit Go.Shelf
open Go.Lib (itoa)
set_option maxRecDepth 100000
noncomputable def z5w:zd:=spD (fun _:Tx=>True) fun t=>z0b t
theorem ztv (t:Tx):z5w (eTx t)=some [.s (z0b t).1,I (z0b t).2]:=zm (f:=fun t:Tx=>z0b t) t trivial
theorem z0c5 (t:Tx):I64 (z0b t).2:=by
 unfold z0b
 split
 ·exact (z0br t).i64
 ·show I64 0
  exact ⟨by decide,by decide⟩
theorem z0f9:Meets Tryz.prog z5w 71 ⟨[.agg 3],[(false,[.scal]),(false,[.scal])],true⟩ :=
 z52 rfl (z2t (fn:=Tryz.f71) (by kernel_rfl) (by kernel_rfl) (by kernel_rfl)) fun t _ W F us hF h=>by
  obtain ⟨cs,rfl,hr⟩:=zca h;have hS:Sep W F [rep t cs shTx] W:=(Sep.start W F hF.1).addRep (S:=shTx) (shTx.more (fun b hb=>⟨.inl hb,by simp⟩) (she_tx.of hr));refine (zsa t cs hS At.z hF.2).mono ?_;rintro e w' ⟨rfl,hS'⟩;exact ⟨_,rfl,hS'.below,zpv rfl rfl (.s _ (by have:=znb t;omega)) (.i _ _ (wrap_i64 (z0c5 t)))⟩
theorem Yl.base {P:Program} {w0:World} {F0:Nat→Prop} {Γ:List Res} {o:Oper} {a:Act} {t:TypeId} {x:Operand} {g j:Nat} {v:Value} (ho:o.op = .load t x) (hx:a.eval x = .pointer (some ⟨g,j,none⟩)) (h1:OneT P t) (hg:g<w0.heap.size) (hc:w0.cell? ⟨g,j,none⟩=some v):Yl P w0 F0 Γ o a v :=
 Yl.load ho hx fun W hS=>h1.load ((hS.below.cell (p:=⟨g,j,none⟩) hg).trans hc)
set_option maxHeartbeats 4000000 in
theorem z0c6 (t:Block) (cs:List Value) {w0 W:World} {F0:Nat→Prop} {Γ:List Res} (hS:Sep w0 F0 Γ W) (ht:At Γ (rep t cs shBlock)) (hG:Glob w0) :
  Calls Tryz.prog 70 #[.agg cs.toArray] W (RV w0 F0 Γ (.tuple #[.string ⟨(z0h t).1.toArray⟩,.int .i64 (z0h t).2])):=by
 (have hO:=hS.open_block ht;clear hS;obtain ⟨A,n,c,rfl,i1,i2,i3,i4,hS⟩:=hO)
 obtain ⟨hl1,hn1,hc1⟩:=hS.len (xs:=t.txs) (by repeat (with_reducible exact At.z))
 have HP:=Lib.hid (show z0h t=if zf t≠0 then ([],zf t) else (z18 t,0) from rfl)
 generalize z0h t=R at *
 have L1:=Lib.hid hl1
 clear hl1
 go_enter Tryz.func70,Tryz.ntmps70
 (go_wp2_with ((refine Sep.wbox hS (by rfl) rfl rfl ?_;clear hS;intro gt W hS;refine Stop.go ?_));refine Stop.mk ?_)
 go_wp2_with (((refine Sep.wloadNb hS (by rfl) rfl rfl (by repeat (with_reducible exact At.z)) (z2f rfl) ?_)))
 refine (hS.old (zpu t [_,_,_,_,_] _ _ (hS.ltsRep (At.s (At.s ht))) (fun b hb=>hb))).mono ?_;clear hS;rintro e W ⟨rfl,hS⟩
 rcases Classical.em (zf t=0) with h0|h0
 ·rw [h0]
  have HR:Hid (R=(z18 t,0)):=Lib.hid (by rw [HP.out,if_neg (fun h=>h h0)])
  have H0:=Lib.hid h0
  have hlen:n≤4:=by have:=(z1g h0).len;have:=L1.out;omega
  clear h0 HP
  have b0:=hS.boxCell (g:=gt) At.z 0 _ rfl
  have b1:=hS.boxCell (g:=gt) At.z 1 _ rfl
  have b2:=hS.boxCell (g:=gt) At.z 2 _ rfl
  have b3:=hS.boxCell (g:=gt) At.z 3 _ rfl
  have b4:=hS.boxCell (g:=gt) At.z 4 _ rfl
  have gl:gt<W.heap.size:=(zY17.1 (hS.getBox (g:=gt) At.z).2).1
  have hΔ:FactsW W (Lt W.heap.size) [rds t.txs A n c shTx]:=.rds (hS.ltsRds (by repeat (first|with_reducible exact At.z|apply At.s))) .nil
  have hG1:Glob W:=hG.on hS.below
  obtain ⟨bp,bh,bw,bn,txs⟩:=t
  simp only at *
  rename World=>Wb
  have hSo:=hS
  clear hS
  (go_wp2_with (first|(refine wsb (by rfl) rfl z_sb hΔ ?_;intro W1 hS;refine Stop.go ?_));refine Stop.mk ?_)
  have l1:=z5u bp i1
  have l2:=z5u bh i2
  have l3:=z5u bw i3
  have l4:=z5u bn i4
  go_wp2_with fail
  (refine Sep.regionT hS [20] (by kernel_rfl) ?_;clear hS;intro W hS)
  (refine z29 0 rfl rfl (by ((apply Yl.pure;intro W;go_simp;with_reducible rfl))) (hS.sub (by repeat (with_reducible exact Sub.refl))) (by kernel_rfl) (fun _ _ _ h=>h) ?_;simp only [Act.put,zY07,zY0k,zY0l])
  (refine z29 1 rfl rfl (Yl.base rfl rfl (z64 rfl) gl b0) (hS.sub (by repeat (with_reducible exact Sub.refl))) (by kernel_rfl) (fun _ _ _ h=>h) ?_;simp only [Act.put,zY07,zY0k,zY0l])
  (refine z29 5 rfl rfl (by ((apply Yl.pure;intro W;go_simp;with_reducible rfl))) (hS.sub (by repeat (with_reducible exact Sub.refl))) (by kernel_rfl) (fun _ _ _ h=>h) ?_;simp only [Act.put,zY07,zY0k,zY0l])
  (refine z29 6 rfl rfl (Yl.base rfl rfl (z64 rfl) gl b1) (hS.sub (by repeat (with_reducible exact Sub.refl))) (by kernel_rfl) (fun _ _ _ h=>h) ?_;simp only [Act.put,zY07,zY0k,zY0l])
  (refine z29 10 rfl rfl (by ((apply Yl.pure;intro W;go_simp;with_reducible rfl))) (hS.sub (by repeat (with_reducible exact Sub.refl))) (by kernel_rfl) (fun _ _ _ h=>h) ?_;simp only [Act.put,zY07,zY0k,zY0l])
  (refine z29 11 rfl rfl (Yl.base rfl rfl (z64 rfl) gl b2) (hS.sub (by repeat (with_reducible exact Sub.refl))) (by kernel_rfl) (fun _ _ _ h=>h) ?_;simp only [Act.put,zY07,zY0k,zY0l])
  (refine z29 15 rfl rfl (by ((apply Yl.pure;intro W;go_simp;with_reducible rfl))) (hS.sub (by repeat (with_reducible exact Sub.refl))) (by kernel_rfl) (fun _ _ _ h=>h) ?_;simp only [Act.put,zY07,zY0k,zY0l])
  (refine z29 16 rfl rfl (Yl.base rfl rfl (z64 rfl) gl b3) (hS.sub (by repeat (with_reducible exact Sub.refl))) (by kernel_rfl) (fun _ _ _ h=>h) ?_;simp only [Act.put,zY07,zY0k,zY0l])
  refine zhi 2 (by kernel_rfl) rfl ?_
  go_wp2_with fail
  refine (hS.old (zal bp i1 (hG1.on hS.below))).mono ?_;clear hS;rintro e W ⟨rfl,hS⟩
  go_wp2_with fail
  (refine ⟨fun _=>hS.sub (by repeat (with_reducible exact Sub.refl)),?_⟩;try simp only [Act.put,zY07,zY0k,zY0l])
  (refine z29 3 rfl rfl (Yl.cat rfl rfl rfl (by simp only [zY04,zY0c,zY0r];omega)) (hS.sub (by repeat (with_reducible exact Sub.refl))) (by kernel_rfl) (fun _ _ _ h=>h) ?_;simp only [Act.put,zY07,zY0k,zY0l])
  (refine z29 4 rfl rfl (Yl.cat rfl rfl rfl (by simp only [zY04,zY0c,zY0r];omega)) (hS.sub (by repeat (with_reducible exact Sub.refl))) (by kernel_rfl) (fun _ _ _ h=>h) ?_;simp only [Act.put,zY07,zY0k,zY0l])
  refine zhi 7 (by kernel_rfl) rfl ?_
  go_wp2_with fail
  refine (hS.old (zal bh i2 (hG1.on hS.below))).mono ?_;clear hS;rintro e W ⟨rfl,hS⟩
  go_wp2_with fail
  (refine ⟨fun _=>hS.sub (by repeat (with_reducible exact Sub.refl)),?_⟩;try simp only [Act.put,zY07,zY0k,zY0l])
  (refine z29 8 rfl rfl (Yl.cat rfl rfl rfl (by simp only [zY04,zY0c,zY0r];omega)) (hS.sub (by repeat (with_reducible exact Sub.refl))) (by kernel_rfl) (fun _ _ _ h=>h) ?_;simp only [Act.put,zY07,zY0k,zY0l])
  (refine z29 9 rfl rfl (Yl.cat rfl rfl rfl (by simp only [zY04,zY0c,zY0r];omega)) (hS.sub (by repeat (with_reducible exact Sub.refl))) (by kernel_rfl) (fun _ _ _ h=>h) ?_;simp only [Act.put,zY07,zY0k,zY0l])
  refine zhi 12 (by kernel_rfl) rfl ?_
  go_wp2_with fail
  refine (hS.old (zal bw i3 (hG1.on hS.below))).mono ?_;clear hS;rintro e W ⟨rfl,hS⟩
  go_wp2_with fail
  (refine ⟨fun _=>hS.sub (by repeat (with_reducible exact Sub.refl)),?_⟩;try simp only [Act.put,zY07,zY0k,zY0l])
  (refine z29 13 rfl rfl (Yl.cat rfl rfl rfl (by simp only [zY04,zY0c,zY0r];omega)) (hS.sub (by repeat (with_reducible exact Sub.refl))) (by kernel_rfl) (fun _ _ _ h=>h) ?_;simp only [Act.put,zY07,zY0k,zY0l])
  (refine z29 14 rfl rfl (Yl.cat rfl rfl rfl (by simp only [zY04,zY0c,zY0r];omega)) (hS.sub (by repeat (with_reducible exact Sub.refl))) (by kernel_rfl) (fun _ _ _ h=>h) ?_;simp only [Act.put,zY07,zY0k,zY0l])
  refine zhi 17 (by kernel_rfl) rfl ?_
  go_wp2_with fail
  refine (hS.old (zal bn i4 (hG1.on hS.below))).mono ?_;clear hS;rintro e W ⟨rfl,hS⟩
  go_wp2_with fail
  (refine ⟨fun _=>hS.sub (by repeat (with_reducible exact Sub.refl)),?_⟩;try simp only [Act.put,zY07,zY0k,zY0l])
  (refine z29 18 rfl rfl (Yl.cat rfl rfl rfl (by simp only [zY04,zY0c,zY0r];omega)) (hS.sub (by repeat (with_reducible exact Sub.refl))) (by kernel_rfl) (fun _ _ _ h=>h) ?_;simp only [Act.put,zY07,zY0k,zY0l])
  (refine z29 19 rfl rfl (Yl.cat rfl rfl rfl (by simp only [zY04,zY0c,zY0r];omega)) (hS.sub (by repeat (with_reducible exact Sub.refl))) (by kernel_rfl) (fun _ _ _ h=>h) ?_;simp only [Act.put,zY07,zY0k,zY0l])
  refine zhi 20 (by kernel_rfl) rfl ?_
  go_wp2_with fail
  refine (hS.write (l:=[]) (by repeat (with_reducible exact At.z)) hΔ _ (by simp [ByteArray.size];omega)).mono ?_
  clear hS
  rintro e W2 ⟨⟨v,rfl⟩,hS⟩
  go_wp2_with fail
  (refine ⟨fun h=>z0ae (by kernel_rfl) h,?_⟩;try simp only [Act.put,zY07,zY0k,zY0l])
  refine zjj (by kernel_rfl) ?_
  have e0:[]++98::108::111::99::107::32::(itoa bp++32::(itoa bh++32::(itoa bw++32::(itoa bn++[10]))))=z4k ⟨bp,bh,bw,bn,txs⟩:=by simp [z4k]
  have lh:(z4k ⟨bp,bh,bw,bn,txs⟩).length≤100:=by simp [z4k];omega
  have d4:=(hS.below.cell (p:=⟨gt,4,none⟩) gl).trans b4
  go_wp2_with fail
  clear d4
  rw [e0] at hS
  clear e0
  go_loopw [7,8,9,39] (fun _ _ _ i wr=>∃ k:Nat,k≤n∧i = .int .i64 k∧∃ l:List UInt8,l.length≤100+2500 * k∧Hid (l=z4k ⟨bp,bh,bw,bn,txs⟩++(txs.take k).flatMap fun t=>(z0b t).1)∧Sep Wb (Lt Wb.heap.size) (sb Wb.heap.size l::rds txs A n c shTx::[]) wr) (fun _ _ _ i _=>n - (intOf i).toNat)
  case atStart=>exact ⟨0,by omega,rfl,z4k ⟨bp,bh,bw,bn,txs⟩,by omega,Lib.hid (by simp),hS.sub (by repeat (with_reducible exact Sub.refl))⟩
  case round =>
   clear hS
   obtain ⟨k,hk,rfl,l,hl,HL,hS⟩:=hrel
   rcases Classical.em (k<n) with hlt|hlt
   ·(have hO:=hS.elemTxR (xs:=txs) (by repeat (first|with_reducible exact At.z|apply At.s)) hlt;clear hS;obtain ⟨b,off,x,A1,n1,c1,A2,n2,c2,rfl,hx,hS⟩:=hO)
    have HX:=Lib.hid hx
    have k1:(0:Int)≤(k:Int):=by omega
    have k2:(k:Int)<(n:Int):=by omega
    clear hx
    (go_wp2_with (first|(refine Sep.wloadNz hS (by rfl) rfl rfl (by repeat (first|with_reducible exact At.z|apply At.s)) (z2f rfl) ?_)|(refine Sep.walloc hS (by rfl) rfl (by first|exact zhj|exact z_tx) ?_;clear hS;intro g W hS)|(refine Sep.wstoreNb hS (by rfl) rfl rfl rfl (z2f rfl) (by simp [zar,Value.oneCell']) (by repeat (first|with_reducible exact At.z|apply At.s)) (by rfl) (by repeat (first|with_reducible exact Put.z|apply Put.s)) ?_;clear hS;intro W hS;refine Stop.go ?_));refine Stop.mk ?_)
    go_wp2_with (((refine Sep.wloadNb hS (by rfl) rfl rfl (by repeat (with_reducible exact At.z)) (z2f rfl) ?_)))
    refine (zsa x [_,_,_] hS (by repeat (first|with_reducible exact At.z|apply At.s)) hG1).mono ?_;clear hS;rintro e W ⟨rfl,hS⟩
    have lp:=znb x
    go_wp2_with fail
    refine (hS.write (l:=l) (by repeat (first|with_reducible exact At.z|apply At.s)) hΔ _ (by simp [ByteArray.size];omega)).mono ?_
    clear hS
    rintro e W2 ⟨⟨v,rfl⟩,hS⟩
    go_wp2_with fail
    go_roundw
    case measure=>simp [intOf];omega
    case rel=>exact ⟨k+1,by omega,by go_num,l++(z0b x).1,by simp;omega,Lib.hid (by rw [z1x HX.out,HL.out];simp),hS.sub (by repeat (with_reducible exact Sub.refl))⟩
   ·obtain rfl:k=n:=by omega
    go_wp2_with fail
    refine (hS.text (by repeat (with_reducible exact At.z))).mono ?_
    clear hS
    rintro e W3 ⟨rfl,hB⟩
    have hS:=hSo.belows hB
    go_wp2_with fail
    have em:l=z18 ⟨bp,bh,bw,bn,txs⟩:=by
     rw [HL.out,zY0t (by have:=L1.out;omega)]
     unfold z18
     congr 1
     have key:∀ t ∈ txs,(z0b t).1=z0d t:=fun t ht=>by rw [znc ((z1g H0.out).each t ht)]
     simp only [List.flatMap_def]
     rw [List.map_congr_left key]
    rw [em]
    refine bodyPost_ret (zfn rfl (by exact Got.tmp rfl) (by exact Got.tmp rfl)) rfl ?_
    exact ⟨by rw [HR.out];rfl,hS.sub (by repeat (first|with_reducible exact Sub.refl|apply Sub.skip))⟩
 ·have q:((zf t) != 0)=true:=by simp [h0]
  have HR:Hid (R=([],zf t)):=Lib.hid (by rw [HP.out,if_pos h0])
  clear h0 HP
  go_wp2_with fail
  refine bodyPost_ret (zfn rfl (by exact Got.tmp rfl) (by exact Got.tmp rfl)) rfl ?_
  exact ⟨by rw [HR.out];rfl,hS.sub (by repeat (first|with_reducible exact Sub.refl|apply Sub.skip))⟩
noncomputable def z3m:zd:=spD (fun _:Block=>True) fun t=>z0h t
theorem zq3 (t:Block):z3m (z7w t)=some [.s (z0h t).1,I (z0h t).2]:=zm (f:=fun t:Block=>z0h t) t trivial
theorem z07u (t:Block):I64 (z0h t).2:=by
 unfold z0h
 split
 ·exact (z0et t).i64
 ·show I64 0
  exact ⟨by decide,by decide⟩
theorem znn:Meets Tryz.prog z3m 70 ⟨[.agg 5],[(false,[.scal]),(false,[.scal])],true⟩ :=
 z52 rfl (z2t (fn:=Tryz.f70) (by kernel_rfl) (by kernel_rfl) (by kernel_rfl)) fun t _ W F us hF h=>by
  obtain ⟨cs,rfl,hr⟩:=zca h;have hS:Sep W F [rep t cs shBlock] W:=(Sep.start W F hF.1).addRep (S:=shBlock) (shBlock.more (fun b hb=>⟨.inl hb,by simp⟩) (she_block.of hr));refine (z0c6 t cs hS At.z hF.2).mono ?_;rintro e w' ⟨rfl,hS'⟩;exact ⟨_,rfl,hS'.below,zpv rfl rfl (.s _ (by have:=z075 t;omega)) (.i _ _ (wrap_i64 (z07u t)))⟩
end
section
open Go.RowKit
open Go.Lib (itoa atoiAll atoiSat)
set_option maxRecDepth 100000
set_option maxHeartbeats 4000000
section
variable {sp:Nat→zd} {N:Nat} {E E':Env} {ks:List (List Dt→Option (List Dt))} {res:Option (List Dt)}
end
def z01j (acc:List Op) (ws:List (List UInt8)):List Op × Int:=match zpm ws with
 | none=>([],1)
 | some l=>if za (acc++l)≠0 then ([],za (acc++l)) else (acc++l,0)
attribute [local irreducible] den denX z0i z0q
attribute [local irreducible] z00 spD z1h itoa za z20 z3y z3s z01j zcf z6h zyf zh8 zh9
end
section
open Go.RowKit
noncomputable def z5q:zd:=spD (fun _:List Int × List Int=>True) fun x=>decide (x.1=x.2)
theorem zhl (a b:List Int):z5q [.l 1 (a.map z0r),.l 1 (b.map z0r)]=some [.b (decide (a=b))]:=zm (f:=fun x:List Int × List Int=>decide (x.1=x.2)) (a,b) trivial
theorem z01k:Meets Tryz.prog z5q 29 ⟨[.one,.one],[(false,[.scal])],true⟩ :=
 z0bs rfl (z2t (fn:=Tryz.f29) (by kernel_rfl) (by kernel_rfl) (by kernel_rfl)) fun ⟨a,b⟩ _ W F us hF h=>by
  obtain ⟨v,us,rfl,h1,h⟩:=z1q h;obtain ⟨v2,us,rfl,h2,h⟩:=z1q h;obtain rfl:=z30 h;obtain ⟨A,n,c,rfl,k1⟩:=z3w z3g h1;obtain ⟨A2,n2,c2,rfl,k2⟩:=z3w z3g h2;refine (z0el a b A A2 n c n2 c2 W F F k1 k2).mono ?_;rintro r W' ⟨rfl,m,rfl⟩;exact ⟨rfl,zdr (Below.refl _ _) m⟩
end
section
open Go.RowKit
open Go.Lib (itoa)
set_option maxRecDepth 100000
set_option maxHeartbeats 4000000
end
section
open Go.Lib (itoa)
open Go.RowKit
def tBlk:List UInt8:=[98,108,111,99,107]
def z0pf:List UInt8:=[10,116,120,32]
def z01l (s:List UInt8):Int:=Go.Lib.index (s.drop 1) z0pf
def z0c7 (s:List UInt8):List UInt8:=if 0≤z01l s then s.take (z01l s+2).toNat else s
def z0fa:Nat→List UInt8→List (List UInt8)
 | 0,_=>[]
 | f+1,s=>if s=[] then [] else z0c7 s::z0fa f (s.drop (z0c7 s).length)
structure PlainL (l:List UInt8):Prop where
 ne:∀ b ∈ l,b≠10
 no:∀ s,List.isPrefixOf tTx (l++s)=false
end
section
open Go.Lib (itoa)
open Go.RowKit
set_option maxRecDepth 100000
def z01m:List UInt8→List (List UInt8)
 | []=>[[]]
 | b::l=>if b=10 then [10]::z01m l else match z01m l with
  | []=>[[b]]
  | x::xs=>(b::x)::xs
end
end Go.Proofs.YtaddehddalnliaaGreatDoor
