/- Own texts, put together by wip/bundle.py: RefOps, Point, RefTx. -/
import Derived.BigQuiet
import Derived.Outline
import Derived.Deep.Light
import Derived.Deep.DeepCutAuto
import Derived.Test.YtjknfjbpmdfphaaGreatUAOwnB
set_option linter.unusedVariables false
set_option linter.unusedSimpArgs false
namespace Go.Proofs.YtjknfjbpmdfphaaGreat
section
open Go.RowKit
set_option maxRecDepth 100000
theorem zbk (xs:List Op) (A:Option Addr) (n c:Nat) (w:World) (F:Nat→Prop) (h:Rds shOp w F xs A n c) (hF:∀ b,F b→b<w.heap.size) :
  Calls Tryz.prog 22 #[.slice A n c] w fun e w'=>e = .returned (.int .i64 (zd xs))∧Below w.heap.size w w':=by
 have hn:=h.2.1;have hc:=h.2.2.1;have hl:=h.1
 by_cases h16:16<n
 ·have e:zd xs=2:=by simp only [zd];rw [if_pos (by omega)]
  rw [e];clear e hl;go_enter Tryz.func22,Tryz.ntmps22;go_wp2;go_ret;exact ⟨rfl,Below.refl _ _⟩
 ·have e:zd xs=z3w xs:=by simp only [zd];rw [if_neg (by omega)]
  rw [e];have HR:=Lib.hid h;have HLN:=Lib.hid hl;clear e hl h;go_enter Tryz.func22,Tryz.ntmps22;go_wp2;go_loopw [4,10] (fun _ i wr=>∃ k:Nat,k≤n∧i = .int .i64 k∧Below w.heap.size w wr∧z3w (xs.drop k)=z3w xs) (fun _ i _=>n - (intOf i).toNat)
  case atStart=>exact ⟨0,by omega,rfl,Below.refl _ _,rfl⟩
  case round =>
   obtain ⟨k,hk,rfl,hb,hs⟩:=hrel
   by_cases hlt:k<n
   ·obtain ⟨b,off,x,rfl,hFb,hx,⟨hc1,hc2⟩,-,-⟩:=HR.out.op hlt
    rw [z2u hx,z3w] at hs;rw [← hb.cell (p:=⟨b,off+k * 2,none⟩) (hF b hFb)] at hc1;rw [← hb.cell (p:=⟨b,off+k * 2+1,none⟩) (hF b hFb)] at hc2;have HB:=Lib.hid (hb.alloc hb.size (.cells #[.int .i64 x.kind,.int .i64 x.n] 54));clear hx hb;have i1:(0:Int)≤(k:Int):=by omega
    have i2:(k:Int)<(n:Int):=by omega
    obtain ⟨xk,xn⟩:=x;simp only at hc1 hc2 HB;rcases Classical.em (xk<1∨13<xk) with hk1|hk1
    ·have e:z3v ⟨xk,xn⟩=4:=by simp only [z3v];rw [if_pos hk1]
     rw [e,if_pos (by decide)] at hs;have HS:=Lib.hid hs;clear hs e;rcases Classical.em (xk<1) with hk2|hk2
     ·clear hk1
      go_wp2;go_ret;exact ⟨z0h HS.out,HB.out⟩
     ·have hk3:13<xk:=by omega
      clear hk1;go_wp2;go_ret;exact ⟨z0h HS.out,HB.out⟩
    ·have g1:¬ xk<1:=by omega
     have g2:¬ 13<xk:=by omega
     have e0:z3v ⟨xk,xn⟩=if (xk≠1∧xn≠0)∨xn < -1000000∨1000000<xn then 3 else 0:=by simp only [z3v];rw [if_neg hk1]
     rw [e0] at hs;clear hk1 e0;rcases Classical.em ((xk≠1∧xn≠0)∨xn < -1000000∨1000000<xn) with h3|h3
     ·rw [if_pos h3,if_pos (by decide)] at hs
      have HS:=Lib.hid hs;clear hs;rcases Classical.em (xn < -1000000) with h6|h6
      ·clear h3
       go_wp2;go_ret;exact ⟨z0h HS.out,HB.out⟩
      ·rcases Classical.em (1000000<xn) with h7|h7
       ·clear h3
        go_wp2;go_ret;exact ⟨z0h HS.out,HB.out⟩
       ·have h4:xk≠1∧xn≠0:=by omega
        have k1:(xk != 1)=true:=by simpa using h4.1
        have k2:(xn != 0)=true:=by simpa using h4.2
        clear h3 h4;go_wp2;go_ret;exact ⟨z0h HS.out,HB.out⟩
     ·rw [if_neg h3,if_neg (by decide)] at hs
      have HS:=Lib.hid hs;clear hs;have h6:¬ xn < -1000000:=by omega
      have h7:¬ 1000000<xn:=by omega
      by_cases h5:xk=1
      ·subst h5
       clear h3;go_wp2;go_roundw
       case measure=>simp [intOf];omega
       case rel=>exact ⟨k+1,by omega,by go_num,HB.out,HS.out⟩
      ·obtain rfl:xn=0:=by omega
       have k1:(xk != 1)=true:=by simpa using h5
       clear h3 h5;go_wp2;go_roundw
       case measure=>simp [intOf];omega
       case rel=>exact ⟨k+1,by omega,by go_num,HB.out,HS.out⟩
   ·obtain rfl:k=n:=by omega
    rw [zY26 (by rw [HLN.out];omega),z3w] at hs;have HS:=Lib.hid hs;clear hs;go_wp2;go_ret;exact ⟨z0h HS.out,hb⟩
end
section
open Go.RowKit
set_option maxRecDepth 100000
theorem Sep.elemP {w0 W:World} {F0:Nat→Prop} {Γ:List Res} (h:Sep w0 F0 Γ W) {xs:List Point} {A:Option Addr} {n c i:Nat} (hm:At Γ (rds xs A n c shPoint)) (hi:i<n) :
  ∃ b off z,A=some ⟨b,off,none⟩∧xs[i]? = some z∧W.cell? ⟨b,off+i * 2,none⟩=some (.int .i64 z.tx)∧W.cell? ⟨b,off+i * 2+1,none⟩=some (.int .i64 z.at_):=by
 obtain ⟨b,off,z,cs,e,hz,hS⟩:=h.elem hm hi;obtain ⟨rfl,h1,h2⟩:=hS.open_point (At.s At.z);rw [show shPoint.size=2 from rfl] at hS;have hr:=hS.cellsAt At.z;exact ⟨b,off,z,e,hz,by simpa using hr 0 _ rfl,by simpa using hr 1 _ rfl⟩
theorem Sep.boxCell {w0 W:World} {F0:Nat→Prop} {Γ:List Res} (h:Sep w0 F0 Γ W) {g t:Nat} {cs:List Value} (hm:At Γ (box g cs t)) (i:Nat) (v:Value) (hv:cs[i]? = some v):W.cell? ⟨g,i,none⟩=some v:=by
 have:=h.boxAt hm i v hv;rwa [zY0v] at this
set_option maxHeartbeats 1000000 in
theorem zxx (xs:List Point) (y:Point) (A:Option Addr) (n c:Nat) {w0 W:World} {F0:Nat→Prop} {Γ:List Res} (hS:Sep w0 F0 Γ W) (hm:At Γ (rds xs A n c shPoint)) :
  Calls Tryz.prog 51 #[.slice A n c,.agg #[.int .i64 y.tx,.int .i64 y.at_]] W (RV w0 F0 Γ (.int .i64 (idx xs y))):=by
 obtain ⟨hl,hn,hc⟩:=hS.len hm
 obtain ⟨R,hR⟩:∃ R,R=idx xs y:=⟨_,rfl⟩
 rw [← hR]
 have HR:=Lib.hid hR
 have L:=Lib.hid hl
 clear hR hl
 go_enter Tryz.func51,Tryz.ntmps51
 (go_wp2_with ((refine Sep.wbox hS (by rfl) rfl rfl ?_;clear hS;intro gy W hS;refine Stop.go ?_));refine Stop.mk ?_)
 go_wp2_with ((first|(refine Sep.wload1b hS (by rfl) rfl rfl (zas rfl) (by repeat (with_reducible exact At.z)) rfl ?_)|(refine Sep.wloadNb hS (by rfl) rfl rfl (by repeat (with_reducible exact At.z)) (z4r rfl) ?_)|(refine Sep.wload1z hS (by rfl) rfl rfl (zas rfl) (by repeat (apply At.s)) rfl ?_)|(refine Sep.wload1c hS (by rfl) rfl rfl (zas rfl) (by repeat (apply At.s)) rfl ?_)|(refine Sep.wloadNz hS (by rfl) rfl rfl (by repeat (apply At.s)) (z4r rfl) ?_)|(refine Sep.walloc hS (by rfl) rfl (by exact z_op) ?_;clear hS;intro g W hS)|(refine Sep.wbox hS (by rfl) rfl rfl ?_;clear hS;intro g W hS)|(refine Sep.wstoreNb hS (by rfl) rfl rfl rfl (z4r rfl) (by simp [zcm,Value.oneCell']) (by repeat (with_reducible exact At.z)) (by rfl) (by repeat (with_reducible exact Put.z)) ?_;clear hS;intro W hS)))
 go_loopw [5,8] (fun _ i wr=>∃ k:Nat,k≤n∧i = .int .i64 k∧Hid (z24 y (xs.drop k) k=R)∧Sep w0 F0 (box gy [.int .i64 y.tx,.int .i64 y.at_] 49::Γ) wr) (fun _ i _=>n - (intOf i).toNat)
 case atStart=>exact ⟨0,by omega,rfl,Lib.hid (by rw [HR.out];rfl),hS.sub (by repeat (with_reducible exact Sub.refl))⟩
 case round =>
  clear hS
  obtain ⟨k,hk,rfl,hs,hS⟩:=hrel
  rcases Classical.em (k<n) with hlt|hlt
  ·obtain ⟨b,off,z,rfl,hz,hc0,hc1⟩:=hS.elemP (At.s hm) hlt
   have hb0:=hS.boxCell (g:=gy) At.z 0 _ rfl
   have hb1:=hS.boxCell (g:=gy) At.z 1 _ rfl
   have hs1:Hid ((if y=z then (k:Int) else z24 y (xs.drop (k+1)) (k+1))=R):=Lib.hid (by have:=hs.out;rw [z2u hz,z24] at this;exact this)
   have i1:(0:Int)≤(k:Int):=by omega
   have i2:(k:Int)<(n:Int):=by omega
   clear hs hz
   obtain ⟨ztx,zat⟩:=z
   obtain ⟨ytx,yat⟩:=y
   simp only at hc0 hc1 hb0 hb1
   rcases Classical.em (ytx=ztx∧yat=zat) with he|he
   ·obtain ⟨rfl,rfl⟩:=he
    have hs2:Hid ((k:Int)=R):=Lib.hid (by have:=hs1.out;rwa [if_pos rfl] at this)
    clear hs1
    go_wp2_with fail
    go_quiet (fail)
    go_wp2_with fail
    go_ret
    exact ⟨z0h hs2.out,(hS.drewN _).sub (by repeat (first|with_reducible exact Sub.refl|apply Sub.skip))⟩
   ·have hs2:Hid (z24 (⟨ytx,yat⟩:Point) (xs.drop (k+1)) (k+1)=R):=Lib.hid (by have:=hs1.out;rwa [if_neg (fun e=>he (by simpa using e))] at this)
    clear hs1
    rcases Classical.em (ytx=ztx) with h1|h1
    ·subst h1
     have h2:(yat == zat)=false:=by simpa using he
     clear he
     go_wp2_with fail;go_quiet (fail);go_wp2_with fail
     have hS:=hS.drewN nq
     go_roundw
     case measure=>simp [intOf];omega
     case rel=>exact ⟨k+1,by omega,by go_num,hs2,hS.sub (by repeat (with_reducible exact Sub.refl))⟩
    ·have h2:(ytx == ztx)=false:=by simpa using h1
     clear he h1
     go_wp2_with fail;go_quiet (fail);go_wp2_with fail
     have hS:=hS.drewN nq
     go_roundw
     case measure=>simp [intOf];omega
     case rel=>exact ⟨k+1,by omega,by go_num,hs2,hS.sub (by repeat (with_reducible exact Sub.refl))⟩
  ·obtain rfl:k=n:=by omega
   have hs2:Hid ((-1:Int)=R):=Lib.hid (by have:=hs.out;rw [← L.out,zY3d] at this;exact this)
   clear hs
   go_wp2_with fail
   go_ret
   exact ⟨z0h hs2.out,hS.sub (by repeat (first|with_reducible exact Sub.refl|apply Sub.skip))⟩
set_option maxHeartbeats 1000000 in
theorem zi1 (xs:List Point) (y:Point) (A:Option Addr) (n c:Nat) {w0 W:World} {F0:Nat→Prop} {Γ:List Res} (hS:Sep w0 F0 Γ W) (hm:At Γ (rds xs A n c shPoint)) :
  Calls Tryz.prog 27 #[.slice A n c,.agg #[.int .i64 y.tx,.int .i64 y.at_]] W (RV w0 F0 Γ (.bool (za3 xs y))):=by
 go_enter Tryz.func27,Tryz.ntmps27
 (go_wp2_with ((refine Sep.wbox hS (by rfl) rfl rfl ?_;clear hS;intro gy W hS;refine Stop.go ?_));refine Stop.mk ?_)
 go_wp2_with (((refine Sep.wloadNb hS (by rfl) rfl rfl (by repeat (with_reducible exact At.z)) (z4r rfl) ?_)))
 refine (zxx xs y A n c hS (At.s hm)).mono ?_
 clear hS;rintro e W ⟨rfl,hS⟩
 have E:Hid (decide (0≤idx xs y)=za3 xs y):=Lib.hid (by unfold za3;rw [decide_eq_decide];exact z074 xs y)
 go_wp2_with ((first|(refine Sep.wload1b hS (by rfl) rfl rfl (zas rfl) (by repeat (with_reducible exact At.z)) rfl ?_)|(refine Sep.wloadNb hS (by rfl) rfl rfl (by repeat (with_reducible exact At.z)) (z4r rfl) ?_)|(refine Sep.wload1z hS (by rfl) rfl rfl (zas rfl) (by repeat (apply At.s)) rfl ?_)|(refine Sep.wload1c hS (by rfl) rfl rfl (zas rfl) (by repeat (apply At.s)) rfl ?_)|(refine Sep.wloadNz hS (by rfl) rfl rfl (by repeat (apply At.s)) (z4r rfl) ?_)|(refine Sep.walloc hS (by rfl) rfl (by exact z_op) ?_;clear hS;intro g W hS)|(refine Sep.wbox hS (by rfl) rfl rfl ?_;clear hS;intro g W hS)|(refine Sep.wstoreNb hS (by rfl) rfl rfl rfl (z4r rfl) (by simp [zcm,Value.oneCell']) (by repeat (with_reducible exact At.z)) (by rfl) (by repeat (with_reducible exact Put.z)) ?_;clear hS;intro W hS)))
 go_ret
 exact ⟨z3h E.out,hS.sub (by repeat (first|with_reducible exact Sub.refl|apply Sub.skip))⟩
end
section
open Go.RowKit
set_option maxRecDepth 100000
theorem zj9 {x:In} {l seen:List In} {r:Int} (h:z0x (x::l) seen=r) {m:Int} (hb:z2r x=m) (hm:m≠0):m=r:=by rw [← h,z0x,hb,if_pos hm]
theorem zxy {x:In} {l seen:List In} {r:Int} (h:z0x (x::l) seen=r) (hb:z2r x=0) (h2:0≤z38 seen x.p 0):6=r:=by rw [← h,z0x,hb,if_neg (by simp),if_pos h2]
theorem z012 {x:In} {l seen:List In} {r:Int} (h:z0x (x::l) seen=r) (hb:z2r x=0) (h2:¬ 0≤z38 seen x.p 0):z0x l (seen++[x])=r:=by rw [← h,z0x,hb,if_neg (by simp),if_neg h2]
theorem zja (seen:List In) (p:Point) (k:Nat):0≤z38 seen p k↔p ∈ seen.map In.p:=by
 induction seen generalizing k with
 | nil=>simp [z38]
 | cons y l ih =>
  rw [z38]
  by_cases h:y.p=p
  ·rw [if_pos h];simp [h]
  ·rw [if_neg h,ih];simp;intro e;exact absurd e.symm h
theorem zgz {x:Out} {l:List Out} {r:Int} (h:z0u (x::l)=r) {m:Int} (hb:z31 x=m) (hm:m≠0):m=r:=by rw [← h,z0u,hb,if_pos hm]
theorem zxz {x:Out} {l:List Out} {r:Int} (h:z0u (x::l)=r) (hb:z31 x=0):z0u l=r:=by rw [← h,z0u,hb,if_neg (by simp)]
theorem Sep.rowRds {w0 W:World} {F0:Nat→Prop} {Γ:List Res} (h:Sep w0 F0 Γ W) {α:Type} {S:Sh α} {e:Nat} {v:Value} {xs:List α} (hm:At Γ (row e v xs S)):∃ A c,v = .slice A xs.length c∧Rds S W (Lt W.heap.size) xs A xs.length c:=by
 obtain ⟨zs,hz1,hz2,hz3⟩:=h.getRow hm;have hn:zs.length=xs.length:=by rw [← hz1];simp
 obtain ⟨A,c,hv,hr⟩:=Rds.of_own hz2 hn (F:=Lt W.heap.size) (fun z hz=>S.more (fun b hb=>Free.lt h hb) (hz3 z hz)) (fun g _ hg=>hg);rw [hz1] at hr;exact ⟨A,c,hv,hr⟩
theorem Sep.rowRd {w0 W:World} {F0:Nat→Prop} {Γ:List Res} (h:Sep w0 F0 Γ W) {α:Type} {S:Sh α} {e n c:Nat} {A:Option Addr} {xs:List α} (hm:At Γ (row e (.slice A n c) xs S)):Rds S W (Lt W.heap.size) xs A n c:=by
 obtain ⟨A',c',hv,hr⟩:=h.rowRds hm;simp only [Value.slice.injEq] at hv;obtain ⟨rfl,rfl,rfl⟩:=hv;exact hr
theorem zdl (xs:List Point) (y:Point) (A:Option Addr) (n c:Nat) (W:World) (F:Nat→Prop) (h:Rds shPoint W F xs A n c) (hF:∀ b,F b→b<W.heap.size) :
  Calls Tryz.prog 27 #[.slice A n c,.agg #[.int .i64 y.tx,.int .i64 y.at_]] W fun e W'=>e = .returned (.bool (za3 xs y))∧Below W.heap.size W W':=by
 have hS:Sep W F [rds xs A n c shPoint] W:=(Sep.start W F hF).addRds (h.more fun b hb=>⟨.inl hb,by simp⟩);exact (zi1 xs y A n c hS At.z).mono fun e W' h=>⟨h.1,h.2.below⟩
theorem Sep.elemIn {w0 W:World} {F0:Nat→Prop} {Γ:List Res} (h:Sep w0 F0 Γ W) {xs:List In} {A:Option Addr} {n c i:Nat} (hm:At Γ (rds xs A n c shIn)) (hi:i<n) :
  ∃ b off z A1 n1 c1,A=some ⟨b,off,none⟩∧xs[i]? = some z∧I64 z.p.tx∧I64 z.p.at_∧Sep w0 F0 (cells b (off+i * 3) [.int .i64 z.p.tx,.int .i64 z.p.at_,.slice A1 n1 c1]::rds z.key A1 n1 c1 shOp::Γ) W:=by
 obtain ⟨b,off,z,cs,e,hz,hS⟩:=h.elem hm hi;obtain ⟨A1,n1,c1,rfl,h1,h2,hS⟩:=hS.open_in (At.s At.z);rw [show shIn.size=3 from rfl] at hS;exact ⟨b,off,z,A1,n1,c1,e,hz,h1,h2,hS.sub (Sub.take (Del.s Del.z) (Sub.take Del.z (Sub.skip Sub.refl)))⟩
theorem Sep.elemOut {w0 W:World} {F0:Nat→Prop} {Γ:List Res} (h:Sep w0 F0 Γ W) {xs:List Out} {A:Option Addr} {n c i:Nat} (hm:At Γ (rds xs A n c shOut)) (hi:i<n) :
  ∃ b off z A1 n1 c1,A=some ⟨b,off,none⟩∧xs[i]? = some z∧I64 z.coin∧Sep w0 F0 (cells b (off+i * 2) [.int .i64 z.coin,.slice A1 n1 c1]::rds z.lock A1 n1 c1 shOp::Γ) W:=by
 obtain ⟨b,off,z,cs,e,hz,hS⟩:=h.elem hm hi;obtain ⟨A1,n1,c1,rfl,h1,hS⟩:=hS.open_out (At.s At.z);rw [show shOut.size=2 from rfl] at hS;exact ⟨b,off,z,A1,n1,c1,e,hz,h1,hS.sub (Sub.take (Del.s Del.z) (Sub.take Del.z (Sub.skip Sub.refl)))⟩
set_option maxHeartbeats 4000000 in
theorem z089 (t:Tx) (cs:List Value) {w0 W:World} {F0:Nat→Prop} {Γ:List Res} (hS:Sep w0 F0 Γ W) (ht:At Γ (rep t cs shTx)) :
  Calls Tryz.prog 9 #[.agg cs.toArray] W (RV w0 F0 Γ (.int .i64 (zr t))):=by
 obtain ⟨R,hR⟩:∃ R,R=zr t:=⟨_,rfl⟩
 rw [← hR]
 (have hO:=hS.open_tx ht;clear hS;obtain ⟨A,n,c,A2,n2,c2,rfl,i1,hS⟩:=hO)
 obtain ⟨th,ins,outs⟩:=t
 simp only at hS i1
 obtain ⟨hl1,hn1,hc1⟩:=hS.len (xs:=ins) (by repeat (with_reducible exact At.z))
 obtain ⟨hl2,hn2,hc2⟩:=hS.len (xs:=outs) (by repeat (first|with_reducible exact At.z|apply At.s))
 have HR:=Lib.hid hR
 have L1:=Lib.hid hl1
 have L2:=Lib.hid hl2
 clear hR hl1 hl2
 go_enter Tryz.func9,Tryz.ntmps9
 (go_wp2_with ((refine Sep.wbox hS (by rfl) rfl rfl ?_;clear hS;intro gt W hS;refine Stop.go ?_));refine Stop.mk ?_)
 have b0:=hS.boxCell (g:=gt) At.z 0 _ rfl
 have b1:=hS.boxCell (g:=gt) At.z 1 _ rfl
 have b2:=hS.boxCell (g:=gt) At.z 2 _ rfl
 have B1:Hid (6<n∨6<n2→2=R):=Lib.hid (fun h=>by have:=L1.out;have:=L2.out;rw [HR.out,zr,z1v,if_pos (show 6<ins.length∨6<outs.length by omega),if_pos (by decide)])
 have B2:Hid (¬ (6<n∨6<n2)→n2=0→4=R):=Lib.hid (fun h h2=>by have:=L1.out;have:=L2.out;rw [HR.out,zr,z1v,if_neg (show ¬ (6<ins.length∨6<outs.length) by omega),if_pos (show outs.length=0 by omega),if_pos (by decide)])
 have B3:Hid (¬ (6<n∨6<n2)→¬ n2=0→(n=0∧(th<1∨1000<th))∨(0<n∧th≠0)→3=R):=Lib.hid (fun h h2 h3=>by have:=L1.out;have:=L2.out;rw [HR.out,zr,z1v,if_neg (show ¬ (6<ins.length∨6<outs.length) by omega),if_neg (show ¬ outs.length=0 by omega),if_pos (show (ins.length=0∧(th<1∨1000<th))∨(0<ins.length∧th≠0) by omega),if_pos (by decide)])
 have B4:Hid (¬ (6<n∨6<n2)→¬ n2=0→¬ ((n=0∧(th<1∨1000<th))∨(0<n∧th≠0))→R=if z0x ins []≠0 then z0x ins [] else if z0u outs≠0 then z0u outs else (z2l (outs.map Out.coin)).2):=Lib.hid (fun h h2 h3=>by have:=L1.out;have:=L2.out;rw [HR.out,zr,z1v,if_neg (show ¬ (6<ins.length∨6<outs.length) by omega),if_neg (show ¬ outs.length=0 by omega),if_neg (show ¬ ((ins.length=0∧(th<1∨1000<th))∨(0<ins.length∧th≠0)) by omega),if_neg (by decide)])
 clear HR
 rcases Classical.em ((6:Int)<(n:Int)) with g61|g61
 ·go_wp2_with fail;go_ret;go_light;refine ⟨z0h ?_,hS.sub (by repeat (first|with_reducible exact Sub.refl|apply Sub.skip))⟩
  exact B1.out (.inl (by omega))
 rcases Classical.em ((6:Int)<(n2:Int)) with g62|g62
 ·go_wp2_with fail;go_ret;go_light;refine ⟨z0h ?_,hS.sub (by repeat (first|with_reducible exact Sub.refl|apply Sub.skip))⟩
  exact B1.out (.inr (by omega))
 rcases Classical.em (n2=0) with c3|c3
 ·have q:((n2:Int) == 0)=true:=by simp [c3]
  have C3:=Lib.hid c3
  clear c3
  go_wp2_with fail;go_ret;go_light;refine ⟨z0h ?_,hS.sub (by repeat (first|with_reducible exact Sub.refl|apply Sub.skip))⟩
  exact B2.out (by omega) C3.out
 have q3:((n2:Int) == 0)=false:=by simp;omega
 have C3:=Lib.hid c3
 clear c3
 go_upto_region 5 with fail
 go_cut [51] from 27 to 51 (fun c wx=>c = .bool (decide ((0<n∧th≠0)∨(n=0∧(th<1∨1000<th))))∧wx=W)
 case first =>
  rcases Classical.em (n=0) with h0|h0
  ·have q4:((n:Int) == 0)=true:=by simp [h0]
   have q5:¬ (0:Int)<(n:Int):=by omega
   have q5n:¬ 0<n:=by omega
   have H0:=Lib.hid h0
   clear h0
   rcases Classical.em (th<1) with h1|h1
   ·go_wp2_with fail;go_meet;go_light;(refine ⟨?_,rfl⟩);(congr 1;symm;have:=H0.out;simp;omega)
   rcases Classical.em (1000<th) with h2|h2
   ·go_wp2_with fail;go_meet;go_light;(refine ⟨?_,rfl⟩);(congr 1;symm;have:=H0.out;simp;omega)
   ·go_wp2_with fail;go_meet;go_light;(refine ⟨?_,rfl⟩);(congr 1;symm;have:=H0.out;simp;omega)
  ·have q4:((n:Int) == 0)=false:=by simp;omega
   have q5:(0:Int)<(n:Int):=by omega
   have q5n:0<n:=by omega
   rcases Classical.em (th=0) with h1|h1
   ·have q6:(th != 0)=false:=by simp [h1]
    have H0:=Lib.hid (And.intro h0 h1)
    clear h0 h1
    go_wp2_with fail;go_meet;go_light;(refine ⟨?_,rfl⟩);(congr 1;symm;have:=H0.out;simp;omega)
   ·have q6:(th != 0)=true:=by simp [h1]
    have H0:=Lib.hid (And.intro h0 h1)
    clear h0 h1
    go_wp2_with fail;go_meet;go_light;(refine ⟨?_,rfl⟩);(congr 1;symm;have:=H0.out;simp;omega)
 case rest =>
  obtain ⟨rfl,rfl⟩:=hcut
  rcases Classical.em ((0<n∧th≠0)∨(n=0∧(th<1∨1000<th))) with g3|g3
  ·rw [decide_eq_true g3]
   have G3:=Lib.hid g3
   clear g3
   go_wp2_with fail
   go_ret
   refine ⟨z0h ?_,hS.sub (by repeat (first|with_reducible exact Sub.refl|apply Sub.skip))⟩
   exact B3.out (by omega) C3.out (by have:=G3.out;omega)
  rw [decide_eq_false g3]
  have HR:=Lib.hid (B4.out (by omega) C3.out (by omega))
  have R1:=Lib.hid (show ∀ v,v=z0x ins []→v≠0→v=R from fun v hv h=>by rw [HR.out,← hv,if_pos h])
  have R2:=Lib.hid (show z0x ins []=0→∀ v,v=z0u outs→v≠0→v=R from fun h0 v hv h=>by rw [HR.out,h0,← hv,if_neg (by decide),if_pos h])
  have R3:=Lib.hid (show z0x ins []=0→z0u outs=0→(z2l (outs.map Out.coin)).2=R from fun h0 h1=>by rw [HR.out,h0,h1,if_neg (by decide),if_neg (by decide)])
  clear HR B1 B2 B3 B4 g3
  go_wp2_with fail
  clear b0 b1 b2
  (have hO:=hS.nilRow shPoint 49;clear hS;have hS:=hO;clear hO)
  go_loopw [3,5,6,55] (fun s _ _ i wr=>∃ k:Nat,k≤n∧i = .int .i64 k∧Hid (z0x (ins.drop k) (ins.take k)=z0x ins [])∧Sep w0 F0 (row 49 s ((ins.take k).map In.p) shPoint::box gt [.int .i64 th,.slice A n c,.slice A2 n2 c2] 26::rds ins A n c shIn::rds outs A2 n2 c2 shOut::Γ) wr) (fun _ _ _ i _=>n - (intOf i).toNat)
  case atStart=>exact ⟨0,by omega,rfl,Lib.hid (by simp),by rw [List.take_zero,zY2z];exact hS.sub (by repeat (with_reducible exact Sub.refl))⟩
  case round =>
   clear hS
   obtain ⟨k,hk,rfl,hs,hS⟩:=hrel
   rcases Classical.em (k<n) with hlt|hlt
   ·obtain ⟨A5,c5,hv5,-⟩:=hS.rowRds (S:=shPoint) At.z
    have h5:((ins.take k).map In.p).length=k:=by have:=L1.out;simp;omega
    rw [h5] at hv5
    subst hv5
    have hsm:((ins.take k).map In.p).length≤1000000:=by rw [h5];omega
    have HSM:=Lib.hid hsm
    clear h5 hsm
    (have hO:=hS.elemIn (xs:=ins) (by repeat (first|with_reducible exact At.z|apply At.s)) hlt;clear hS;obtain ⟨b,off,x,A1,n1,c1,rfl,hx,j1,j2,hS⟩:=hO)
    have hs1:Hid (z0x (x::ins.drop (k+1)) (ins.take k)=z0x ins []):=Lib.hid (by rw [← z2u hx];exact hs.out)
    have HX:=Lib.hid hx
    have k1:(0:Int)≤(k:Int):=by omega
    have k2:(k:Int)<(n:Int):=by omega
    clear hs hx
    obtain ⟨⟨ptx,pat⟩,key⟩:=x
    simp only at j1 j2 hS
    (go_wp2_with (first|(refine Sep.wloadNz hS (by rfl) rfl rfl (by repeat (first|with_reducible exact At.z|apply At.s)) (z4r rfl) ?_)|(refine Sep.walloc hS (by rfl) rfl (by first|exact z_op|exact z_in) ?_;clear hS;intro g W hS)|(refine Sep.wstoreNb hS (by rfl) rfl rfl rfl (z4r rfl) (by simp [zcm,Value.oneCell']) (by repeat (first|with_reducible exact At.z|apply At.s)) (by rfl) (by repeat (first|with_reducible exact Put.z|apply Put.s)) ?_;clear hS;intro W hS;refine Stop.go ?_));refine Stop.mk ?_)
    have x0:=hS.boxCell (g:=g) (cs:=[.int .i64 ptx,.int .i64 pat,.slice A1 n1 c1]) (by repeat (with_reducible exact At.z)) 0 _ rfl;have x1:=hS.boxCell (g:=g) (cs:=[.int .i64 ptx,.int .i64 pat,.slice A1 n1 c1]) (by repeat (with_reducible exact At.z)) 1 _ rfl;have x2:=hS.boxCell (g:=g) (cs:=[.int .i64 ptx,.int .i64 pat,.slice A1 n1 c1]) (by repeat (with_reducible exact At.z)) 2 _ rfl
    go_upto_region 11 with fail
    go_cut [80] (fun c wx=>c = .bool (decide (ptx<1∨120<ptx∨pat<0∨6≤pat))∧wx=W)
    case first =>
     rcases Classical.em (ptx<1) with d1|d1
     ·go_wp2_with fail;go_meet;go_light;(refine ⟨?_,rfl⟩);(congr 1;symm;simp;omega)
     rcases Classical.em (120<ptx) with d2|d2
     ·go_wp2_with fail;go_meet;go_light;(refine ⟨?_,rfl⟩);(congr 1;symm;simp;omega)
     rcases Classical.em (pat<0) with d3|d3
     ·go_wp2_with fail;go_meet;go_light;(refine ⟨?_,rfl⟩);(congr 1;symm;simp;omega)
     rcases Classical.em (5<pat) with d4|d4
     ·go_wp2_with fail;go_meet;go_light;(refine ⟨?_,rfl⟩);(congr 1;symm;simp;omega)
     ·go_wp2_with fail;go_meet;go_light;(refine ⟨?_,rfl⟩);(congr 1;symm;simp;omega)
    case rest =>
     obtain ⟨rfl,rfl⟩:=hcut
     rcases Classical.em (ptx<1∨120<ptx∨pat<0∨6≤pat) with d1|d1
     ·rw [decide_eq_true d1]
      have D1:=Lib.hid d1
      clear d1
      go_wp2_with fail
      go_ret
      go_light
      exact ⟨z0h (R1.out 3 (zj9 hs1.out (show z2r _=3 by unfold z2r;rw [if_pos D1.out]) (by decide)) (by decide)),hS.sub (by repeat (first|with_reducible exact Sub.refl|apply Sub.skip))⟩
     rw [decide_eq_false d1]
     have hib:Hid (z2r ⟨⟨ptx,pat⟩,key⟩=zd key):=Lib.hid (by unfold z2r;rw [if_neg d1])
     clear d1
     go_wp2_with fail
     refine (hS.old (zbk key A1 n1 c1 _ _ (hS.ltsRds (by repeat (first|with_reducible exact At.z|apply At.s))) (fun b hb=>hb))).mono ?_;clear hS;rintro e W ⟨rfl,hS⟩
     clear x0 x1 x2
     rcases Classical.em (zd key=0) with d5|d5
     ·have hib0:Hid (z2r ⟨⟨ptx,pat⟩,key⟩=0):=Lib.hid (hib.out.trans d5)
      rw [d5]
      clear d5
      have x0:=hS.boxCell (g:=g) (cs:=[.int .i64 ptx,.int .i64 pat,.slice A1 n1 c1]) (by repeat (with_reducible exact At.z)) 0 _ rfl;have x1:=hS.boxCell (g:=g) (cs:=[.int .i64 ptx,.int .i64 pat,.slice A1 n1 c1]) (by repeat (with_reducible exact At.z)) 1 _ rfl;have x2:=hS.boxCell (g:=g) (cs:=[.int .i64 ptx,.int .i64 pat,.slice A1 n1 c1]) (by repeat (with_reducible exact At.z)) 2 _ rfl
      go_wp2_with fail
      refine (hS.old (zdl ((ins.take k).map In.p) ⟨ptx,pat⟩ A5 _ c5 _ _ (hS.rowRd (by repeat (first|with_reducible exact At.z|apply At.s))) (fun b hb=>hb))).mono ?_;clear hS;rintro e W ⟨rfl,hS⟩
      clear x0 x1 x2
      have x0:=hS.boxCell (g:=g) (cs:=[.int .i64 ptx,.int .i64 pat,.slice A1 n1 c1]) (by repeat (with_reducible exact At.z)) 0 _ rfl;have x1:=hS.boxCell (g:=g) (cs:=[.int .i64 ptx,.int .i64 pat,.slice A1 n1 c1]) (by repeat (with_reducible exact At.z)) 1 _ rfl;have x2:=hS.boxCell (g:=g) (cs:=[.int .i64 ptx,.int .i64 pat,.slice A1 n1 c1]) (by repeat (with_reducible exact At.z)) 2 _ rfl
      cases hmem:za3 ((ins.take k).map In.p) ⟨ptx,pat⟩ with
      | true =>
       have hm:(⟨ptx,pat⟩:Point) ∈ (ins.take k).map In.p:=by simpa [za3] using hmem
       have HM:=Lib.hid hm
       clear hm hmem
       go_wp2_with fail
       go_ret
       go_light
       exact ⟨z0h (R1.out 6 (zxy hs1.out hib0.out ((zja _ _ _).2 HM.out)) (by decide)),hS.sub (by repeat (first|with_reducible exact Sub.refl|apply Sub.skip))⟩
      | false =>
       have hm:¬ (⟨ptx,pat⟩:Point) ∈ (ins.take k).map In.p:=by simpa [za3] using hmem
       have HM:=Lib.hid hm
       have hts:Hid ((ins.take k).map In.p++[⟨ptx,pat⟩]=(ins.take (k+1)).map In.p):=Lib.hid (by rw [z3d HX.out];simp)
       have hnx:Hid (z0x (ins.drop (k+1)) (ins.take (k+1))=z0x ins []):=Lib.hid (by rw [z3d HX.out];exact z012 hs1.out hib0.out (fun h=>HM.out ((zja _ _ _).1 h)))
       clear hm hmem
       (go_wp2_with (refine Sep.wbuild1 hS rfl rfl zrz (by decide) (by decide) rfl rfl ?_;clear hS;intro g1 W hS;(try simp only [Act.eval,zY0g,List.getElem?_toArray,zY22,zY09,zY1i] at hS);refine Stop.go ?_);refine Stop.mk ?_)
       (have hO:=hS.pure (S:=shPoint) (z:=⟨ptx,pat⟩) (cs:=[.int .i64 ptx,.int .i64 pat]) (fun W F=>z04y (x:=⟨ptx,pat⟩) j1 j2);clear hS;have hS:=hO;clear hO)
       (go_wp2_with (at_builtin;go_loud (refine Sep.wappend1 hS rfl rfl (S:=shPoint) (z:=⟨ptx,pat⟩) (v:=.slice A5 k c5) (xs:=((ins.take k).map In.p)) rfl rfl (by repeat (first|with_reducible exact Del.z|apply Del.s)) (by repeat (first|with_reducible exact Del.z|apply Del.s)) (by repeat (with_reducible exact At.z)) zrz (by decide) zft HSM.out (by decide) ?_);clear hS;intro v1 W hS;refine Stop.go ?_);refine Stop.mk ?_)
       rw [hts.out] at hS
       go_wp2_with fail
       go_roundw
       case measure=>go_light;simp [intOf];omega
       case rel=>go_light;exact ⟨k+1,by omega,by go_num,hnx,hS.sub (by repeat (first|with_reducible exact Sub.refl|refine Sub.take (by repeat (first|with_reducible exact Del.z|apply Del.s)) ?_|apply Sub.skip))⟩
     ·have hb:(zd key != 0)=true:=by simpa using d5
      have D5:=Lib.hid d5
      clear d5
      go_wp2_with fail
      go_ret
      go_light
      exact ⟨z0h (R1.out _ (zj9 hs1.out hib.out D5.out) D5.out),hS.sub (by repeat (first|with_reducible exact Sub.refl|apply Sub.skip))⟩
   ·obtain rfl:k=n:=by omega
    have z1:Hid (z0x ins []=0):=Lib.hid (by have:=hs.out;rw [← this,← L1.out,zY3d];rfl)
    clear hs
    have b2:=hS.boxCell (g:=gt) (by repeat (first|with_reducible exact At.z|apply At.s)) 2 _ rfl
    go_wp2_with fail
    clear b2
    (have hO:=hS.nilRow shInt 3;clear hS;have hS:=hO;clear hO)
    go_loopw [7,9,10,100] (fun s _ _ i wr=>∃ k:Nat,k≤n2∧i = .int .i64 k∧Hid (z0u (outs.drop k)=z0u outs)∧Sep w0 F0 (row 3 s ((outs.take k).map Out.coin) shInt::rds outs A2 n2 c2 shOut::Γ) wr) (fun _ _ _ i _=>n2 - (intOf i).toNat)
    case atStart=>exact ⟨0,by omega,rfl,Lib.hid (by simp),by rw [List.take_zero,zY2z];exact hS.sub (by repeat (first|with_reducible exact Sub.refl|refine Sub.take (by repeat (first|with_reducible exact Del.z|apply Del.s)) ?_|apply Sub.skip))⟩
    case round =>
     clear hS
     obtain ⟨k,hk,rfl,hs,hS⟩:=hrel
     obtain ⟨A5,c5,hv5,-⟩:=hS.rowRds (S:=shInt) At.z
     have h5:((outs.take k).map Out.coin).length=k:=by have:=L2.out;simp;omega
     rw [h5] at hv5
     subst hv5
     rcases Classical.em (k<n2) with hlt|hlt
     ·have hsm:((outs.take k).map Out.coin).length≤1000000:=by rw [h5];omega
      have HSM:=Lib.hid hsm
      clear h5 hsm
      (have hO:=hS.elemOut (xs:=outs) (by repeat (first|with_reducible exact At.z|apply At.s)) hlt;clear hS;obtain ⟨b,off,x,A1,n1,c1,rfl,hx,j1,hS⟩:=hO)
      have hs1:Hid (z0u (x::outs.drop (k+1))=z0u outs):=Lib.hid (by rw [← z2u hx];exact hs.out)
      have HX:=Lib.hid hx
      have k1:(0:Int)≤(k:Int):=by omega
      have k2:(k:Int)<(n2:Int):=by omega
      clear hs hx
      obtain ⟨xc,xl⟩:=x
      simp only at j1 hS
      (go_wp2_with (first|(refine Sep.wloadNz hS (by rfl) rfl rfl (by repeat (first|with_reducible exact At.z|apply At.s)) (z4r rfl) ?_)|(refine Sep.walloc hS (by rfl) rfl (by first|exact z_op|exact z0ao) ?_;clear hS;intro g W hS)|(refine Sep.wstoreNb hS (by rfl) rfl rfl rfl (z4r rfl) (by simp [zcm,Value.oneCell']) (by repeat (first|with_reducible exact At.z|apply At.s)) (by rfl) (by repeat (first|with_reducible exact Put.z|apply Put.s)) ?_;clear hS;intro W hS;refine Stop.go ?_));refine Stop.mk ?_)
      have x0:=hS.boxCell (g:=g) (cs:=[.int .i64 xc,.slice A1 n1 c1]) (by repeat (with_reducible exact At.z)) 0 _ rfl;have x1:=hS.boxCell (g:=g) (cs:=[.int .i64 xc,.slice A1 n1 c1]) (by repeat (with_reducible exact At.z)) 1 _ rfl
      rcases Classical.em (xc<1) with d1|d1
      ·go_wp2_with fail
       go_ret
       go_light
       exact ⟨z0h (R2.out z1.out 3 (zgz hs1.out (show z31 _=3 by unfold z31;rw [if_pos d1]) (by decide)) (by decide)),hS.sub (by repeat (first|with_reducible exact Sub.refl|apply Sub.skip))⟩
      have hib:Hid (z31 ⟨xc,xl⟩=zd xl):=Lib.hid (by unfold z31;rw [if_neg d1])
      go_wp2_with fail
      refine (hS.old (zbk xl A1 n1 c1 _ _ (hS.ltsRds (by repeat (first|with_reducible exact At.z|apply At.s))) (fun b hb=>hb))).mono ?_;clear hS;rintro e W ⟨rfl,hS⟩
      clear x0 x1
      rcases Classical.em (zd xl=0) with d5|d5
      ·have hnx:Hid (z0u (outs.drop (k+1))=z0u outs):=Lib.hid (zxz hs1.out (hib.out.trans d5))
       have hts:Hid ((outs.take k).map Out.coin++[xc]=(outs.take (k+1)).map Out.coin):=Lib.hid (by rw [z3d HX.out];simp)
       rw [d5]
       clear d5
       have x0:=hS.boxCell (g:=g) (cs:=[.int .i64 xc,.slice A1 n1 c1]) (by repeat (with_reducible exact At.z)) 0 _ rfl;have x1:=hS.boxCell (g:=g) (cs:=[.int .i64 xc,.slice A1 n1 c1]) (by repeat (with_reducible exact At.z)) 1 _ rfl
       (go_wp2_with (refine Sep.wbuild1 hS rfl rfl z03q (by decide) (by decide) rfl rfl ?_;clear hS;intro g1 W hS;(try simp only [Act.eval,zY0g,List.getElem?_toArray,zY22,zY09,zY1i] at hS);refine Stop.go ?_);refine Stop.mk ?_)
       (have hO:=hS.pure (S:=shInt) (z:=xc) (cs:=[.int .i64 xc]) (fun W F=>⟨rfl,j1⟩);clear hS;have hS:=hO;clear hO)
       (go_wp2_with (at_builtin;go_loud (refine Sep.wappend1 hS rfl rfl (S:=shInt) (z:=xc) (v:=.slice A5 k c5) (xs:=((outs.take k).map Out.coin)) rfl rfl (by repeat (first|with_reducible exact Del.z|apply Del.s)) (by repeat (first|with_reducible exact Del.z|apply Del.s)) (by repeat (with_reducible exact At.z)) z03q (by decide) z5t HSM.out (by decide) ?_);clear hS;intro v1 W hS;refine Stop.go ?_);refine Stop.mk ?_)
       rw [hts.out] at hS
       go_wp2_with fail
       go_roundw
       case measure=>go_light;simp [intOf];omega
       case rel=>go_light;exact ⟨k+1,by omega,by go_num,hnx,hS.sub (by repeat (first|with_reducible exact Sub.refl|refine Sub.take (by repeat (first|with_reducible exact Del.z|apply Del.s)) ?_|apply Sub.skip))⟩
      ·have hb:(zd xl != 0)=true:=by simpa using d5
       have D5:=Lib.hid d5
       clear d5
       go_wp2_with fail
       go_ret
       go_light
       exact ⟨z0h (R2.out z1.out _ (zgz hs1.out hib.out D5.out) D5.out),hS.sub (by repeat (first|with_reducible exact Sub.refl|apply Sub.skip))⟩
     ·obtain rfl:k=n2:=by omega
      have z2:Hid (z0u outs=0):=Lib.hid (by have:=hs.out;rw [← this,← L2.out,zY3d];rfl)
      have hall:(outs.take k).map Out.coin=outs.map Out.coin:=by rw [← L2.out,zY1c]
      rw [hall] at hS
      clear hs h5 hall
      have HL:Hid ((outs.map Out.coin).length=k):=Lib.hid (by have:=L2.out;simpa using this)
      go_wp2_with fail
      refine (hS.oldS (z02l (outs.map Out.coin) A5 k c5 _ _ (hS.rowRd (by repeat (with_reducible exact At.z))))).mono ?_
      clear hS;rintro e W ⟨rfl,hS⟩
      have hfin:Hid ((z2l (outs.map Out.coin)).2=R):=Lib.hid (R3.out z1.out z2.out)
      generalize z2l (outs.map Out.coin)=q at *
      obtain ⟨q1,q2⟩:=q
      go_wp2_with fail
      go_ret
      go_light
      exact ⟨z0h hfin.out,hS.sub (by repeat (first|with_reducible exact Sub.refl|apply Sub.skip))⟩
end
end Go.Proofs.YtjknfjbpmdfphaaGreat
