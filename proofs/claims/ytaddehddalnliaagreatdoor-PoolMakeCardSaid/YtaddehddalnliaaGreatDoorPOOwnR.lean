/- Own texts, put together by wip/bundle.py: RefOps, Point, RefTx, RefBlk. -/
import Derived.BigQuiet
import Derived.Outline
import Derived.Deep.Light
import Derived.Deep.DeepCutAuto
import Derived.Test.YtaddehddalnliaaGreatDoorPOOwnB
set_option linter.unusedVariables false
set_option linter.unusedSimpArgs false
namespace Go.Proofs.YtaddehddalnliaaGreatDoor
section
open Go.RowKit
set_option maxRecDepth 100000
theorem zfk (xs:List Op) (A:Option Addr) (n c:Nat) (w:World) (F:Nat→Prop) (h:Rds shOp w F xs A n c) (hF:∀ b,F b→b<w.heap.size) :
  Calls Tryz.prog 67 #[.slice A n c] w fun e w'=>e = .returned (.int .i64 (z7 xs))∧Below w.heap.size w w':=by
 have hn:=h.2.1;have hc:=h.2.2.1;have hl:=h.1
 by_cases h16:16<n
 ·have e:z7 xs=2:=by simp only [z7];rw [if_pos (by omega)]
  rw [e];clear e hl;go_enter Tryz.func67,Tryz.ntmps67;go_wp2;go_ret;exact ⟨rfl,Below.refl _ _⟩
 ·have e:z7 xs=z4z xs:=by simp only [z7];rw [if_neg (by omega)]
  rw [e];have HR:=Lib.hid h;have HLN:=Lib.hid hl;clear e hl h;go_enter Tryz.func67,Tryz.ntmps67;go_wp2;go_loopw [4,10] (fun _ i wr=>∃ k:Nat,k≤n∧i = .int .i64 k∧Below w.heap.size w wr∧z4z (xs.drop k)=z4z xs) (fun _ i _=>n - (intOf i).toNat)
  case atStart=>exact ⟨0,by omega,rfl,Below.refl _ _,rfl⟩
  case round =>
   obtain ⟨k,hk,rfl,hb,hs⟩:=hrel
   by_cases hlt:k<n
   ·obtain ⟨b,off,x,rfl,hFb,hx,⟨hc1,hc2⟩,-,-⟩:=HR.out.op hlt
    rw [z27 hx,z4z] at hs;rw [← hb.cell (p:=⟨b,off+k * 2,none⟩) (hF b hFb)] at hc1;rw [← hb.cell (p:=⟨b,off+k * 2+1,none⟩) (hF b hFb)] at hc2;have HB:=Lib.hid (hb.alloc hb.size (.cells #[.int .i64 x.kind,.int .i64 x.n] 103));clear hx hb;have i1:(0:Int)≤(k:Int):=by omega
    have i2:(k:Int)<(n:Int):=by omega
    obtain ⟨xk,xn⟩:=x;simp only at hc1 hc2 HB;rcases Classical.em (xk<1∨13<xk) with hk1|hk1
    ·have e:z3w ⟨xk,xn⟩=4:=by simp only [z3w];rw [if_pos hk1]
     rw [e,if_pos (by decide)] at hs;have HS:=Lib.hid hs;clear hs e;rcases Classical.em (xk<1) with hk2|hk2
     ·clear hk1
      go_wp2;go_ret;exact ⟨zk HS.out,HB.out⟩
     ·have hk3:13<xk:=by omega
      clear hk1;go_wp2;go_ret;exact ⟨zk HS.out,HB.out⟩
    ·have g1:¬ xk<1:=by omega
     have g2:¬ 13<xk:=by omega
     have e0:z3w ⟨xk,xn⟩=if (xk≠1∧xn≠0)∨xn < -1000000∨1000000<xn then 3 else 0:=by simp only [z3w];rw [if_neg hk1]
     rw [e0] at hs;clear hk1 e0;rcases Classical.em ((xk≠1∧xn≠0)∨xn < -1000000∨1000000<xn) with h3|h3
     ·rw [if_pos h3,if_pos (by decide)] at hs
      have HS:=Lib.hid hs;clear hs;rcases Classical.em (xn < -1000000) with h6|h6
      ·clear h3
       go_wp2;go_ret;exact ⟨zk HS.out,HB.out⟩
      ·rcases Classical.em (1000000<xn) with h7|h7
       ·clear h3
        go_wp2;go_ret;exact ⟨zk HS.out,HB.out⟩
       ·have h4:xk≠1∧xn≠0:=by omega
        have k1:(xk != 1)=true:=by simpa using h4.1
        have k2:(xn != 0)=true:=by simpa using h4.2
        clear h3 h4;go_wp2;go_ret;exact ⟨zk HS.out,HB.out⟩
     ·rw [if_neg h3,if_neg (by decide)] at hs
      have HS:=Lib.hid hs;clear hs;have h6:¬ xn < -1000000:=by omega
      have h7:¬ 1000000<xn:=by omega
      by_cases h5:xk=1
      ·subst h5
       clear h3;go_wp2;go_roundw
       case measure=>simp [intOf];omega
       case rel=>exact ⟨k+1,by omega,by go_num,HB.out,HS.out⟩
      ·obtain rfl:xn=0:=by omega
       have k1:(xk != 1)=true:=by simpa using h5
       clear h3 h5;go_wp2;go_roundw
       case measure=>simp [intOf];omega
       case rel=>exact ⟨k+1,by omega,by go_num,HB.out,HS.out⟩
   ·obtain rfl:k=n:=by omega
    rw [zY1h (by rw [HLN.out];omega),z4z] at hs;have HS:=Lib.hid hs;clear hs;go_wp2;go_ret;exact ⟨zk HS.out,hb⟩
end
section
open Go.RowKit
set_option maxRecDepth 100000
theorem Sep.elemP {w0 W:World} {F0:Nat→Prop} {Γ:List Res} (h:Sep w0 F0 Γ W) {xs:List Point} {A:Option Addr} {n c i:Nat} (hm:At Γ (rds xs A n c shPoint)) (hi:i<n) :
  ∃ b off z,A=some ⟨b,off,none⟩∧xs[i]? = some z∧W.cell? ⟨b,off+i * 2,none⟩=some (.int .i64 z.tx)∧W.cell? ⟨b,off+i * 2+1,none⟩=some (.int .i64 z.at_):=by
 obtain ⟨b,off,z,cs,e,hz,hS⟩:=h.elem hm hi;obtain ⟨rfl,h1,h2⟩:=hS.open_point (At.s At.z);rw [show shPoint.size=2 from rfl] at hS;have hr:=hS.cellsAt At.z;exact ⟨b,off,z,e,hz,by simpa using hr 0 _ rfl,by simpa using hr 1 _ rfl⟩
theorem Sep.boxCell {w0 W:World} {F0:Nat→Prop} {Γ:List Res} (h:Sep w0 F0 Γ W) {g t:Nat} {cs:List Value} (hm:At Γ (box g cs t)) (i:Nat) (v:Value) (hv:cs[i]? = some v):W.cell? ⟨g,i,none⟩=some v:=by
 have:=h.boxAt hm i v hv;rwa [zY0q] at this
set_option maxHeartbeats 1000000 in
theorem z076 (xs:List Point) (y:Point) (A:Option Addr) (n c:Nat) {w0 W:World} {F0:Nat→Prop} {Γ:List Res} (hS:Sep w0 F0 Γ W) (hm:At Γ (rds xs A n c shPoint)) :
  Calls Tryz.prog 128 #[.slice A n c,.agg #[.int .i64 y.tx,.int .i64 y.at_]] W (RV w0 F0 Γ (.int .i64 (idx xs y))):=by
 obtain ⟨hl,hn,hc⟩:=hS.len hm
 obtain ⟨R,hR⟩:∃ R,R=idx xs y:=⟨_,rfl⟩
 rw [← hR]
 have HR:=Lib.hid hR
 have L:=Lib.hid hl
 clear hR hl
 go_enter Tryz.func128,Tryz.ntmps128
 (go_wp2_with ((refine Sep.wbox hS (by rfl) rfl rfl ?_;clear hS;intro gy W hS;refine Stop.go ?_));refine Stop.mk ?_)
 go_wp2_with ((first|(refine Sep.wload1b hS (by rfl) rfl rfl (zap rfl) (by repeat (with_reducible exact At.z)) rfl ?_)|(refine Sep.wloadNb hS (by rfl) rfl rfl (by repeat (with_reducible exact At.z)) (z3j rfl) ?_)|(refine Sep.wload1z hS (by rfl) rfl rfl (zap rfl) (by repeat (apply At.s)) rfl ?_)|(refine Sep.wload1c hS (by rfl) rfl rfl (zap rfl) (by repeat (apply At.s)) rfl ?_)|(refine Sep.wloadNz hS (by rfl) rfl rfl (by repeat (apply At.s)) (z3j rfl) ?_)|(refine Sep.walloc hS (by rfl) rfl (by exact zk5) ?_;clear hS;intro g W hS)|(refine Sep.wbox hS (by rfl) rfl rfl ?_;clear hS;intro g W hS)|(refine Sep.wstoreNb hS (by rfl) rfl rfl rfl (z3j rfl) (by simp [zce,Value.oneCell']) (by repeat (with_reducible exact At.z)) (by rfl) (by repeat (with_reducible exact Put.z)) ?_;clear hS;intro W hS)))
 go_loopw [5,8] (fun _ i wr=>∃ k:Nat,k≤n∧i = .int .i64 k∧Hid (z12 y (xs.drop k) k=R)∧Sep w0 F0 (box gy [.int .i64 y.tx,.int .i64 y.at_] 97::Γ) wr) (fun _ i _=>n - (intOf i).toNat)
 case atStart=>exact ⟨0,by omega,rfl,Lib.hid (by rw [HR.out];rfl),hS.sub (by repeat (with_reducible exact Sub.refl))⟩
 case round =>
  clear hS
  obtain ⟨k,hk,rfl,hs,hS⟩:=hrel
  rcases Classical.em (k<n) with hlt|hlt
  ·obtain ⟨b,off,z,rfl,hz,hc0,hc1⟩:=hS.elemP (At.s hm) hlt
   have hb0:=hS.boxCell (g:=gy) At.z 0 _ rfl
   have hb1:=hS.boxCell (g:=gy) At.z 1 _ rfl
   have hs1:Hid ((if y=z then (k:Int) else z12 y (xs.drop (k+1)) (k+1))=R):=Lib.hid (by have:=hs.out;rw [z27 hz,z12] at this;exact this)
   have i1:(0:Int)≤(k:Int):=by omega
   have i2:(k:Int)<(n:Int):=by omega
   clear hs hz
   obtain ⟨ztx,zat⟩:=z
   obtain ⟨ytx,yat⟩:=y
   simp only at hc0 hc1 hb0 hb1
   rcases Classical.em (ytx=ztx∧yat=zat) with he|he
   ·obtain ⟨rfl,rfl⟩:=he
    have hs2:Hid ((k:Int)=R):=Lib.hid (by have:=hs1.out;rwa [if_pos rfl] at this)
    clear hs1
    go_wp2_with fail
    go_quiet (fail)
    go_wp2_with fail
    go_ret
    exact ⟨zk hs2.out,(hS.drewN _).sub (by repeat (first|with_reducible exact Sub.refl|apply Sub.skip))⟩
   ·have hs2:Hid (z12 (⟨ytx,yat⟩:Point) (xs.drop (k+1)) (k+1)=R):=Lib.hid (by have:=hs1.out;rwa [if_neg (fun e=>he (by simpa using e))] at this)
    clear hs1
    rcases Classical.em (ytx=ztx) with h1|h1
    ·subst h1
     have h2:(yat == zat)=false:=by simpa using he
     clear he
     go_wp2_with fail;go_quiet (fail);go_wp2_with fail
     have hS:=hS.drewN nq
     go_roundw
     case measure=>simp [intOf];omega
     case rel=>exact ⟨k+1,by omega,by go_num,hs2,hS.sub (by repeat (with_reducible exact Sub.refl))⟩
    ·have h2:(ytx == ztx)=false:=by simpa using h1
     clear he h1
     go_wp2_with fail;go_quiet (fail);go_wp2_with fail
     have hS:=hS.drewN nq
     go_roundw
     case measure=>simp [intOf];omega
     case rel=>exact ⟨k+1,by omega,by go_num,hs2,hS.sub (by repeat (with_reducible exact Sub.refl))⟩
  ·obtain rfl:k=n:=by omega
   have hs2:Hid ((-1:Int)=R):=Lib.hid (by have:=hs.out;rw [← L.out,zY21] at this;exact this)
   clear hs
   go_wp2_with fail
   go_ret
   exact ⟨zk hs2.out,hS.sub (by repeat (first|with_reducible exact Sub.refl|apply Sub.skip))⟩
set_option maxHeartbeats 1000000 in
theorem zoc (xs:List Point) (y:Point) (A:Option Addr) (n c:Nat) {w0 W:World} {F0:Nat→Prop} {Γ:List Res} (hS:Sep w0 F0 Γ W) (hm:At Γ (rds xs A n c shPoint)) :
  Calls Tryz.prog 101 #[.slice A n c,.agg #[.int .i64 y.tx,.int .i64 y.at_]] W (RV w0 F0 Γ (.bool (zdm xs y))):=by
 go_enter Tryz.func101,Tryz.ntmps101
 (go_wp2_with ((refine Sep.wbox hS (by rfl) rfl rfl ?_;clear hS;intro gy W hS;refine Stop.go ?_));refine Stop.mk ?_)
 go_wp2_with (((refine Sep.wloadNb hS (by rfl) rfl rfl (by repeat (with_reducible exact At.z)) (z3j rfl) ?_)))
 refine (z076 xs y A n c hS (At.s hm)).mono ?_
 clear hS;rintro e W ⟨rfl,hS⟩
 have E:Hid (decide (0≤idx xs y)=zdm xs y):=Lib.hid (by unfold zdm;rw [decide_eq_decide];exact z0a3 xs y)
 go_wp2_with ((first|(refine Sep.wload1b hS (by rfl) rfl rfl (zap rfl) (by repeat (with_reducible exact At.z)) rfl ?_)|(refine Sep.wloadNb hS (by rfl) rfl rfl (by repeat (with_reducible exact At.z)) (z3j rfl) ?_)|(refine Sep.wload1z hS (by rfl) rfl rfl (zap rfl) (by repeat (apply At.s)) rfl ?_)|(refine Sep.wload1c hS (by rfl) rfl rfl (zap rfl) (by repeat (apply At.s)) rfl ?_)|(refine Sep.wloadNz hS (by rfl) rfl rfl (by repeat (apply At.s)) (z3j rfl) ?_)|(refine Sep.walloc hS (by rfl) rfl (by exact zk5) ?_;clear hS;intro g W hS)|(refine Sep.wbox hS (by rfl) rfl rfl ?_;clear hS;intro g W hS)|(refine Sep.wstoreNb hS (by rfl) rfl rfl rfl (z3j rfl) (by simp [zce,Value.oneCell']) (by repeat (with_reducible exact At.z)) (by rfl) (by repeat (with_reducible exact Put.z)) ?_;clear hS;intro W hS)))
 go_ret
 exact ⟨z58 E.out,hS.sub (by repeat (first|with_reducible exact Sub.refl|apply Sub.skip))⟩
end
section
open Go.RowKit
set_option maxRecDepth 100000
theorem zrh {x:In} {l seen:List In} {r:Int} (h:z13 (x::l) seen=r) {m:Int} (hb:z2k x=m) (hm:m≠0):m=r:=by rw [← h,z13,hb,if_pos hm]
theorem z077 {x:In} {l seen:List In} {r:Int} (h:z13 (x::l) seen=r) (hb:z2k x=0) (h2:0≤z44 seen x.p 0):6=r:=by rw [← h,z13,hb,if_neg (by simp),if_pos h2]
theorem z0bu {x:In} {l seen:List In} {r:Int} (h:z13 (x::l) seen=r) (hb:z2k x=0) (h2:¬ 0≤z44 seen x.p 0):z13 l (seen++[x])=r:=by rw [← h,z13,hb,if_neg (by simp),if_neg h2]
theorem zri (seen:List In) (p:Point) (k:Nat):0≤z44 seen p k↔p ∈ seen.map In.p:=by
 induction seen generalizing k with
 | nil=>simp [z44]
 | cons y l ih =>
  rw [z44]
  by_cases h:y.p=p
  ·rw [if_pos h];simp [h]
  ·rw [if_neg h,ih];simp;intro e;exact absurd e.symm h
theorem zm5 {x:Out} {l:List Out} {r:Int} (h:z0v (x::l)=r) {m:Int} (hb:z3h x=m) (hm:m≠0):m=r:=by rw [← h,z0v,hb,if_pos hm]
theorem z078 {x:Out} {l:List Out} {r:Int} (h:z0v (x::l)=r) (hb:z3h x=0):z0v l=r:=by rw [← h,z0v,hb,if_neg (by simp)]
theorem Sep.rowRds {w0 W:World} {F0:Nat→Prop} {Γ:List Res} (h:Sep w0 F0 Γ W) {α:Type} {S:Sh α} {e:Nat} {v:Value} {xs:List α} (hm:At Γ (row e v xs S)):∃ A c,v = .slice A xs.length c∧Rds S W (Lt W.heap.size) xs A xs.length c:=by
 obtain ⟨zs,hz1,hz2,hz3⟩:=h.getRow hm;have hn:zs.length=xs.length:=by rw [← hz1];simp
 obtain ⟨A,c,hv,hr⟩:=Rds.of_own hz2 hn (F:=Lt W.heap.size) (fun z hz=>S.more (fun b hb=>Free.lt h hb) (hz3 z hz)) (fun g _ hg=>hg);rw [hz1] at hr;exact ⟨A,c,hv,hr⟩
theorem Sep.rowRd {w0 W:World} {F0:Nat→Prop} {Γ:List Res} (h:Sep w0 F0 Γ W) {α:Type} {S:Sh α} {e n c:Nat} {A:Option Addr} {xs:List α} (hm:At Γ (row e (.slice A n c) xs S)):Rds S W (Lt W.heap.size) xs A n c:=by
 obtain ⟨A',c',hv,hr⟩:=h.rowRds hm;simp only [Value.slice.injEq] at hv;obtain ⟨rfl,rfl,rfl⟩:=hv;exact hr
theorem zha (xs:List Point) (y:Point) (A:Option Addr) (n c:Nat) (W:World) (F:Nat→Prop) (h:Rds shPoint W F xs A n c) (hF:∀ b,F b→b<W.heap.size) :
  Calls Tryz.prog 101 #[.slice A n c,.agg #[.int .i64 y.tx,.int .i64 y.at_]] W fun e W'=>e = .returned (.bool (zdm xs y))∧Below W.heap.size W W':=by
 have hS:Sep W F [rds xs A n c shPoint] W:=(Sep.start W F hF).addRds (h.more fun b hb=>⟨.inl hb,by simp⟩);exact (zoc xs y A n c hS At.z).mono fun e W' h=>⟨h.1,h.2.below⟩
theorem Sep.elemIn {w0 W:World} {F0:Nat→Prop} {Γ:List Res} (h:Sep w0 F0 Γ W) {xs:List In} {A:Option Addr} {n c i:Nat} (hm:At Γ (rds xs A n c shIn)) (hi:i<n) :
  ∃ b off z A1 n1 c1,A=some ⟨b,off,none⟩∧xs[i]? = some z∧I64 z.p.tx∧I64 z.p.at_∧Sep w0 F0 (cells b (off+i * 3) [.int .i64 z.p.tx,.int .i64 z.p.at_,.slice A1 n1 c1]::rds z.key A1 n1 c1 shOp::Γ) W:=by
 obtain ⟨b,off,z,cs,e,hz,hS⟩:=h.elem hm hi;obtain ⟨A1,n1,c1,rfl,h1,h2,hS⟩:=hS.open_in (At.s At.z);rw [show shIn.size=3 from rfl] at hS;exact ⟨b,off,z,A1,n1,c1,e,hz,h1,h2,hS.sub (Sub.take (Del.s Del.z) (Sub.take Del.z (Sub.skip Sub.refl)))⟩
theorem Sep.elemOut {w0 W:World} {F0:Nat→Prop} {Γ:List Res} (h:Sep w0 F0 Γ W) {xs:List Out} {A:Option Addr} {n c i:Nat} (hm:At Γ (rds xs A n c shOut)) (hi:i<n) :
  ∃ b off z A1 n1 c1,A=some ⟨b,off,none⟩∧xs[i]? = some z∧I64 z.coin∧Sep w0 F0 (cells b (off+i * 2) [.int .i64 z.coin,.slice A1 n1 c1]::rds z.lock A1 n1 c1 shOp::Γ) W:=by
 obtain ⟨b,off,z,cs,e,hz,hS⟩:=h.elem hm hi;obtain ⟨A1,n1,c1,rfl,h1,hS⟩:=hS.open_out (At.s At.z);rw [show shOut.size=2 from rfl] at hS;exact ⟨b,off,z,A1,n1,c1,e,hz,h1,hS.sub (Sub.take (Del.s Del.z) (Sub.take Del.z (Sub.skip Sub.refl)))⟩
set_option maxHeartbeats 4000000 in
theorem z0aa (t:Tx) (cs:List Value) {w0 W:World} {F0:Nat→Prop} {Γ:List Res} (hS:Sep w0 F0 Γ W) (ht:At Γ (rep t cs shTx)) :
  Calls Tryz.prog 52 #[.agg cs.toArray] W (RV w0 F0 Γ (.int .i64 (zf t))):=by
 obtain ⟨R,hR⟩:∃ R,R=zf t:=⟨_,rfl⟩
 rw [← hR]
 (have hO:=hS.open_tx ht;clear hS;obtain ⟨A,n,c,A2,n2,c2,rfl,i1,hS⟩:=hO)
 obtain ⟨th,ins,outs⟩:=t
 simp only at hS i1
 obtain ⟨hl1,hn1,hc1⟩:=hS.len (xs:=ins) (by repeat (with_reducible exact At.z))
 obtain ⟨hl2,hn2,hc2⟩:=hS.len (xs:=outs) (by repeat (first|with_reducible exact At.z|apply At.s))
 have HR:=Lib.hid hR
 have L1:=Lib.hid hl1
 have L2:=Lib.hid hl2
 clear hR hl1 hl2
 go_enter Tryz.func52,Tryz.ntmps52
 (go_wp2_with ((refine Sep.wbox hS (by rfl) rfl rfl ?_;clear hS;intro gt W hS;refine Stop.go ?_));refine Stop.mk ?_)
 have b0:=hS.boxCell (g:=gt) At.z 0 _ rfl
 have b1:=hS.boxCell (g:=gt) At.z 1 _ rfl
 have b2:=hS.boxCell (g:=gt) At.z 2 _ rfl
 have B1:Hid (6<n∨6<n2→2=R):=Lib.hid (fun h=>by have:=L1.out;have:=L2.out;rw [HR.out,zf,z1q,if_pos (show 6<ins.length∨6<outs.length by omega),if_pos (by decide)])
 have B2:Hid (¬ (6<n∨6<n2)→n2=0→4=R):=Lib.hid (fun h h2=>by have:=L1.out;have:=L2.out;rw [HR.out,zf,z1q,if_neg (show ¬ (6<ins.length∨6<outs.length) by omega),if_pos (show outs.length=0 by omega),if_pos (by decide)])
 have B3:Hid (¬ (6<n∨6<n2)→¬ n2=0→(n=0∧(th<1∨1000<th))∨(0<n∧th≠0)→3=R):=Lib.hid (fun h h2 h3=>by have:=L1.out;have:=L2.out;rw [HR.out,zf,z1q,if_neg (show ¬ (6<ins.length∨6<outs.length) by omega),if_neg (show ¬ outs.length=0 by omega),if_pos (show (ins.length=0∧(th<1∨1000<th))∨(0<ins.length∧th≠0) by omega),if_pos (by decide)])
 have B4:Hid (¬ (6<n∨6<n2)→¬ n2=0→¬ ((n=0∧(th<1∨1000<th))∨(0<n∧th≠0))→R=if z13 ins []≠0 then z13 ins [] else if z0v outs≠0 then z0v outs else (z3x (outs.map Out.coin)).2):=Lib.hid (fun h h2 h3=>by have:=L1.out;have:=L2.out;rw [HR.out,zf,z1q,if_neg (show ¬ (6<ins.length∨6<outs.length) by omega),if_neg (show ¬ outs.length=0 by omega),if_neg (show ¬ ((ins.length=0∧(th<1∨1000<th))∨(0<ins.length∧th≠0)) by omega),if_neg (by decide)])
 clear HR
 rcases Classical.em ((6:Int)<(n:Int)) with g61|g61
 ·go_wp2_with fail;go_ret;go_light;refine ⟨zk ?_,hS.sub (by repeat (first|with_reducible exact Sub.refl|apply Sub.skip))⟩
  exact B1.out (.inl (by omega))
 rcases Classical.em ((6:Int)<(n2:Int)) with g62|g62
 ·go_wp2_with fail;go_ret;go_light;refine ⟨zk ?_,hS.sub (by repeat (first|with_reducible exact Sub.refl|apply Sub.skip))⟩
  exact B1.out (.inr (by omega))
 rcases Classical.em (n2=0) with c3|c3
 ·have q:((n2:Int) == 0)=true:=by simp [c3]
  have C3:=Lib.hid c3
  clear c3
  go_wp2_with fail;go_ret;go_light;refine ⟨zk ?_,hS.sub (by repeat (first|with_reducible exact Sub.refl|apply Sub.skip))⟩
  exact B2.out (by omega) C3.out
 have q3:((n2:Int) == 0)=false:=by simp;omega
 have C3:=Lib.hid c3
 clear c3
 go_upto_region 5 with fail
 go_cut [51] from 27 to 51 (fun c wx=>c = .bool (decide ((0<n∧th≠0)∨(n=0∧(th<1∨1000<th))))∧wx=W)
 case first =>
  rcases Classical.em (n=0) with h0|h0
  ·have q4:((n:Int) == 0)=true:=by simp [h0]
   have q5:¬ (0:Int)<(n:Int):=by omega
   have q5n:¬ 0<n:=by omega
   have H0:=Lib.hid h0
   clear h0
   rcases Classical.em (th<1) with h1|h1
   ·go_wp2_with fail;go_meet;go_light;(refine ⟨?_,rfl⟩);(congr 1;symm;have:=H0.out;simp;omega)
   rcases Classical.em (1000<th) with h2|h2
   ·go_wp2_with fail;go_meet;go_light;(refine ⟨?_,rfl⟩);(congr 1;symm;have:=H0.out;simp;omega)
   ·go_wp2_with fail;go_meet;go_light;(refine ⟨?_,rfl⟩);(congr 1;symm;have:=H0.out;simp;omega)
  ·have q4:((n:Int) == 0)=false:=by simp;omega
   have q5:(0:Int)<(n:Int):=by omega
   have q5n:0<n:=by omega
   rcases Classical.em (th=0) with h1|h1
   ·have q6:(th != 0)=false:=by simp [h1]
    have H0:=Lib.hid (And.intro h0 h1)
    clear h0 h1
    go_wp2_with fail;go_meet;go_light;(refine ⟨?_,rfl⟩);(congr 1;symm;have:=H0.out;simp;omega)
   ·have q6:(th != 0)=true:=by simp [h1]
    have H0:=Lib.hid (And.intro h0 h1)
    clear h0 h1
    go_wp2_with fail;go_meet;go_light;(refine ⟨?_,rfl⟩);(congr 1;symm;have:=H0.out;simp;omega)
 case rest =>
  obtain ⟨rfl,rfl⟩:=hcut
  rcases Classical.em ((0<n∧th≠0)∨(n=0∧(th<1∨1000<th))) with g3|g3
  ·rw [decide_eq_true g3]
   have G3:=Lib.hid g3
   clear g3
   go_wp2_with fail
   go_ret
   refine ⟨zk ?_,hS.sub (by repeat (first|with_reducible exact Sub.refl|apply Sub.skip))⟩
   exact B3.out (by omega) C3.out (by have:=G3.out;omega)
  rw [decide_eq_false g3]
  have HR:=Lib.hid (B4.out (by omega) C3.out (by omega))
  have R1:=Lib.hid (show ∀ v,v=z13 ins []→v≠0→v=R from fun v hv h=>by rw [HR.out,← hv,if_pos h])
  have R2:=Lib.hid (show z13 ins []=0→∀ v,v=z0v outs→v≠0→v=R from fun h0 v hv h=>by rw [HR.out,h0,← hv,if_neg (by decide),if_pos h])
  have R3:=Lib.hid (show z13 ins []=0→z0v outs=0→(z3x (outs.map Out.coin)).2=R from fun h0 h1=>by rw [HR.out,h0,h1,if_neg (by decide),if_neg (by decide)])
  clear HR B1 B2 B3 B4 g3
  go_wp2_with fail
  clear b0 b1 b2
  (have hO:=hS.nilRow shPoint 97;clear hS;have hS:=hO;clear hO)
  go_loopw [3,5,6,55] (fun s _ _ i wr=>∃ k:Nat,k≤n∧i = .int .i64 k∧Hid (z13 (ins.drop k) (ins.take k)=z13 ins [])∧Sep w0 F0 (row 97 s ((ins.take k).map In.p) shPoint::box gt [.int .i64 th,.slice A n c,.slice A2 n2 c2] 30::rds ins A n c shIn::rds outs A2 n2 c2 shOut::Γ) wr) (fun _ _ _ i _=>n - (intOf i).toNat)
  case atStart=>exact ⟨0,by omega,rfl,Lib.hid (by simp),by rw [List.take_zero,zY30];exact hS.sub (by repeat (with_reducible exact Sub.refl))⟩
  case round =>
   clear hS
   obtain ⟨k,hk,rfl,hs,hS⟩:=hrel
   rcases Classical.em (k<n) with hlt|hlt
   ·obtain ⟨A5,c5,hv5,-⟩:=hS.rowRds (S:=shPoint) At.z
    have h5:((ins.take k).map In.p).length=k:=by have:=L1.out;simp;omega
    rw [h5] at hv5
    subst hv5
    have hsm:((ins.take k).map In.p).length≤1000000:=by rw [h5];omega
    have HSM:=Lib.hid hsm
    clear h5 hsm
    (have hO:=hS.elemIn (xs:=ins) (by repeat (first|with_reducible exact At.z|apply At.s)) hlt;clear hS;obtain ⟨b,off,x,A1,n1,c1,rfl,hx,j1,j2,hS⟩:=hO)
    have hs1:Hid (z13 (x::ins.drop (k+1)) (ins.take k)=z13 ins []):=Lib.hid (by rw [← z27 hx];exact hs.out)
    have HX:=Lib.hid hx
    have k1:(0:Int)≤(k:Int):=by omega
    have k2:(k:Int)<(n:Int):=by omega
    clear hs hx
    obtain ⟨⟨ptx,pat⟩,key⟩:=x
    simp only at j1 j2 hS
    (go_wp2_with (first|(refine Sep.wloadNz hS (by rfl) rfl rfl (by repeat (first|with_reducible exact At.z|apply At.s)) (z3j rfl) ?_)|(refine Sep.walloc hS (by rfl) rfl (by first|exact zk5|exact z_in) ?_;clear hS;intro g W hS)|(refine Sep.wstoreNb hS (by rfl) rfl rfl rfl (z3j rfl) (by simp [zce,Value.oneCell']) (by repeat (first|with_reducible exact At.z|apply At.s)) (by rfl) (by repeat (first|with_reducible exact Put.z|apply Put.s)) ?_;clear hS;intro W hS;refine Stop.go ?_));refine Stop.mk ?_)
    have x0:=hS.boxCell (g:=g) (cs:=[.int .i64 ptx,.int .i64 pat,.slice A1 n1 c1]) (by repeat (with_reducible exact At.z)) 0 _ rfl;have x1:=hS.boxCell (g:=g) (cs:=[.int .i64 ptx,.int .i64 pat,.slice A1 n1 c1]) (by repeat (with_reducible exact At.z)) 1 _ rfl;have x2:=hS.boxCell (g:=g) (cs:=[.int .i64 ptx,.int .i64 pat,.slice A1 n1 c1]) (by repeat (with_reducible exact At.z)) 2 _ rfl
    go_upto_region 11 with fail
    go_cut [80] (fun c wx=>c = .bool (decide (ptx<1∨120<ptx∨pat<0∨6≤pat))∧wx=W)
    case first =>
     rcases Classical.em (ptx<1) with d1|d1
     ·go_wp2_with fail;go_meet;go_light;(refine ⟨?_,rfl⟩);(congr 1;symm;simp;omega)
     rcases Classical.em (120<ptx) with d2|d2
     ·go_wp2_with fail;go_meet;go_light;(refine ⟨?_,rfl⟩);(congr 1;symm;simp;omega)
     rcases Classical.em (pat<0) with d3|d3
     ·go_wp2_with fail;go_meet;go_light;(refine ⟨?_,rfl⟩);(congr 1;symm;simp;omega)
     rcases Classical.em (5<pat) with d4|d4
     ·go_wp2_with fail;go_meet;go_light;(refine ⟨?_,rfl⟩);(congr 1;symm;simp;omega)
     ·go_wp2_with fail;go_meet;go_light;(refine ⟨?_,rfl⟩);(congr 1;symm;simp;omega)
    case rest =>
     obtain ⟨rfl,rfl⟩:=hcut
     rcases Classical.em (ptx<1∨120<ptx∨pat<0∨6≤pat) with d1|d1
     ·rw [decide_eq_true d1]
      have D1:=Lib.hid d1
      clear d1
      go_wp2_with fail
      go_ret
      go_light
      exact ⟨zk (R1.out 3 (zrh hs1.out (show z2k _=3 by unfold z2k;rw [if_pos D1.out]) (by decide)) (by decide)),hS.sub (by repeat (first|with_reducible exact Sub.refl|apply Sub.skip))⟩
     rw [decide_eq_false d1]
     have hib:Hid (z2k ⟨⟨ptx,pat⟩,key⟩=z7 key):=Lib.hid (by unfold z2k;rw [if_neg d1])
     clear d1
     go_wp2_with fail
     refine (hS.old (zfk key A1 n1 c1 _ _ (hS.ltsRds (by repeat (first|with_reducible exact At.z|apply At.s))) (fun b hb=>hb))).mono ?_;clear hS;rintro e W ⟨rfl,hS⟩
     clear x0 x1 x2
     rcases Classical.em (z7 key=0) with d5|d5
     ·have hib0:Hid (z2k ⟨⟨ptx,pat⟩,key⟩=0):=Lib.hid (hib.out.trans d5)
      rw [d5]
      clear d5
      have x0:=hS.boxCell (g:=g) (cs:=[.int .i64 ptx,.int .i64 pat,.slice A1 n1 c1]) (by repeat (with_reducible exact At.z)) 0 _ rfl;have x1:=hS.boxCell (g:=g) (cs:=[.int .i64 ptx,.int .i64 pat,.slice A1 n1 c1]) (by repeat (with_reducible exact At.z)) 1 _ rfl;have x2:=hS.boxCell (g:=g) (cs:=[.int .i64 ptx,.int .i64 pat,.slice A1 n1 c1]) (by repeat (with_reducible exact At.z)) 2 _ rfl
      go_wp2_with fail
      refine (hS.old (zha ((ins.take k).map In.p) ⟨ptx,pat⟩ A5 _ c5 _ _ (hS.rowRd (by repeat (first|with_reducible exact At.z|apply At.s))) (fun b hb=>hb))).mono ?_;clear hS;rintro e W ⟨rfl,hS⟩
      clear x0 x1 x2
      have x0:=hS.boxCell (g:=g) (cs:=[.int .i64 ptx,.int .i64 pat,.slice A1 n1 c1]) (by repeat (with_reducible exact At.z)) 0 _ rfl;have x1:=hS.boxCell (g:=g) (cs:=[.int .i64 ptx,.int .i64 pat,.slice A1 n1 c1]) (by repeat (with_reducible exact At.z)) 1 _ rfl;have x2:=hS.boxCell (g:=g) (cs:=[.int .i64 ptx,.int .i64 pat,.slice A1 n1 c1]) (by repeat (with_reducible exact At.z)) 2 _ rfl
      cases hmem:zdm ((ins.take k).map In.p) ⟨ptx,pat⟩ with
      | true =>
       have hm:(⟨ptx,pat⟩:Point) ∈ (ins.take k).map In.p:=by simpa [zdm] using hmem
       have HM:=Lib.hid hm
       clear hm hmem
       go_wp2_with fail
       go_ret
       go_light
       exact ⟨zk (R1.out 6 (z077 hs1.out hib0.out ((zri _ _ _).2 HM.out)) (by decide)),hS.sub (by repeat (first|with_reducible exact Sub.refl|apply Sub.skip))⟩
      | false =>
       have hm:¬ (⟨ptx,pat⟩:Point) ∈ (ins.take k).map In.p:=by simpa [zdm] using hmem
       have HM:=Lib.hid hm
       have hts:Hid ((ins.take k).map In.p++[⟨ptx,pat⟩]=(ins.take (k+1)).map In.p):=Lib.hid (by rw [z2i HX.out];simp)
       have hnx:Hid (z13 (ins.drop (k+1)) (ins.take (k+1))=z13 ins []):=Lib.hid (by rw [z2i HX.out];exact z0bu hs1.out hib0.out (fun h=>HM.out ((zri _ _ _).1 h)))
       clear hm hmem
       (go_wp2_with (refine Sep.wbuild1 hS rfl rfl z00y (by decide) (by decide) rfl rfl ?_;clear hS;intro g1 W hS;(try simp only [Act.eval,zY0k,zY2h,zY2a,zY04,zY1y] at hS);refine Stop.go ?_);refine Stop.mk ?_)
       (have hO:=hS.pure (S:=shPoint) (z:=⟨ptx,pat⟩) (cs:=[.int .i64 ptx,.int .i64 pat]) (fun W F=>z0i7 (x:=⟨ptx,pat⟩) j1 j2);clear hS;have hS:=hO;clear hO)
       (go_wp2_with (at_builtin;go_loud (refine Sep.wappend1 hS rfl rfl (S:=shPoint) (z:=⟨ptx,pat⟩) (v:=.slice A5 k c5) (xs:=((ins.take k).map In.p)) rfl rfl (by repeat (first|with_reducible exact Del.z|apply Del.s)) (by repeat (first|with_reducible exact Del.z|apply Del.s)) (by repeat (with_reducible exact At.z)) z00y (by decide) zf6 HSM.out (by decide) ?_);clear hS;intro v1 W hS;refine Stop.go ?_);refine Stop.mk ?_)
       rw [hts.out] at hS
       go_wp2_with fail
       go_roundw
       case measure=>go_light;simp [intOf];omega
       case rel=>go_light;exact ⟨k+1,by omega,by go_num,hnx,hS.sub (by repeat (first|with_reducible exact Sub.refl|refine Sub.take (by repeat (first|with_reducible exact Del.z|apply Del.s)) ?_|apply Sub.skip))⟩
     ·have hb:(z7 key != 0)=true:=by simpa using d5
      have D5:=Lib.hid d5
      clear d5
      go_wp2_with fail
      go_ret
      go_light
      exact ⟨zk (R1.out _ (zrh hs1.out hib.out D5.out) D5.out),hS.sub (by repeat (first|with_reducible exact Sub.refl|apply Sub.skip))⟩
   ·obtain rfl:k=n:=by omega
    have z1:Hid (z13 ins []=0):=Lib.hid (by have:=hs.out;rw [← this,← L1.out,zY21];rfl)
    clear hs
    have b2:=hS.boxCell (g:=gt) (by repeat (first|with_reducible exact At.z|apply At.s)) 2 _ rfl
    go_wp2_with fail
    clear b2
    (have hO:=hS.nilRow shInt 3;clear hS;have hS:=hO;clear hO)
    go_loopw [7,9,10,100] (fun s _ _ i wr=>∃ k:Nat,k≤n2∧i = .int .i64 k∧Hid (z0v (outs.drop k)=z0v outs)∧Sep w0 F0 (row 3 s ((outs.take k).map Out.coin) shInt::rds outs A2 n2 c2 shOut::Γ) wr) (fun _ _ _ i _=>n2 - (intOf i).toNat)
    case atStart=>exact ⟨0,by omega,rfl,Lib.hid (by simp),by rw [List.take_zero,zY30];exact hS.sub (by repeat (first|with_reducible exact Sub.refl|refine Sub.take (by repeat (first|with_reducible exact Del.z|apply Del.s)) ?_|apply Sub.skip))⟩
    case round =>
     clear hS
     obtain ⟨k,hk,rfl,hs,hS⟩:=hrel
     obtain ⟨A5,c5,hv5,-⟩:=hS.rowRds (S:=shInt) At.z
     have h5:((outs.take k).map Out.coin).length=k:=by have:=L2.out;simp;omega
     rw [h5] at hv5
     subst hv5
     rcases Classical.em (k<n2) with hlt|hlt
     ·have hsm:((outs.take k).map Out.coin).length≤1000000:=by rw [h5];omega
      have HSM:=Lib.hid hsm
      clear h5 hsm
      (have hO:=hS.elemOut (xs:=outs) (by repeat (first|with_reducible exact At.z|apply At.s)) hlt;clear hS;obtain ⟨b,off,x,A1,n1,c1,rfl,hx,j1,hS⟩:=hO)
      have hs1:Hid (z0v (x::outs.drop (k+1))=z0v outs):=Lib.hid (by rw [← z27 hx];exact hs.out)
      have HX:=Lib.hid hx
      have k1:(0:Int)≤(k:Int):=by omega
      have k2:(k:Int)<(n2:Int):=by omega
      clear hs hx
      obtain ⟨xc,xl⟩:=x
      simp only at j1 hS
      (go_wp2_with (first|(refine Sep.wloadNz hS (by rfl) rfl rfl (by repeat (first|with_reducible exact At.z|apply At.s)) (z3j rfl) ?_)|(refine Sep.walloc hS (by rfl) rfl (by first|exact zk5|exact z0kk) ?_;clear hS;intro g W hS)|(refine Sep.wstoreNb hS (by rfl) rfl rfl rfl (z3j rfl) (by simp [zce,Value.oneCell']) (by repeat (first|with_reducible exact At.z|apply At.s)) (by rfl) (by repeat (first|with_reducible exact Put.z|apply Put.s)) ?_;clear hS;intro W hS;refine Stop.go ?_));refine Stop.mk ?_)
      have x0:=hS.boxCell (g:=g) (cs:=[.int .i64 xc,.slice A1 n1 c1]) (by repeat (with_reducible exact At.z)) 0 _ rfl;have x1:=hS.boxCell (g:=g) (cs:=[.int .i64 xc,.slice A1 n1 c1]) (by repeat (with_reducible exact At.z)) 1 _ rfl
      rcases Classical.em (xc<1) with d1|d1
      ·go_wp2_with fail
       go_ret
       go_light
       exact ⟨zk (R2.out z1.out 3 (zm5 hs1.out (show z3h _=3 by unfold z3h;rw [if_pos d1]) (by decide)) (by decide)),hS.sub (by repeat (first|with_reducible exact Sub.refl|apply Sub.skip))⟩
      have hib:Hid (z3h ⟨xc,xl⟩=z7 xl):=Lib.hid (by unfold z3h;rw [if_neg d1])
      go_wp2_with fail
      refine (hS.old (zfk xl A1 n1 c1 _ _ (hS.ltsRds (by repeat (first|with_reducible exact At.z|apply At.s))) (fun b hb=>hb))).mono ?_;clear hS;rintro e W ⟨rfl,hS⟩
      clear x0 x1
      rcases Classical.em (z7 xl=0) with d5|d5
      ·have hnx:Hid (z0v (outs.drop (k+1))=z0v outs):=Lib.hid (z078 hs1.out (hib.out.trans d5))
       have hts:Hid ((outs.take k).map Out.coin++[xc]=(outs.take (k+1)).map Out.coin):=Lib.hid (by rw [z2i HX.out];simp)
       rw [d5]
       clear d5
       have x0:=hS.boxCell (g:=g) (cs:=[.int .i64 xc,.slice A1 n1 c1]) (by repeat (with_reducible exact At.z)) 0 _ rfl;have x1:=hS.boxCell (g:=g) (cs:=[.int .i64 xc,.slice A1 n1 c1]) (by repeat (with_reducible exact At.z)) 1 _ rfl
       (go_wp2_with (refine Sep.wbuild1 hS rfl rfl z0fe (by decide) (by decide) rfl rfl ?_;clear hS;intro g1 W hS;(try simp only [Act.eval,zY0k,zY2h,zY2a,zY04,zY1y] at hS);refine Stop.go ?_);refine Stop.mk ?_)
       (have hO:=hS.pure (S:=shInt) (z:=xc) (cs:=[.int .i64 xc]) (fun W F=>⟨rfl,j1⟩);clear hS;have hS:=hO;clear hO)
       (go_wp2_with (at_builtin;go_loud (refine Sep.wappend1 hS rfl rfl (S:=shInt) (z:=xc) (v:=.slice A5 k c5) (xs:=((outs.take k).map Out.coin)) rfl rfl (by repeat (first|with_reducible exact Del.z|apply Del.s)) (by repeat (first|with_reducible exact Del.z|apply Del.s)) (by repeat (with_reducible exact At.z)) z0fe (by decide) z6r HSM.out (by decide) ?_);clear hS;intro v1 W hS;refine Stop.go ?_);refine Stop.mk ?_)
       rw [hts.out] at hS
       go_wp2_with fail
       go_roundw
       case measure=>go_light;simp [intOf];omega
       case rel=>go_light;exact ⟨k+1,by omega,by go_num,hnx,hS.sub (by repeat (first|with_reducible exact Sub.refl|refine Sub.take (by repeat (first|with_reducible exact Del.z|apply Del.s)) ?_|apply Sub.skip))⟩
      ·have hb:(z7 xl != 0)=true:=by simpa using d5
       have D5:=Lib.hid d5
       clear d5
       go_wp2_with fail
       go_ret
       go_light
       exact ⟨zk (R2.out z1.out _ (zm5 hs1.out hib.out D5.out) D5.out),hS.sub (by repeat (first|with_reducible exact Sub.refl|apply Sub.skip))⟩
     ·obtain rfl:k=n2:=by omega
      have z2:Hid (z0v outs=0):=Lib.hid (by have:=hs.out;rw [← this,← L2.out,zY21];rfl)
      have hall:(outs.take k).map Out.coin=outs.map Out.coin:=by rw [← L2.out,zY1a]
      rw [hall] at hS
      clear hs h5 hall
      have HL:Hid ((outs.map Out.coin).length=k):=Lib.hid (by have:=L2.out;simpa using this)
      go_wp2_with fail
      refine (hS.oldS (z0ey (outs.map Out.coin) A5 k c5 _ _ (hS.rowRd (by repeat (with_reducible exact At.z))))).mono ?_
      clear hS;rintro e W ⟨rfl,hS⟩
      have hfin:Hid ((z3x (outs.map Out.coin)).2=R):=Lib.hid (R3.out z1.out z2.out)
      generalize z3x (outs.map Out.coin)=q at *
      obtain ⟨q1,q2⟩:=q
      go_wp2_with fail
      go_ret
      go_light
      exact ⟨zk hfin.out,hS.sub (by repeat (first|with_reducible exact Sub.refl|apply Sub.skip))⟩
end
section
open Go.RowKit
set_option maxRecDepth 100000
theorem z0gc {h:Int} {x:Tx} {l:List Tx} {i:Nat} {r m:Int} (e:z45 h (x::l) i=r) (hb:zf x=m) (hm:m≠0):m=r:=by rw [← e,z45,hb,if_pos hm]
theorem z0gd {h:Int} {x:Tx} {l:List Tx} {i:Nat} {r:Int} (e:z45 h (x::l) i=r) (hb:zf x=0) (ho:z3g h x i):4=r:=by rw [← e,z45,hb,if_neg (by simp),if_pos ho]
theorem z0cn {h:Int} {x:Tx} {l:List Tx} {i:Nat} {r:Int} (e:z45 h (x::l) i=r) (hb:zf x=0) (ho:¬ z3g h x i):z45 h l (i+1)=r:=by rw [← e,z45,hb,if_neg (by simp),if_neg ho]
theorem Sep.elemT {w0 W:World} {F0:Nat→Prop} {Γ:List Res} (h:Sep w0 F0 Γ W) {xs:List Tx} {A:Option Addr} {n c i:Nat} (hm:At Γ (rds xs A n c shTx)) (hi:i<n) :
  ∃ b off z A1 n1 c1 A2 n2 c2,A=some ⟨b,off,none⟩∧xs[i]? = some z∧I64 z.height∧z.ins.length=n1∧Sep w0 F0 (cells b (off+i * 3) [.int .i64 z.height,.slice A1 n1 c1,.slice A2 n2 c2]::rep z [.int .i64 z.height,.slice A1 n1 c1,.slice A2 n2 c2] shTx::Γ) W:=by
 obtain ⟨b,off,z,cs,e,hz,hS⟩:=h.elem hm hi;obtain ⟨A1,n1,c1,A2,n2,c2,rfl,h1,hS'⟩:=hS.open_tx (At.s At.z);rw [show shTx.size=3 from rfl] at hS;exact ⟨b,off,z,A1,n1,c1,A2,n2,c2,e,hz,h1,(hS'.len At.z).1,hS⟩
set_option maxHeartbeats 4000000 in
theorem z0jn (x:Block) (cs:List Value) {w0 W:World} {F0:Nat→Prop} {Γ:List Res} (hS:Sep w0 F0 Γ W) (ht:At Γ (rep x cs shBlock)) :
  Calls Tryz.prog 26 #[.agg cs.toArray] W (RV w0 F0 Γ (.int .i64 (zq x))):=by
 obtain ⟨R,hR⟩:∃ R,R=zq x:=⟨_,rfl⟩
 rw [← hR]
 (have hO:=hS.open_block ht;clear hS;obtain ⟨A,n,c,rfl,i1,i2,i3,i4,hS⟩:=hO)
 obtain ⟨bp,bh,bw,bn,txs⟩:=x
 simp only at hS i1 i2 i3 i4
 obtain ⟨hl,hn,hc⟩:=hS.len (xs:=txs) (by repeat (with_reducible exact At.z))
 have L:=Lib.hid hl
 have B3:Hid ((bp<0∨120<bp∨bh<1∨1000<bh∨bw<1∨1000<bw∨bn<0∨1000000000<bn)→3=R):=Lib.hid (fun h=>by rw [hR,zq,z69,if_pos (show z4f ⟨bp,bh,bw,bn,txs⟩ from h),if_pos (by decide)])
 have B2:Hid (¬ (bp<0∨120<bp∨bh<1∨1000<bh∨bw<1∨1000<bw∨bn<0∨1000000000<bn)→4<n→2=R):=Lib.hid (fun h h2=>by rw [hR,zq,z69,if_neg (show ¬ z4f ⟨bp,bh,bw,bn,txs⟩ from h),if_pos (show 4<txs.length by omega),if_pos (by decide)])
 have B4:Hid (¬ (bp<0∨120<bp∨bh<1∨1000<bh∨bw<1∨1000<bw∨bn<0∨1000000000<bn)→¬ 4<n→n=0→4=R):=Lib.hid (fun h h2 h3=>by rw [hR,zq,z69,if_neg (show ¬ z4f ⟨bp,bh,bw,bn,txs⟩ from h),if_neg (show ¬ 4<txs.length by omega),if_pos (show txs.length=0 by omega),if_pos (by decide)])
 have BG:Hid (¬ (bp<0∨120<bp∨bh<1∨1000<bh∨bw<1∨1000<bw∨bn<0∨1000000000<bn)→¬ 4<n→¬ n=0→z45 bh txs 0=R):=Lib.hid (fun h h2 h3=>by rw [hR,zq,z69,if_neg (show ¬ z4f ⟨bp,bh,bw,bn,txs⟩ from h),if_neg (show ¬ 4<txs.length by omega),if_neg (show ¬ txs.length=0 by omega),if_neg (by decide)])
 clear hR hl
 go_enter Tryz.func26,Tryz.ntmps26
 (go_wp2_with ((refine Sep.wbox hS (by rfl) rfl rfl ?_;clear hS;intro gt W hS;refine Stop.go ?_));refine Stop.mk ?_)
 have b0:=hS.boxCell (g:=gt) (by repeat (with_reducible exact At.z)) 0 _ rfl;have b1:=hS.boxCell (g:=gt) (by repeat (with_reducible exact At.z)) 1 _ rfl;have b2:=hS.boxCell (g:=gt) (by repeat (with_reducible exact At.z)) 2 _ rfl;have b3:=hS.boxCell (g:=gt) (by repeat (with_reducible exact At.z)) 3 _ rfl;have b4:=hS.boxCell (g:=gt) (by repeat (with_reducible exact At.z)) 4 _ rfl
 rcases Classical.em (bp<0) with p1|p1
 ·go_wp2_with fail;go_ret;go_light;exact ⟨zk (B3.out (by omega)),hS.sub (by repeat (first|with_reducible exact Sub.refl|apply Sub.skip))⟩
 rcases Classical.em (120<bp) with p2|p2
 ·go_wp2_with fail;go_ret;go_light;exact ⟨zk (B3.out (by omega)),hS.sub (by repeat (first|with_reducible exact Sub.refl|apply Sub.skip))⟩
 rcases Classical.em (bh<1) with p3|p3
 ·go_wp2_with fail;go_ret;go_light;exact ⟨zk (B3.out (by omega)),hS.sub (by repeat (first|with_reducible exact Sub.refl|apply Sub.skip))⟩
 rcases Classical.em (1000<bh) with p4|p4
 ·go_wp2_with fail;go_ret;go_light;exact ⟨zk (B3.out (by omega)),hS.sub (by repeat (first|with_reducible exact Sub.refl|apply Sub.skip))⟩
 rcases Classical.em (bw<1) with p5|p5
 ·go_wp2_with fail;go_ret;go_light;exact ⟨zk (B3.out (by omega)),hS.sub (by repeat (first|with_reducible exact Sub.refl|apply Sub.skip))⟩
 rcases Classical.em (1000<bw) with p6|p6
 ·go_wp2_with fail;go_ret;go_light;exact ⟨zk (B3.out (by omega)),hS.sub (by repeat (first|with_reducible exact Sub.refl|apply Sub.skip))⟩
 rcases Classical.em (bn<0∨1000000000<bn) with p7|p7
 ·have q:z48 bn=false:=by unfold z48;simp;omega
  have P7:=Lib.hid p7
  clear p7
  go_wp2_with fail
  refine (z6x bn W).mono ?_;rintro e w' ⟨rfl,rfl⟩
  rw [q]
  go_wp2_with fail
  go_ret
  go_light
  exact ⟨zk (B3.out (by have:=P7.out;omega)),hS.sub (by repeat (first|with_reducible exact Sub.refl|apply Sub.skip))⟩
 have q:z48 bn=true:=by unfold z48;simp;omega
 have P:Hid (¬ (bp<0∨120<bp∨bh<1∨1000<bh∨bw<1∨1000<bw∨bn<0∨1000000000<bn)):=Lib.hid (by omega)
 clear p7
 go_wp2_with fail
 refine (z6x bn W).mono ?_;rintro e w' ⟨rfl,rfl⟩
 rw [q]
 clear q
 rcases Classical.em ((4:Int)<(n:Int)) with g1|g1
 ·go_wp2_with fail
  go_ret
  go_light
  exact ⟨zk (B2.out P.out (by omega)),hS.sub (by repeat (first|with_reducible exact Sub.refl|apply Sub.skip))⟩
 rcases Classical.em (n=0) with g2|g2
 ·have q3:((n:Int) == 0)=true:=by simp [g2]
  have G2:=Lib.hid g2
  clear g2
  go_wp2_with fail
  go_ret
  go_light
  exact ⟨zk (B4.out P.out (by omega) G2.out),hS.sub (by repeat (first|with_reducible exact Sub.refl|apply Sub.skip))⟩
 have q3:((n:Int) == 0)=false:=by simp;omega
 have HG:=Lib.hid (BG.out P.out (by omega) g2)
 clear B2 B3 B4 BG P g2 p1 p2 p3 p4 p5 p6
 go_wp2_with fail
 clear b0 b1 b2 b3 b4 q3
 go_loopw [3,4,5,6,52] (fun _ _ _ _ i wr=>∃ k:Nat,k≤n∧i = .int .i64 k∧Hid (z45 bh (txs.drop k) k=R)∧Sep w0 F0 (box gt [.int .i64 bp,.int .i64 bh,.int .i64 bw,.int .i64 bn,.slice A n c] 49::rds txs A n c shTx::Γ) wr) (fun _ _ _ _ i _=>n - (intOf i).toNat)
 case atStart=>exact ⟨0,by omega,rfl,HG,hS.sub (by repeat (with_reducible exact Sub.refl))⟩
 case round =>
  clear hS HG
  obtain ⟨k,hk,rfl,hs,hS⟩:=hrel
  rcases Classical.em (k<n) with hlt|hlt
  ·(have hO:=hS.elemT (xs:=txs) (by repeat (first|with_reducible exact At.z|apply At.s)) hlt;clear hS;obtain ⟨b,off,x,A1,n1,c1,A2,n2,c2,rfl,hx,j1,hn1,hS⟩:=hO)
   have hs1:Hid (z45 bh (x::txs.drop (k+1)) k=R):=Lib.hid (by rw [← z27 hx];exact hs.out)
   have k1:(0:Int)≤(k:Int):=by omega
   have k2:(k:Int)<(n:Int):=by omega
   have N1:=Lib.hid hn1
   clear hs hx hn1
   (go_wp2_with (first|(refine Sep.wloadNz hS (by rfl) rfl rfl (by repeat (first|with_reducible exact At.z|apply At.s)) (z3j rfl) ?_)|(refine Sep.walloc hS (by rfl) rfl (by first|exact zk5|exact z_tx) ?_;clear hS;intro g W hS)|(refine Sep.wstoreNb hS (by rfl) rfl rfl rfl (z3j rfl) (by simp [zce,Value.oneCell']) (by repeat (first|with_reducible exact At.z|apply At.s)) (by rfl) (by repeat (first|with_reducible exact Put.z|apply Put.s)) ?_;clear hS;intro W hS;refine Stop.go ?_));refine Stop.mk ?_)
   have x0:=hS.boxCell (g:=g) (cs:=[.int .i64 x.height,.slice A1 n1 c1,.slice A2 n2 c2]) (by repeat (with_reducible exact At.z)) 0 _ rfl;have x1:=hS.boxCell (g:=g) (cs:=[.int .i64 x.height,.slice A1 n1 c1,.slice A2 n2 c2]) (by repeat (with_reducible exact At.z)) 1 _ rfl;have x2:=hS.boxCell (g:=g) (cs:=[.int .i64 x.height,.slice A1 n1 c1,.slice A2 n2 c2]) (by repeat (with_reducible exact At.z)) 2 _ rfl
   go_wp2_with fail
   refine (z0aa x [_,_,_] hS (by repeat (first|with_reducible exact At.z|apply At.s))).mono ?_
   clear hS x0 x1 x2;rintro e W ⟨rfl,hS⟩
   rcases Classical.em (zf x=0) with d1|d1
   ·have D1:=Lib.hid d1
    rw [d1]
    clear d1
    have x0:=hS.boxCell (g:=g) (cs:=[.int .i64 x.height,.slice A1 n1 c1,.slice A2 n2 c2]) (by repeat (with_reducible exact At.z)) 0 _ rfl;have x1:=hS.boxCell (g:=g) (cs:=[.int .i64 x.height,.slice A1 n1 c1,.slice A2 n2 c2]) (by repeat (with_reducible exact At.z)) 1 _ rfl;have x2:=hS.boxCell (g:=g) (cs:=[.int .i64 x.height,.slice A1 n1 c1,.slice A2 n2 c2]) (by repeat (with_reducible exact At.z)) 2 _ rfl
    have b1:=hS.boxCell (g:=gt) (cs:=[.int .i64 bp,.int .i64 bh,.int .i64 bw,.int .i64 bn,.slice (some ⟨b,off,none⟩) n c]) (by repeat (first|with_reducible exact At.z|apply At.s)) 1 _ rfl
    go_upto_region 13 with fail
    go_cut [6] (fun d wx=>(∃ e:Bool,d = .bool e∧Hid (e=decide (n1=0)))∧wx=W)
    case first =>
     go_wp2_with fail
     go_meet
     go_light
     exact ⟨⟨_,rfl,Lib.hid (by rw [Bool.eq_iff_iff];simp)⟩,rfl⟩
    case rest =>
     obtain ⟨⟨e,rfl,he⟩,rfl⟩:=hcut
     go_upto_region 14 with fail
     go_cut [85] (fun c wx=>c = .bool (decide (z3g bh x k))∧wx=wc)
     case first =>
      rcases Classical.em (k=0) with h1|h1
      ·have q1:((k:Int) == 0)=true:=by simp [h1]
       have q2:¬ (0:Int)<(k:Int):=by omega
       have q2n:¬ 0<k:=by omega
       cases e with
       | true =>
        have h2:n1=0:=by simpa using he.out
        rcases Classical.em (x.height=bh) with h3|h3
        ·have q4:(x.height != bh)=false:=by simp [h3]
         have V:Hid (¬ z3g bh x k):=Lib.hid (by have:=N1.out;unfold z3g;omega)
         clear h1 h2 h3
         go_wp2_with fail;go_meet;go_light;(refine ⟨?_,rfl⟩);(rw [decide_eq_false V.out])
        ·have q4:(x.height != bh)=true:=by simpa using h3
         have V:Hid (z3g bh x k):=Lib.hid (by have:=N1.out;unfold z3g;omega)
         clear h1 h2 h3
         go_wp2_with fail;go_meet;go_light;(refine ⟨?_,rfl⟩);(rw [decide_eq_true V.out])
       | false =>
        have h2:¬ n1=0:=by simpa using he.out
        have V:Hid (z3g bh x k):=Lib.hid (by have:=N1.out;unfold z3g;omega)
        clear h1 h2
        go_wp2_with fail;go_meet;go_light;(refine ⟨?_,rfl⟩);(rw [decide_eq_true V.out])
      ·have q1:((k:Int) == 0)=false:=by simp;omega
       have q2:(0:Int)<(k:Int):=by omega
       have q2n:0<k:=by omega
       cases e with
       | true =>
        have h2:n1=0:=by simpa using he.out
        have V:Hid (z3g bh x k):=Lib.hid (by have:=N1.out;unfold z3g;omega)
        clear h1 h2
        go_wp2_with fail;go_meet;go_light;(refine ⟨?_,rfl⟩);(rw [decide_eq_true V.out])
       | false =>
        have h2:¬ n1=0:=by simpa using he.out
        have V:Hid (¬ z3g bh x k):=Lib.hid (by have:=N1.out;unfold z3g;omega)
        clear h1 h2
        go_wp2_with fail;go_meet;go_light;(refine ⟨?_,rfl⟩);(rw [decide_eq_false V.out])
     case rest =>
      obtain ⟨rfl,rfl⟩:=hcut
      rcases Classical.em (z3g bh x k) with o1|o1
      ·rw [decide_eq_true o1]
       have O1:=Lib.hid o1
       clear o1
       go_wp2_with fail
       go_ret
       go_light
       exact ⟨zk (z0gd hs1.out D1.out O1.out),hS.sub (by repeat (first|with_reducible exact Sub.refl|apply Sub.skip))⟩
      ·rw [decide_eq_false o1]
       have hnx:=Lib.hid (z0cn hs1.out D1.out o1)
       clear o1
       go_wp2_with fail
       go_roundw
       case measure=>go_light;simp [intOf];omega
       case rel=>go_light;exact ⟨k+1,by omega,by go_num,hnx,hS.sub (by repeat (first|with_reducible exact Sub.refl|refine Sub.take (by repeat (first|with_reducible exact Del.z|apply Del.s)) ?_|apply Sub.skip))⟩
   ·have hb:(zf x != 0)=true:=by simpa using d1
    have D1:=Lib.hid d1
    clear d1
    go_wp2_with fail
    go_ret
    go_light
    exact ⟨zk (z0gc hs1.out rfl D1.out),hS.sub (by repeat (first|with_reducible exact Sub.refl|apply Sub.skip))⟩
  ·obtain rfl:k=n:=by omega
   have hz:Hid (0=R):=Lib.hid (by have:=hs.out;rw [← L.out,zY21] at this;exact this)
   go_wp2_with fail
   go_ret
   exact ⟨zk hz.out,hS.sub (by repeat (first|with_reducible exact Sub.refl|apply Sub.skip))⟩
end
end Go.Proofs.YtaddehddalnliaaGreatDoor
