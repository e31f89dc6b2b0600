/- Own texts, put together by wip/bundle.py: RefOps, Point, RefTx. -/
import Derived.BigQuiet
import Derived.Outline
import Derived.Deep.Light
import Derived.Deep.DeepCutAuto
import Derived.Test.YtmjelcjgllkapaaGreatDoorCMOwnB
set_option linter.unusedVariables false
set_option linter.unusedSimpArgs false
set_option maxRecDepth 100000
set_option maxHeartbeats 8000000
namespace Go.Proofs.YtmjelcjgllkapaaGreatDoor
open Go.RowKit
theorem z03y(xs:List Op)(A:Option Addr)(n c:Nat)(w:World)(F:Nat->Prop)(h:Rds shOp w F xs A n c)(hF:∀b,F b->b<w.heap.size) :
  Calls Tryz.prog 56 #[.slice A n c] w λe w'=>e=.returned (.int .i64 (zb xs))/\Below w.heap.size w w':=by
 have hn:=h.2.1;have hc:=h.2.2.1;have hl:=h.1;by_cases h16:16<n
 ·have e:zb xs=2:=by simp only[zb];rw[zP zX0]
  rw[e];clear e hl;go_enter Tryz.func56,Tryz.ntmps56;go_wp2;go_ret;exact⟨rfl,Below.refl _ _⟩
 ·have e:zb xs=z67 xs:=by simp only[zb];rw[zN zX0]
  rw[e];have HR:=Lib.hid h;have HLN:=Lib.hid hl;clear e hl h;go_enter Tryz.func56,Tryz.ntmps56;go_wp2;go_loopw [4,10] (λ_ i wr=>∃k:Nat,k<=n/\i=.int .i64 k/\Below w.heap.size w wr/\z67 (xs.drop k)=z67 xs) (λ_ i _=>n-(intOf i).toNat);case atStart=>exact⟨0,by omega,rfl,Below.refl _ _,rfl⟩
  case round =>
   obtain⟨k,hk,rfl,hb,hs⟩:=hrel;by_cases hlt:k<n
   ·obtain⟨b,off,x,rfl,hFb,hx,⟨hc1,hc2⟩,-,-⟩:=HR.out.op hlt;rw[z59 hx,z67]at hs;rw[<- hb.cell (p:=⟨b,off+k*2,none⟩) (hF b hFb)]at hc1;rw[<- hb.cell (p:=⟨b,off+k*2+1,none⟩) (hF b hFb)]at hc2;have HB:=Lib.hid (hb.alloc hb.size (.cells #[.int .i64 x.kind,.int .i64 x.n] 90));clear hx hb;have i1:(0:Int)<=(k:Int):=zX0;have i2:(k:Int)<(n:Int):=zX0;obtain⟨xk,xn⟩:=x;simp only at hc1 hc2 HB;rcases Classical.em (xk<1\/13<xk)with hk1|hk1
    ·have e:z4o ⟨xk,xn⟩=4:=by simp only[z4o];rw[zP hk1]
     rw[e,zP zX9]at hs;have HS:=Lib.hid hs;clear hs e;rcases Classical.em (xk<1)with hk2|hk2
     ·clear hk1;go_wp2;go_ret;exact⟨z0u HS.out,HB.out⟩
     ·have hk3:13<xk:=zX0;clear hk1;go_wp2;go_ret;exact⟨z0u HS.out,HB.out⟩
    ·have g1:¬xk<1:=zX0;have g2:¬13<xk:=zX0;have e0:z4o ⟨xk,xn⟩=if(xk≠1/\xn≠0)\/xn < -1000000\/1000000<xn then 3 else 0:=by simp only[z4o];rw[zN hk1]
     rw[e0]at hs;clear hk1 e0;rcases Classical.em ((xk≠1/\xn≠0)\/xn < -1000000\/1000000<xn)with h3|h3
     ·rw[zP h3,zP zX9]at hs;have HS:=Lib.hid hs;clear hs;rcases Classical.em (xn < -1000000)with h6|h6
      ·clear h3;go_wp2;go_ret;exact⟨z0u HS.out,HB.out⟩
      ·rcases Classical.em (1000000<xn)with h7|h7
       ·clear h3;go_wp2;go_ret;exact⟨z0u HS.out,HB.out⟩
       ·have h4:xk≠1/\xn≠0:=zX0;have k1:(xk != 1)=true:=by simpa using h4.1
        have k2:(xn != 0)=true:=by simpa using h4.2
        clear h3 h4;go_wp2;go_ret;exact⟨z0u HS.out,HB.out⟩
     ·rw[zN h3,zN zX9]at hs;have HS:=Lib.hid hs;clear hs;have h6:¬xn < -1000000:=zX0;have h7:¬1000000<xn:=zX0;by_cases h5:xk=1
      ·subst h5;clear h3;go_wp2;go_roundw;case measure=>simp[intOf];omega
       case rel=>exact⟨k+1,by omega,by go_num,HB.out,HS.out⟩
      ·obtain rfl:xn=0:=zX0;have k1:(xk != 1)=true:=by simpa using h5
       clear h3 h5;go_wp2;go_roundw;case measure=>simp[intOf];omega
       case rel=>exact⟨k+1,by omega,by go_num,HB.out,HS.out⟩
   ·obtain rfl:k=n:=zX0;rw[zY1m zX1k,z67]at hs;have HS:=Lib.hid hs;clear hs;go_wp2;go_ret;exact⟨z0u HS.out,hb⟩
theorem Sep.boxCell{w0 W:World}{F0:Nat->Prop}{Γ:List Res}(h:Sep w0 F0 Γ W){g t:Nat}{cs:List Value}(hm:At Γ (box g cs t))(i:Nat)(v:Value)(hv:cs[i]?=some v):W.cell? ⟨g,i,none⟩=some v:=by have:=h.boxAt hm i v hv;rwa [zY0z]at this
theorem Sep.elemIn{w0 W:World}{F0:Nat->Prop}{Γ:List Res}(h:Sep w0 F0 Γ W){xs:List In}{A:Option Addr}{n c i:Nat}(hm:At Γ (rds xs A n c shIn))(hi:i<n) :
  ∃b off z A1 n1 c1,A=some ⟨b,off,none⟩/\xs[i]?=some z/\I64 z.p.tx/\I64 z.p.at_/\Sep w0 F0 (cells b (off+i*3) [.int .i64 z.p.tx,.int .i64 z.p.at_,.slice A1 n1 c1]::rds z.key A1 n1 c1 shOp::Γ) W:=by
 obtain⟨b,off,z,cs,e,hz,hS⟩:=h.elem hm hi;obtain⟨A1,n1,c1,rfl,h1,h2,hS⟩:=hS.open_in (At.s At.z);rw[show shIn.size=3 from rfl]at hS;exact⟨b,off,z,A1,n1,c1,e,hz,h1,h2,hS.sub (Sub.take (Del.s Del.z) (Sub.take Del.z (Sub.skip Sub.refl)))⟩
theorem Sep.elemOut{w0 W:World}{F0:Nat->Prop}{Γ:List Res}(h:Sep w0 F0 Γ W){xs:List Out}{A:Option Addr}{n c i:Nat}(hm:At Γ (rds xs A n c shOut))(hi:i<n) :
  ∃b off z A1 n1 c1,A=some ⟨b,off,none⟩/\xs[i]?=some z/\I64 z.coin/\Sep w0 F0 (cells b (off+i*2) [.int .i64 z.coin,.slice A1 n1 c1]::rds z.lock A1 n1 c1 shOp::Γ) W:=by
 obtain⟨b,off,z,cs,e,hz,hS⟩:=h.elem hm hi;obtain⟨A1,n1,c1,rfl,h1,hS⟩:=hS.open_out (At.s At.z);rw[show shOut.size=2 from rfl]at hS;exact⟨b,off,z,A1,n1,c1,e,hz,h1,hS.sub (Sub.take (Del.s Del.z) (Sub.take Del.z (Sub.skip Sub.refl)))⟩
end Go.Proofs.YtmjelcjgllkapaaGreatDoor
