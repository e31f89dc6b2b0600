/- Own texts, put together by wip/bundle.py: Same, SameTx, SameBlk. -/
import Derived.BigQuiet
import Derived.Test.YtgkfhlnklienoaaGreatDoorBPOwnB
import Derived.Test.YtgkfhlnklienoaaGreatDoorBPOwnR
set_option linter.unusedVariables false
set_option linter.unusedSimpArgs false
namespace Go.Proofs.YtgkfhlnklienoaaGreatDoor
section
open Go.RowKit
set_option maxRecDepth 100000
theorem z04w {α:Type} [DecidableEq α] (xs ys:List α):eqB xs ys=decide (xs=ys):=rfl
theorem z037 {x y:Out}:x=y↔x.coin=y.coin∧x.lock=y.lock:=by cases x;cases y;simp
set_option maxHeartbeats 400000 in
theorem zfw (x y:Out) (cx cy:List Value) {w0 W:World} {F0:Nat→Prop} {Γ:List Res} (hS:Sep w0 F0 Γ W) (hx:At Γ (rep x cx shOut)) (hy:At Γ (rep y cy shOut)) :
  Calls Tryz.prog 139 #[.agg cx.toArray,.agg cy.toArray] W (RV w0 F0 Γ (.bool (decide (x=y)))):=by
 (have hO:=hS.open_out hx;clear hS;obtain ⟨A,n,c,rfl,i1,hS⟩:=hO)
 (have hO:=hS.open_out (At.s hy);clear hS;obtain ⟨A2,n2,c2,rfl,i2,hS⟩:=hO)
 go_enter Tryz.func139,Tryz.ntmps139
 (go_wp2_with ((refine Sep.wbox hS (by rfl) rfl rfl ?_;clear hS;intro ga W hS;refine Stop.go ?_));refine Stop.mk ?_)
 (go_wp2_with ((refine Sep.wbox hS (by rfl) rfl rfl ?_;clear hS;intro gb W hS;refine Stop.go ?_));refine Stop.mk ?_)
 have a0:=hS.boxCell (g:=ga) (by repeat (first|with_reducible exact At.z|apply At.s)) 0 _ rfl
 have a1:=hS.boxCell (g:=ga) (by repeat (first|with_reducible exact At.z|apply At.s)) 1 _ rfl
 have b0:=hS.boxCell (g:=gb) (by repeat (with_reducible exact At.z)) 0 _ rfl
 have b1:=hS.boxCell (g:=gb) (by repeat (with_reducible exact At.z)) 1 _ rfl
 rcases Classical.em (x.coin=y.coin) with h1|h1
 ·have q:(x.coin == y.coin)=true:=by simp [h1]
  have H1:=Lib.hid h1
  clear h1
  go_wp2_with fail
  refine (hS.oldN (zi0 x.lock y.lock _ _ _ _ _ _ _ _ _ (hS.ltsRds (by repeat (first|with_reducible exact At.z|apply At.s))) (hS.ltsRds (by repeat (first|with_reducible exact At.z|apply At.s))))).mono ?_;clear hS;rintro e W ⟨rfl,hS⟩
  go_wp2_with fail
  go_ret
  go_light
  exact ⟨z03 (by have:=H1.out;simp [z04w,z037,this]),hS.sub (by repeat (first|with_reducible exact Sub.refl|apply Sub.skip))⟩
 ·have q:(x.coin == y.coin)=false:=by simpa using h1
  have H1:=Lib.hid h1
  clear h1
  go_wp2_with fail
  go_ret
  go_light
  exact ⟨z03 (by have:=H1.out;simp [z037,this]),hS.sub (by repeat (first|with_reducible exact Sub.refl|apply Sub.skip))⟩
theorem Sep.elemOutR {w0 W:World} {F0:Nat→Prop} {Γ:List Res} (h:Sep w0 F0 Γ W) {xs:List Out} {A:Option Addr} {n c i:Nat} (hm:At Γ (rds xs A n c shOut)) (hi:i<n) :
  ∃ b off z A1 n1 c1,A=some ⟨b,off,none⟩∧xs[i]? = some z∧Sep w0 F0 (cells b (off+i * 2) [.int .i64 z.coin,.slice A1 n1 c1]::rep z [.int .i64 z.coin,.slice A1 n1 c1] shOut::Γ) W:=by
 obtain ⟨b,off,z,cs,e,hz,hS⟩:=h.elem hm hi
 obtain ⟨A1,n1,c1,rfl,h1,hS'⟩:=hS.open_out (At.s At.z)
 rw [show shOut.size=2 from rfl] at hS
 exact ⟨b,off,z,A1,n1,c1,e,hz,hS⟩
set_option maxHeartbeats 1000000 in
theorem zpr (xs ys:List Out) (A:Option Addr) (n c:Nat) (A':Option Addr) (n' c':Nat) {w0 W:World} {F0:Nat→Prop} {Γ:List Res} (hS:Sep w0 F0 Γ W) (h1:At Γ (rds xs A n c shOut)) (h2:At Γ (rds ys A' n' c' shOut)) :
  Calls Tryz.prog 138 #[.slice A n c,.slice A' n' c',.func (.func 139) #[] #[]] W (RV w0 F0 Γ (.bool (eqB xs ys))):=by
 obtain ⟨hl1,hn1,hc1⟩:=hS.len h1
 obtain ⟨hl2,hn2,hc2⟩:=hS.len h2
 rcases Classical.em (n=n') with hn|hn
 ·subst hn
  have L1:=Lib.hid hl1
  have L2:=Lib.hid hl2
  clear hl1 hl2
  go_enter Tryz.func138,Tryz.ntmps138
  go_wp2_with fail
  go_loopw [7,8,9,17] (fun _ _ _ i wr=>∃ k:Nat,k≤n∧i = .int .i64 k∧Hid (xs.take k=ys.take k)∧Sep w0 F0 Γ wr) (fun _ _ _ i _=>n - (intOf i).toNat)
  case atStart=>exact ⟨0,by omega,rfl,Lib.hid rfl,hS⟩
  case round =>
   clear hS
   obtain ⟨k,hk,rfl,hs,hS⟩:=hrel
   rcases Classical.em (k<n) with hlt|hlt
   ·(have hO:=hS.elemOutR h1 hlt;clear hS;obtain ⟨b,off,x,A1,n1,c1,rfl,hx,hS⟩:=hO)
    (have hO:=hS.elemOutR (At.s (At.s h2)) hlt;clear hS;obtain ⟨b',off',y,A2,n2,c2,rfl,hy,hS⟩:=hO)
    have HX:=Lib.hid hx
    have HY:=Lib.hid hy
    have k1:(0:Int)≤(k:Int):=by omega
    have k2:(k:Int)<(n:Int):=by omega
    clear hx hy
    (go_wp2_with (first|(refine Sep.wloadNz hS (by rfl) rfl rfl (by repeat (first|with_reducible exact At.z|apply At.s)) (z02 rfl) ?_)|(refine Sep.walloc hS (by rfl) rfl (by first|exact z59|exact z8a) ?_;clear hS;intro g W hS)|(refine Sep.wstoreNb hS (by rfl) rfl rfl rfl (z02 rfl) (by simp [z4n,Value.oneCell']) (by repeat (first|with_reducible exact At.z|apply At.s)) (by rfl) (by repeat (first|with_reducible exact Put.z|apply Put.s)) ?_;clear hS;intro W hS;refine Stop.go ?_));refine Stop.mk ?_)
    (go_wp2_with (first|(refine Sep.wloadNz hS (by rfl) rfl rfl (by repeat (first|with_reducible exact At.z|apply At.s)) (z02 rfl) ?_)|(refine Sep.walloc hS (by rfl) rfl (by first|exact z59|exact z8a) ?_;clear hS;intro g W hS)|(refine Sep.wstoreNb hS (by rfl) rfl rfl rfl (z02 rfl) (by simp [z4n,Value.oneCell']) (by repeat (with_reducible exact At.z)) (by rfl) (by repeat (with_reducible exact Put.z)) ?_;clear hS;intro W hS;refine Stop.go ?_));refine Stop.mk ?_)
    rcases Classical.em (x=y) with he|he
    ·have q:decide (x=y)=true:=decide_eq_true he
     have HE:=Lib.hid he
     clear he
     go_wp2_with (first|(refine Sep.wloadNb hS (by rfl) rfl rfl (by repeat (first|with_reducible exact At.z|apply At.s)) (z02 rfl) ?_)|(go_at_call 139;refine (zfw x y [_,_] [_,_] hS (by repeat (first|with_reducible exact At.z|apply At.s)) (by repeat (first|with_reducible exact At.z|apply At.s))).mono ?_;clear hS;rintro e W ⟨rfl,hS⟩;rw [q]))
     go_roundw
     case measure=>go_light;simp [intOf];omega
     case rel=>go_light;exact ⟨k+1,by omega,by go_num,Lib.hid (by rw [z0t HX.out,z0t HY.out,hs.out,HE.out]),hS.sub (by repeat (first|with_reducible exact Sub.refl|apply Sub.skip))⟩
    ·have q:decide (x=y)=false:=decide_eq_false he
     have hf:Hid (eqB xs ys=false):=Lib.hid (by
      have:xs≠ys:=fun e=>he (by have:=HX.out;rw [e,HY.out] at this;exact (Option.some.inj this).symm)
      simp [eqB,this])
     clear he
     go_wp2_with (first|(refine Sep.wloadNb hS (by rfl) rfl rfl (by repeat (first|with_reducible exact At.z|apply At.s)) (z02 rfl) ?_)|(go_at_call 139;refine (zfw x y [_,_] [_,_] hS (by repeat (first|with_reducible exact At.z|apply At.s)) (by repeat (first|with_reducible exact At.z|apply At.s))).mono ?_;clear hS;rintro e W ⟨rfl,hS⟩;rw [q]))
     go_ret
     go_light
     exact ⟨z03 hf.out.symm,hS.sub (by repeat (first|with_reducible exact Sub.refl|apply Sub.skip))⟩
   ·obtain rfl:k=n:=by omega
    have hf:Hid (eqB xs ys=true):=Lib.hid (by have:=hs.out;rw [List.take_of_length_le (by rw [L1.out];omega),List.take_of_length_le (by rw [L2.out];omega)] at this;simp [eqB,this])
    go_wp2_with fail
    go_ret
    exact ⟨z03 hf.out.symm,hS.sub (by repeat (with_reducible exact Sub.refl))⟩
 ·have q:((n:Int) != (n':Int))=true:=by simp;omega
  have hf:Hid (eqB xs ys=false):=Lib.hid (by
   have:xs≠ys:=fun e=>hn (by rw [← hl1,← hl2,e])
   simp [eqB,this])
  clear hn
  go_enter Tryz.func138,Tryz.ntmps138
  go_wp2_with fail
  go_ret
  exact ⟨z03 hf.out.symm,hS.sub (by repeat (with_reducible exact Sub.refl))⟩
end
section
open Go.RowKit
set_option maxRecDepth 100000
theorem tx_ext {x y:Tx}:x=y↔x.height=y.height∧x.ins=y.ins∧x.outs=y.outs:=by cases x;cases y;simp
set_option maxHeartbeats 4000000 in
theorem zh9 (x y:Tx) (cx cy:List Value) {w0 W:World} {F0:Nat→Prop} {Γ:List Res} (hS:Sep w0 F0 Γ W) (hx:At Γ (rep x cx shTx)) (hy:At Γ (rep y cy shTx)) :
  Calls Tryz.prog 63 #[.agg cx.toArray,.agg cy.toArray] W (RV w0 F0 Γ (.bool (decide (x=y)))):=by
 (have hO:=hS.open_tx hx;clear hS;obtain ⟨A,n,c,A2,n2,c2,rfl,i1,hS⟩:=hO)
 (have hO:=hS.open_tx (At.s (At.s hy));clear hS;obtain ⟨A3,n3,c3,A4,n4,c4,rfl,i2,hS⟩:=hO)
 obtain ⟨R,hR⟩:∃ R,R=decide (x=y):=⟨_,rfl⟩
 rw [← hR]
 obtain ⟨l1,l2,l3⟩:=hS.len (xs:=x.ins) (A:=A) (by repeat (first|with_reducible exact At.z|apply At.s))
 obtain ⟨l4,l5,l6⟩:=hS.len (xs:=y.ins) (A:=A3) (by repeat (with_reducible exact At.z))
 have L1:=Lib.hid l1
 have L4:=Lib.hid l4
 have NE:Hid (x≠y→false=R):=Lib.hid (fun h=>by rw [hR];simp [h])
 have EQ:Hid (x=y→true=R):=Lib.hid (fun h=>by rw [hR];simp [h])
 clear hR l1 l4
 go_enter Tryz.func63,Tryz.ntmps63
 (go_wp2_with ((refine Sep.wbox hS (by rfl) rfl rfl ?_;clear hS;intro ga W hS;refine Stop.go ?_));refine Stop.mk ?_)
 (go_wp2_with ((refine Sep.wbox hS (by rfl) rfl rfl ?_;clear hS;intro gb W hS;refine Stop.go ?_));refine Stop.mk ?_)
 have a0:=hS.boxCell (g:=ga) (by repeat (first|with_reducible exact At.z|apply At.s)) 0 _ rfl;have a1:=hS.boxCell (g:=ga) (by repeat (first|with_reducible exact At.z|apply At.s)) 1 _ rfl;have a2:=hS.boxCell (g:=ga) (by repeat (first|with_reducible exact At.z|apply At.s)) 2 _ rfl;have b0:=hS.boxCell (g:=gb) (by repeat (with_reducible exact At.z)) 0 _ rfl;have b1:=hS.boxCell (g:=gb) (by repeat (with_reducible exact At.z)) 1 _ rfl;have b2:=hS.boxCell (g:=gb) (by repeat (with_reducible exact At.z)) 2 _ rfl
 rcases Classical.em (x.height=y.height) with h1|h1
 rotate_left
 ·have q:(x.height != y.height)=true:=by simpa using h1
  have H1:=Lib.hid h1
  clear h1
  go_wp2_with fail
  go_ret
  go_light
  exact ⟨z03 (NE.out fun e=>H1.out (by rw [e])),hS.sub (by repeat (first|with_reducible exact Sub.refl|apply Sub.skip))⟩
 have q:(x.height != y.height)=false:=by simp [h1]
 have H1:=Lib.hid h1
 clear h1
 rcases Classical.em (n=n3) with h2|h2
 rotate_left
 ·have q2:((n:Int) != (n3:Int))=true:=by simp;omega
  have H2:=Lib.hid h2
  clear h2
  go_wp2_with fail
  go_ret
  go_light
  exact ⟨z03 (NE.out fun e=>H2.out (by rw [← L1.out,← L4.out,e])),hS.sub (by repeat (first|with_reducible exact Sub.refl|apply Sub.skip))⟩
 subst h2
 go_wp2_with fail
 clear a0 a1 a2 b0 b1 b2 q
 go_loopw [5,6,24] (fun _ _ i wr=>∃ k:Nat,k≤n∧i = .int .i64 k∧Hid (x.ins.take k=y.ins.take k)∧Sep w0 F0 (box ga [.int .i64 x.height,.slice A n c,.slice A2 n2 c2] 56::box gb [.int .i64 y.height,.slice A3 n c3,.slice A4 n4 c4] 56::rds x.ins A n c shIn::rds y.ins A3 n c3 shIn::rds x.outs A2 n2 c2 shOut::rds y.outs A4 n4 c4 shOut::Γ) wr) (fun _ _ i _=>n - (intOf i).toNat)
 case atStart=>exact ⟨0,by omega,rfl,Lib.hid rfl,hS.sub (by repeat (first|with_reducible exact Sub.refl|refine Sub.take (by repeat (first|with_reducible exact Del.z|apply Del.s)) ?_))⟩
 case round =>
  clear hS
  obtain ⟨k,hk,rfl,hs,hS⟩:=hrel
  rcases Classical.em (k<n) with hlt|hlt
  ·(have hO:=hS.elemIn (xs:=y.ins) (A:=A3) (by repeat (first|with_reducible exact At.z|apply At.s)) hlt;clear hS;obtain ⟨b',off',v,A6,n6,c6,rfl,hv,j3,j4,hS⟩:=hO)
   (have hO:=hS.elemIn (xs:=x.ins) (A:=A) (by repeat (first|with_reducible exact At.z|apply At.s)) hlt;clear hS;obtain ⟨b,off,u,A5,n5,c5,rfl,hu,j1,j2,hS⟩:=hO)
   have HU:=Lib.hid hu
   have HV:=Lib.hid hv
   have k1:(0:Int)≤(k:Int):=by omega
   have k2:(k:Int)<(n:Int):=by omega
   clear hu hv
   obtain ⟨⟨utx,uat⟩,ukey⟩:=u
   obtain ⟨⟨vtx,vat⟩,vkey⟩:=v
   simp only at j1 j2 j3 j4 hS
   (go_wp2_with (first|(refine Sep.wloadNz hS (by rfl) rfl rfl (by repeat (first|with_reducible exact At.z|apply At.s)) (z02 rfl) ?_)|(refine Sep.walloc hS (by rfl) rfl (by first|exact z59|exact zce) ?_;clear hS;intro g W hS)|(refine Sep.wstoreNb hS (by rfl) rfl rfl rfl (z02 rfl) (by simp [z4n,Value.oneCell']) (by repeat (first|with_reducible exact At.z|apply At.s)) (by rfl) (by repeat (first|with_reducible exact Put.z|apply Put.s)) ?_;clear hS;intro W hS;refine Stop.go ?_));refine Stop.mk ?_)
   have x0:=hS.boxCell (g:=g) (cs:=[.int .i64 utx,.int .i64 uat,.slice A5 n5 c5]) (by repeat (with_reducible exact At.z)) 0 _ rfl
   have x1:=hS.boxCell (g:=g) (cs:=[.int .i64 utx,.int .i64 uat,.slice A5 n5 c5]) (by repeat (with_reducible exact At.z)) 1 _ rfl
   have x2:=hS.boxCell (g:=g) (cs:=[.int .i64 utx,.int .i64 uat,.slice A5 n5 c5]) (by repeat (with_reducible exact At.z)) 2 _ rfl
   have y0:W.cell? ⟨b',off'+k * 3,none⟩=some (.int .i64 vtx):=by simpa using hS.cellsAt (b:=b') (cs:=[.int .i64 vtx,.int .i64 vat,.slice A6 n6 c6]) (by repeat (first|with_reducible exact At.z|apply At.s)) 0 _ rfl
   have y1:W.cell? ⟨b',off'+k * 3+1,none⟩=some (.int .i64 vat):=by simpa using hS.cellsAt (b:=b') (cs:=[.int .i64 vtx,.int .i64 vat,.slice A6 n6 c6]) (by repeat (first|with_reducible exact At.z|apply At.s)) 1 _ rfl
   have y2:W.cell? ⟨b',off'+k * 3+2,none⟩=some (.slice A6 n6 c6):=by simpa using hS.cellsAt (b:=b') (cs:=[.int .i64 vtx,.int .i64 vat,.slice A6 n6 c6]) (by repeat (first|with_reducible exact At.z|apply At.s)) 2 _ rfl
   have b1:=hS.boxCell (g:=gb) (cs:=[.int .i64 y.height,.slice (some ⟨b',off',none⟩) n c3,.slice A4 n4 c4]) (by repeat (first|with_reducible exact At.z|apply At.s)) 1 _ rfl
   have hq:Hid (∀ q,Calls Tryz.prog 137 #[.slice A5 n5 c5,.slice A6 n6 c6] (W.drewN q) fun e w'=>e = .returned (.bool (eqB ukey vkey))∧∃ m,w'=(W.drewN q).drewN m):=Lib.hid (fun q=>zi0 _ _ _ _ _ _ _ _ _ _ _ ((hS.drewN q).ltsRds (xs:=ukey) (by repeat (first|with_reducible exact At.z|apply At.s))) ((hS.drewN q).ltsRds (xs:=vkey) (by repeat (first|with_reducible exact At.z|apply At.s))))
   have hue:Hid ((⟨⟨utx,uat⟩,ukey⟩:In)≠⟨⟨vtx,vat⟩,vkey⟩→false=R):=Lib.hid (fun h=>NE.out fun e=>h (by
    have h1:=HU.out
    have h2:=HV.out
    rw [e,h2] at h1
    exact (Option.some.inj h1).symm))
   rcases Classical.em (utx=vtx) with d1|d1
   rotate_left
   ·have q1:(utx == vtx)=false:=by simpa using d1
    have D:=Lib.hid d1
    clear d1
    go_wp2_with fail;go_quiet ((go_at_call 137;exact Calls.quiet_of (hq.out _)));go_wp2_with fail
    go_ret;go_light;exact ⟨z03 (hue.out (fun e=>D.out (by exact congrArg (fun i:In=>i.p.tx) e))),(hS.drewN _).sub (by repeat (first|with_reducible exact Sub.refl|apply Sub.skip))⟩
   subst d1
   rcases Classical.em (uat=vat) with d2|d2
   rotate_left
   ·have q1:(uat == vat)=false:=by simpa using d2
    have D:=Lib.hid d2
    clear d2
    go_wp2_with fail;go_quiet ((go_at_call 137;exact Calls.quiet_of (hq.out _)));go_wp2_with fail
    go_ret;go_light;exact ⟨z03 (hue.out (fun e=>D.out (by exact congrArg (fun i:In=>i.p.at_) e))),(hS.drewN _).sub (by repeat (first|with_reducible exact Sub.refl|apply Sub.skip))⟩
   subst d2
   rcases Classical.em (ukey=vkey) with d3|d3
   rotate_left
   ·have D:=Lib.hid d3
    have he:eqB ukey vkey=false:=by simp [eqB,d3]
    rw [he] at hq
    clear d3 he
    go_wp2_with fail;go_quiet ((go_at_call 137;exact Calls.quiet_of (hq.out _)));go_wp2_with fail
    go_ret;go_light;exact ⟨z03 (hue.out (fun e=>D.out (by exact congrArg In.key e))),(hS.drewN _).sub (by repeat (first|with_reducible exact Sub.refl|apply Sub.skip))⟩
   have he:eqB ukey vkey=true:=by simp [eqB,d3]
   have hnx:Hid (x.ins.take (k+1)=y.ins.take (k+1)):=Lib.hid (by rw [z0t HU.out,z0t HV.out,hs.out,d3])
   rw [he] at hq
   clear d3 he
   go_wp2_with fail;go_quiet ((go_at_call 137;exact Calls.quiet_of (hq.out _)));go_wp2_with fail
   (have hO:=hS.drewN nq;clear hS;have hS:=hO;clear hO)
   go_roundw
   case measure=>go_light;simp [intOf];omega
   case rel=>go_light;exact ⟨k+1,by omega,by go_num,hnx,hS.sub (by repeat (first|with_reducible exact Sub.refl|refine Sub.take (by repeat (first|with_reducible exact Del.z|apply Del.s)) ?_|apply Sub.skip))⟩
  ·obtain rfl:k=n:=by omega
   have hins:Hid (x.ins=y.ins):=Lib.hid (by have:=hs.out;rwa [List.take_of_length_le (by rw [L1.out];omega),List.take_of_length_le (by rw [L4.out];omega)] at this)
   have a2:=hS.boxCell (g:=ga) (cs:=[.int .i64 x.height,.slice A k c,.slice A2 n2 c2]) (by repeat (with_reducible exact At.z)) 2 _ rfl
   have b2:=hS.boxCell (g:=gb) (cs:=[.int .i64 y.height,.slice A3 k c3,.slice A4 n4 c4]) (by repeat (first|with_reducible exact At.z|apply At.s)) 2 _ rfl
   clear hs
   go_wp2_with (go_at_call 138;refine (zpr x.outs y.outs _ _ _ _ _ _ hS (by repeat (first|with_reducible exact At.z|apply At.s)) (by repeat (first|with_reducible exact At.z|apply At.s))).mono ?_;clear hS;rintro e W ⟨rfl,hS⟩)
   go_ret
   go_light
   refine ⟨z03 ?_,hS.sub (by repeat (first|with_reducible exact Sub.refl|apply Sub.skip))⟩
   rcases Classical.em (x.outs=y.outs) with d|d
   ·rw [← EQ.out (tx_ext.2 ⟨H1.out,hins.out,d⟩)];simp [eqB,d]
   ·rw [← NE.out (fun e=>d (by rw [e]))];simp [eqB,d]
end
section
open Go.RowKit
set_option maxRecDepth 100000
theorem Sep.elemTxR {w0 W:World} {F0:Nat→Prop} {Γ:List Res} (h:Sep w0 F0 Γ W) {xs:List Tx} {A:Option Addr} {n c i:Nat} (hm:At Γ (rds xs A n c shTx)) (hi:i<n) :
  ∃ b off z A1 n1 c1 A2 n2 c2,A=some ⟨b,off,none⟩∧xs[i]? = some z∧Sep w0 F0 (cells b (off+i * 3) [.int .i64 z.height,.slice A1 n1 c1,.slice A2 n2 c2]::rep z [.int .i64 z.height,.slice A1 n1 c1,.slice A2 n2 c2] shTx::Γ) W:=by
 obtain ⟨b,off,z,cs,e,hz,hS⟩:=h.elem hm hi
 obtain ⟨A1,n1,c1,A2,n2,c2,rfl,h1,hS'⟩:=hS.open_tx (At.s At.z)
 rw [show shTx.size=3 from rfl] at hS
 exact ⟨b,off,z,A1,n1,c1,A2,n2,c2,e,hz,hS⟩
set_option maxHeartbeats 1000000 in
theorem zvk (xs ys:List Tx) (A:Option Addr) (n c:Nat) (A':Option Addr) (n' c':Nat) {w0 W:World} {F0:Nat→Prop} {Γ:List Res} (hS:Sep w0 F0 Γ W) (h1:At Γ (rds xs A n c shTx)) (h2:At Γ (rds ys A' n' c' shTx)) :
  Calls Tryz.prog 61 #[.slice A n c,.slice A' n' c',.func (.func 63) #[] #[]] W (RV w0 F0 Γ (.bool (eqB xs ys))):=by
 obtain ⟨hl1,hn1,hc1⟩:=hS.len h1
 obtain ⟨hl2,hn2,hc2⟩:=hS.len h2
 rcases Classical.em (n=n') with hn|hn
 ·subst hn
  have L1:=Lib.hid hl1
  have L2:=Lib.hid hl2
  clear hl1 hl2
  go_enter Tryz.func61,Tryz.ntmps61
  go_wp2_with fail
  go_loopw [7,8,9,17] (fun _ _ _ i wr=>∃ k:Nat,k≤n∧i = .int .i64 k∧Hid (xs.take k=ys.take k)∧Sep w0 F0 Γ wr) (fun _ _ _ i _=>n - (intOf i).toNat)
  case atStart=>exact ⟨0,by omega,rfl,Lib.hid rfl,hS⟩
  case round =>
   clear hS
   obtain ⟨k,hk,rfl,hs,hS⟩:=hrel
   rcases Classical.em (k<n) with hlt|hlt
   ·(have hO:=hS.elemTxR h1 hlt;clear hS;obtain ⟨b,off,x,Aa1,na1,ca1,Ab1,nb1,cb1,rfl,hx,hS⟩:=hO)
    (have hO:=hS.elemTxR (At.s (At.s h2)) hlt;clear hS;obtain ⟨b',off',y,Aa2,na2,ca2,Ab2,nb2,cb2,rfl,hy,hS⟩:=hO)
    have HX:=Lib.hid hx
    have HY:=Lib.hid hy
    have k1:(0:Int)≤(k:Int):=by omega
    have k2:(k:Int)<(n:Int):=by omega
    clear hx hy
    (go_wp2_with (first|(refine Sep.wloadNz hS (by rfl) rfl rfl (by repeat (first|with_reducible exact At.z|apply At.s)) (z02 rfl) ?_)|(refine Sep.walloc hS (by rfl) rfl (by first|exact z59|exact zcf) ?_;clear hS;intro g W hS)|(refine Sep.wstoreNb hS (by rfl) rfl rfl rfl (z02 rfl) (by simp [z4n,Value.oneCell']) (by repeat (first|with_reducible exact At.z|apply At.s)) (by rfl) (by repeat (first|with_reducible exact Put.z|apply Put.s)) ?_;clear hS;intro W hS;refine Stop.go ?_));refine Stop.mk ?_)
    (go_wp2_with (first|(refine Sep.wloadNz hS (by rfl) rfl rfl (by repeat (first|with_reducible exact At.z|apply At.s)) (z02 rfl) ?_)|(refine Sep.walloc hS (by rfl) rfl (by first|exact z59|exact zcf) ?_;clear hS;intro g W hS)|(refine Sep.wstoreNb hS (by rfl) rfl rfl rfl (z02 rfl) (by simp [z4n,Value.oneCell']) (by repeat (with_reducible exact At.z)) (by rfl) (by repeat (with_reducible exact Put.z)) ?_;clear hS;intro W hS;refine Stop.go ?_));refine Stop.mk ?_)
    rcases Classical.em (x=y) with he|he
    ·have q:decide (x=y)=true:=decide_eq_true he
     have HE:=Lib.hid he
     clear he
     go_wp2_with (first|(refine Sep.wloadNb hS (by rfl) rfl rfl (by repeat (first|with_reducible exact At.z|apply At.s)) (z02 rfl) ?_)|(go_at_call 63;refine (zh9 x y [_,_,_] [_,_,_] hS (by repeat (first|with_reducible exact At.z|apply At.s)) (by repeat (first|with_reducible exact At.z|apply At.s))).mono ?_;clear hS;rintro e W ⟨rfl,hS⟩;rw [q]))
     go_roundw
     case measure=>go_light;simp [intOf];omega
     case rel=>go_light;exact ⟨k+1,by omega,by go_num,Lib.hid (by rw [z0t HX.out,z0t HY.out,hs.out,HE.out]),hS.sub (by repeat (first|with_reducible exact Sub.refl|apply Sub.skip))⟩
    ·have q:decide (x=y)=false:=decide_eq_false he
     have hf:Hid (eqB xs ys=false):=Lib.hid (by
      have:xs≠ys:=fun e=>he (by have:=HX.out;rw [e,HY.out] at this;exact (Option.some.inj this).symm)
      simp [eqB,this])
     clear he
     go_wp2_with (first|(refine Sep.wloadNb hS (by rfl) rfl rfl (by repeat (first|with_reducible exact At.z|apply At.s)) (z02 rfl) ?_)|(go_at_call 63;refine (zh9 x y [_,_,_] [_,_,_] hS (by repeat (first|with_reducible exact At.z|apply At.s)) (by repeat (first|with_reducible exact At.z|apply At.s))).mono ?_;clear hS;rintro e W ⟨rfl,hS⟩;rw [q]))
     go_ret
     go_light
     exact ⟨z03 hf.out.symm,hS.sub (by repeat (first|with_reducible exact Sub.refl|apply Sub.skip))⟩
   ·obtain rfl:k=n:=by omega
    have hf:Hid (eqB xs ys=true):=Lib.hid (by have:=hs.out;rw [List.take_of_length_le (by rw [L1.out];omega),List.take_of_length_le (by rw [L2.out];omega)] at this;simp [eqB,this])
    go_wp2_with fail
    go_ret
    exact ⟨z03 hf.out.symm,hS.sub (by repeat (with_reducible exact Sub.refl))⟩
 ·have q:((n:Int) != (n':Int))=true:=by simp;omega
  have hf:Hid (eqB xs ys=false):=Lib.hid (by
   have:xs≠ys:=fun e=>hn (by rw [← hl1,← hl2,e])
   simp [eqB,this])
  clear hn
  go_enter Tryz.func61,Tryz.ntmps61
  go_wp2_with fail
  go_ret
  exact ⟨z03 hf.out.symm,hS.sub (by repeat (with_reducible exact Sub.refl))⟩
theorem block_ext {x y:Block}:x=y↔x.parent=y.parent∧x.height=y.height∧x.work=y.work∧x.nonce=y.nonce∧x.txs=y.txs:=by cases x;cases y;simp
set_option maxHeartbeats 1000000 in
theorem zvl (x y:Block) (cx cy:List Value) {w0 W:World} {F0:Nat→Prop} {Γ:List Res} (hS:Sep w0 F0 Γ W) (hx:At Γ (rep x cx shBlock)) (hy:At Γ (rep y cy shBlock)) :
  Calls Tryz.prog 17 #[.agg cx.toArray,.agg cy.toArray] W (RV w0 F0 Γ (.bool (decide (x=y)))):=by
 (have hO:=hS.open_block hx;clear hS;obtain ⟨A,n,c,rfl,-,-,-,-,hS⟩:=hO)
 (have hO:=hS.open_block (At.s hy);clear hS;obtain ⟨A2,n2,c2,rfl,-,-,-,-,hS⟩:=hO)
 obtain ⟨R,hR⟩:∃ R,R=decide (x=y):=⟨_,rfl⟩
 rw [← hR]
 have NE:Hid (x≠y→false=R):=Lib.hid (fun h=>by rw [hR];simp [h])
 have EQ:Hid (x=y→true=R):=Lib.hid (fun h=>by rw [hR];simp [h])
 clear hR
 go_enter Tryz.func17,Tryz.ntmps17
 (go_wp2_with (first|(refine Sep.wbox hS (by rfl) rfl rfl ?_;clear hS;intro ga W hS;refine Stop.go ?_)|(refine Sep.walloc hS (by rfl) rfl (by first|exact z59|exact z8y|exact zce|exact z8a|exact zcf|exact zbb|exact zbc|exact zbd|exact z8z|exact zbe|exact zbf|exact z64|exact ze4|exact z4g|exact ze5|exact z90|exact zbg|exact ze6) ?_;clear hS;intro ga W hS;refine Stop.go ?_)|(first|(refine Sep.wload1b hS (by rfl) rfl rfl (z29 rfl) (by repeat (first|with_reducible exact At.z|assumption|apply At.s)) rfl ?_)|(refine Sep.wloadNb hS (by rfl) rfl rfl (by repeat (first|with_reducible exact At.z|assumption|apply At.s)) (z02 rfl) ?_)|(refine Sep.wload1z hS (by rfl) rfl rfl (z29 rfl) (by repeat (first|with_reducible exact At.z|assumption|apply At.s)) rfl ?_)|(refine Sep.wload1c hS (by rfl) rfl rfl (z29 rfl) (by repeat (first|with_reducible exact At.z|assumption|apply At.s)) rfl ?_)|(refine Sep.wloadNz hS (by rfl) rfl rfl (by repeat (first|with_reducible exact At.z|assumption|apply At.s)) (z02 rfl) ?_)|(refine Sep.walloc hS (by rfl) rfl (by first|exact z59|exact z8y|exact zce|exact z8a|exact zcf|exact zbb|exact zbc|exact zbd|exact z8z|exact zbe|exact zbf|exact z64|exact ze4|exact z4g|exact ze5|exact z90|exact zbg|exact ze6) ?_;clear hS;intro g W hS)|(refine Sep.wbox hS (by rfl) rfl rfl ?_;clear hS;intro g W hS)|(refine Sep.wstoreNb hS (by rfl) rfl rfl rfl (z02 rfl) (by simp [z4n,Value.oneCell']) (by repeat (first|with_reducible exact At.z|assumption|apply At.s)) (by rfl) (by repeat (first|with_reducible exact Put.z|apply Put.s)) ?_;clear hS;intro W hS)));refine Stop.mk ?_)
 (go_wp2_with (first|(refine Sep.wbox hS (by rfl) rfl rfl ?_;clear hS;intro gb W hS;refine Stop.go ?_)|(refine Sep.walloc hS (by rfl) rfl (by first|exact z59|exact z8y|exact zce|exact z8a|exact zcf|exact zbb|exact zbc|exact zbd|exact z8z|exact zbe|exact zbf|exact z64|exact ze4|exact z4g|exact ze5|exact z90|exact zbg|exact ze6) ?_;clear hS;intro gb W hS;refine Stop.go ?_)|(first|(refine Sep.wload1b hS (by rfl) rfl rfl (z29 rfl) (by repeat (first|with_reducible exact At.z|assumption|apply At.s)) rfl ?_)|(refine Sep.wloadNb hS (by rfl) rfl rfl (by repeat (first|with_reducible exact At.z|assumption|apply At.s)) (z02 rfl) ?_)|(refine Sep.wload1z hS (by rfl) rfl rfl (z29 rfl) (by repeat (first|with_reducible exact At.z|assumption|apply At.s)) rfl ?_)|(refine Sep.wload1c hS (by rfl) rfl rfl (z29 rfl) (by repeat (first|with_reducible exact At.z|assumption|apply At.s)) rfl ?_)|(refine Sep.wloadNz hS (by rfl) rfl rfl (by repeat (first|with_reducible exact At.z|assumption|apply At.s)) (z02 rfl) ?_)|(refine Sep.walloc hS (by rfl) rfl (by first|exact z59|exact z8y|exact zce|exact z8a|exact zcf|exact zbb|exact zbc|exact zbd|exact z8z|exact zbe|exact zbf|exact z64|exact ze4|exact z4g|exact ze5|exact z90|exact zbg|exact ze6) ?_;clear hS;intro g W hS)|(refine Sep.wbox hS (by rfl) rfl rfl ?_;clear hS;intro g W hS)|(refine Sep.wstoreNb hS (by rfl) rfl rfl rfl (z02 rfl) (by simp [z4n,Value.oneCell']) (by repeat (first|with_reducible exact At.z|assumption|apply At.s)) (by rfl) (by repeat (first|with_reducible exact Put.z|apply Put.s)) ?_;clear hS;intro W hS)));refine Stop.mk ?_)
 have a0:=hS.boxCell (g:=ga) (by repeat (first|with_reducible exact At.z|assumption|apply At.s)) 0 _ rfl
 have a1:=hS.boxCell (g:=ga) (by repeat (first|with_reducible exact At.z|assumption|apply At.s)) 1 _ rfl
 have a2:=hS.boxCell (g:=ga) (by repeat (first|with_reducible exact At.z|assumption|apply At.s)) 2 _ rfl
 have a3:=hS.boxCell (g:=ga) (by repeat (first|with_reducible exact At.z|assumption|apply At.s)) 3 _ rfl
 have a4:=hS.boxCell (g:=ga) (by repeat (first|with_reducible exact At.z|assumption|apply At.s)) 4 _ rfl
 have b0:=hS.boxCell (g:=gb) (by repeat (first|with_reducible exact At.z|assumption|apply At.s)) 0 _ rfl
 have b1:=hS.boxCell (g:=gb) (by repeat (first|with_reducible exact At.z|assumption|apply At.s)) 1 _ rfl
 have b2:=hS.boxCell (g:=gb) (by repeat (first|with_reducible exact At.z|assumption|apply At.s)) 2 _ rfl
 have b3:=hS.boxCell (g:=gb) (by repeat (first|with_reducible exact At.z|assumption|apply At.s)) 3 _ rfl
 have b4:=hS.boxCell (g:=gb) (by repeat (first|with_reducible exact At.z|assumption|apply At.s)) 4 _ rfl
 rcases Classical.em (x.parent=y.parent) with d|d1
 rotate_left
 ·have q:(x.parent == y.parent)=false:=by simpa using d1
  have d:=d1
  clear d1
  have D:=Lib.hid d;clear d;go_wp2_with fail;go_ret;go_light;exact ⟨z03 (NE.out fun e=>D.out (by rw [e])),hS.sub (by repeat (first|with_reducible exact Sub.refl|with_reducible exact Sub.nil|refine Sub.take (by repeat (first|with_reducible exact Del.z|apply Del.s)) ?_|apply Sub.skip))⟩
 have q1:(x.parent == y.parent)=true:=by simp [d]
 have D1:=Lib.hid d
 clear d
 rcases Classical.em (x.height=y.height) with d|d1
 rotate_left
 ·have q:(x.height == y.height)=false:=by simpa using d1
  have d:=d1
  clear d1
  have D:=Lib.hid d;clear d;go_wp2_with fail;go_ret;go_light;exact ⟨z03 (NE.out fun e=>D.out (by rw [e])),hS.sub (by repeat (first|with_reducible exact Sub.refl|with_reducible exact Sub.nil|refine Sub.take (by repeat (first|with_reducible exact Del.z|apply Del.s)) ?_|apply Sub.skip))⟩
 have q2:(x.height == y.height)=true:=by simp [d]
 have D2:=Lib.hid d
 clear d
 rcases Classical.em (x.work=y.work) with d|d1
 rotate_left
 ·have q:(x.work == y.work)=false:=by simpa using d1
  have d:=d1
  clear d1
  have D:=Lib.hid d;clear d;go_wp2_with fail;go_ret;go_light;exact ⟨z03 (NE.out fun e=>D.out (by rw [e])),hS.sub (by repeat (first|with_reducible exact Sub.refl|with_reducible exact Sub.nil|refine Sub.take (by repeat (first|with_reducible exact Del.z|apply Del.s)) ?_|apply Sub.skip))⟩
 have q3:(x.work == y.work)=true:=by simp [d]
 have D3:=Lib.hid d
 clear d
 rcases Classical.em (x.nonce=y.nonce) with d|d1
 rotate_left
 ·have q:(x.nonce == y.nonce)=false:=by simpa using d1
  have d:=d1
  clear d1
  have D:=Lib.hid d;clear d;go_wp2_with fail;go_ret;go_light;exact ⟨z03 (NE.out fun e=>D.out (by rw [e])),hS.sub (by repeat (first|with_reducible exact Sub.refl|with_reducible exact Sub.nil|refine Sub.take (by repeat (first|with_reducible exact Del.z|apply Del.s)) ?_|apply Sub.skip))⟩
 have q4:(x.nonce == y.nonce)=true:=by simp [d]
 have D4:=Lib.hid d
 clear d
 go_wp2_with (go_at_call 61;refine (zvk x.txs y.txs _ _ _ _ _ _ hS (by repeat (first|with_reducible exact At.z|assumption|apply At.s)) (by repeat (first|with_reducible exact At.z|assumption|apply At.s))).mono ?_;clear hS;rintro e W ⟨rfl,hS⟩)
 go_ret
 go_light
 refine ⟨z03 ?_,hS.sub (by repeat (first|with_reducible exact Sub.refl|with_reducible exact Sub.nil|refine Sub.take (by repeat (first|with_reducible exact Del.z|apply Del.s)) ?_|apply Sub.skip))⟩
 rcases Classical.em (x.txs=y.txs) with d|d
 ·rw [← EQ.out (block_ext.2 ⟨D1.out,D2.out,D3.out,D4.out,d⟩)];simp [eqB,d]
 ·rw [← NE.out (fun e=>d (by rw [e]))];simp [eqB,d]
end
end Go.Proofs.YtgkfhlnklienoaaGreatDoor
