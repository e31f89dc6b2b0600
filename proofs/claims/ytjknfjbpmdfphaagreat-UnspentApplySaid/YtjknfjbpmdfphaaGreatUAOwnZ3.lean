/- Own texts, put together by wip/bundle.py: VL5c, VL6, VUC, VU9, VW1, VS1, VEr, VCk, VWU1, VWU2. -/
import Derived.Test.YtjknfjbpmdfphaaGreatShelf3
import Derived.Lib.AppendIntMem
import Derived.Lib.SmallJoins
import Derived.Test.YtjknfjbpmdfphaaGreatUAOwnB
import Derived.Test.YtjknfjbpmdfphaaGreatUAOwnC
import Derived.Test.YtjknfjbpmdfphaaGreatUAOwnR
import Derived.Test.YtjknfjbpmdfphaaGreatUAOwnV2
import Derived.Test.YtjknfjbpmdfphaaGreatUAOwnZ2
set_option linter.unusedVariables false
set_option linter.unusedSimpArgs false
namespace Go.Proofs.YtjknfjbpmdfphaaGreat
section
open Go.RowKit
set_option maxRecDepth 100000
set_option maxHeartbeats 8000000
attribute [local irreducible] z0p spD z14 z6n z0v z40
attribute [local irreducible] den denX z1b z1q
theorem z088:z4e 9:=by
 intro l s0 s ht nn k R again' hl16 hsl hfit hk hx hF hO;have hcase:=z22 hfit;have hs0t:s.take (((s.length:Nat):Int) - 0).toNat=s:=(by rw [show (((s.length:Nat):Int) - 0).toNat=s.length by omega];exact zY1c);simp only [z1y,Int.reduceEq,if_true,if_false] at hF hO;unfold z6y;with_unfolding_all show den z3g _ (z16 z0c) [_,_,_,_,_,_,_,_,_,_,_,_,_,_,_,_,_,_,_,_,_] _=_;simp only [z0c,z16]
 rcases hcase with ⟨c1,c2⟩|⟨a,t,fa,p1,p3,p4,p5,-⟩
 ·try simp only [c2,z10,z15,zY07] at hF hO
  repeat' (first|refine dq1 ?_|refine dqc ?_|refine dqm ?_|refine dqK rfl (zg _) ?_|refine dqT ?_|refine dqF ?_|refine zt rfl ?_|refine zq rfl ?_|refine z0e ?_|refine z0f ?_|refine z4 (z7 (d:=I 2) rfl rfl rfl) ?_|refine z4 (z7 (d:=I 1) rfl rfl rfl) ?_|refine z4 (z7 (d:=I 0) rfl rfl rfl) ?_|refine z07 (zm rfl rfl (by omega) (by simp)) ?_|refine z4 (zo rfl rfl (by omega) rfl rfl) ?_|refine z4 (zp rfl rfl (by simp)) ?_|refine z4 (z04 rfl rfl) ?_|refine z4 (z05 rfl rfl (by omega)) ?_|refine z4 (zx rfl rfl (by decide) (by assumption)) ?_|exact z5 rfl (by rw [hF (by (repeat' (first|rfl|rw [za (by first|omega|(simp only [zY01,zY03,zY04] at *;omega))]|rw [z9 (by first|omega|(simp only [zY01,zY03,zY04] at *;omega)) (by omega) (by omega)]|rw [if_pos (by omega)]|rw [if_neg (by omega)]|simp only [zY05,zY07])))];rfl)|exact z5 rfl (by rw [hF];rfl)|exact z6 rfl rfl (hO _ (by (repeat' (first|rfl|rw [za (by first|omega|(simp only [zY01,zY03,zY04] at *;omega))]|rw [z9 (by first|omega|(simp only [zY01,zY03,zY04] at *;omega)) (by omega) (by omega)]|rw [if_pos (by omega)]|rw [if_neg (by omega)]|simp only [zY05,zY07]))))|(refine zn rfl ?_;rw [zf])|(refine z6 rfl rfl ?_;rw [zf])|refine z02 rfl (fun h=>?_) (fun h=>?_)|refine tZn (fun h=>?_) (fun h=>?_))
 ·try simp only [p1,z10,z15,zY07,zY05] at hF hO
  obtain ⟨fa1,fa2⟩:=id fa
  by_cases ha0:a=0
  ·have e7:z0v (decide (a=0))=1:=by with_unfolding_all simp [z0v,ha0]
   rw [e7] at hF hO
   repeat' (first|refine dq1 ?_|refine dqc ?_|refine dqm ?_|refine dqK rfl (zg _) ?_|refine dqT ?_|refine dqF ?_|refine zt rfl ?_|refine zq rfl ?_|refine z0e ?_|refine z0f ?_|refine z4 (z7 (d:=I 2) rfl rfl rfl) ?_|refine z4 (z7 (d:=I 1) rfl rfl rfl) ?_|refine z4 (z7 (d:=I 0) rfl rfl rfl) ?_|refine z07 (zm rfl rfl (by omega) (by simp)) ?_|refine z4 (zo rfl rfl (by omega) rfl rfl) ?_|refine z4 (zp rfl rfl (by simp)) ?_|refine z4 (z04 rfl rfl) ?_|refine z4 (z05 rfl rfl (by omega)) ?_|refine z4 (zx rfl rfl (by decide) (by assumption)) ?_|exact z5 rfl (by rw [hF (by (repeat' (first|rfl|rw [za (by first|omega|(simp only [zY01,zY03,zY04] at *;omega))]|rw [z9 (by first|omega|(simp only [zY01,zY03,zY04] at *;omega)) (by omega) (by omega)]|rw [if_pos (by omega)]|rw [if_neg (by omega)]|simp only [zY05,zY07])))];rfl)|exact z5 rfl (by rw [hF];rfl)|exact z6 rfl rfl (hO _ (by (repeat' (first|rfl|rw [za (by first|omega|(simp only [zY01,zY03,zY04] at *;omega))]|rw [z9 (by first|omega|(simp only [zY01,zY03,zY04] at *;omega)) (by omega) (by omega)]|rw [if_pos (by omega)]|rw [if_neg (by omega)]|simp only [zY05,zY07]))))|(refine zn rfl ?_;rw [zf])|(refine z6 rfl rfl ?_;rw [zf])|refine z02 rfl (fun h=>?_) (fun h=>?_)|refine tZn (fun h=>?_) (fun h=>?_))
  ·have e7:z0v (decide (a=0))=0:=by with_unfolding_all simp [z0v,ha0]
   rw [e7] at hF hO
   repeat' (first|refine dq1 ?_|refine dqc ?_|refine dqm ?_|refine dqK rfl (zg _) ?_|refine dqT ?_|refine dqF ?_|refine zt rfl ?_|refine zq rfl ?_|refine z0e ?_|refine z0f ?_|refine z4 (z7 (d:=I 2) rfl rfl rfl) ?_|refine z4 (z7 (d:=I 1) rfl rfl rfl) ?_|refine z4 (z7 (d:=I 0) rfl rfl rfl) ?_|refine z07 (zm rfl rfl (by omega) (by simp)) ?_|refine z4 (zo rfl rfl (by omega) rfl rfl) ?_|refine z4 (zp rfl rfl (by simp)) ?_|refine z4 (z04 rfl rfl) ?_|refine z4 (z05 rfl rfl (by omega)) ?_|refine z4 (zx rfl rfl (by decide) (by assumption)) ?_|exact z5 rfl (by rw [hF (by (repeat' (first|rfl|rw [za (by first|omega|(simp only [zY01,zY03,zY04] at *;omega))]|rw [z9 (by first|omega|(simp only [zY01,zY03,zY04] at *;omega)) (by omega) (by omega)]|rw [if_pos (by omega)]|rw [if_neg (by omega)]|simp only [zY05,zY07])))];rfl)|exact z5 rfl (by rw [hF];rfl)|exact z6 rfl rfl (hO _ (by (repeat' (first|rfl|rw [za (by first|omega|(simp only [zY01,zY03,zY04] at *;omega))]|rw [z9 (by first|omega|(simp only [zY01,zY03,zY04] at *;omega)) (by omega) (by omega)]|rw [if_pos (by omega)]|rw [if_neg (by omega)]|simp only [zY05,zY07]))))|(refine zn rfl ?_;rw [zf])|(refine z6 rfl rfl ?_;rw [zf])|refine z02 rfl (fun h=>?_) (fun h=>?_)|refine tZn (fun h=>?_) (fun h=>?_))
theorem z05v:z4e 10:=by
 intro l s0 s ht nn k R again' hl16 hsl hfit hk hx hF hO;have hcase:=z22 hfit;have hs0t:s.take (((s.length:Nat):Int) - 0).toNat=s:=(by rw [show (((s.length:Nat):Int) - 0).toNat=s.length by omega];exact zY1c);simp only [z1y,Int.reduceEq,if_true,if_false] at hF hO;unfold z6y;with_unfolding_all show den z3g _ (z16 z0c) [_,_,_,_,_,_,_,_,_,_,_,_,_,_,_,_,_,_,_,_,_] _=_;simp only [z0c,z16]
 rcases hcase with ⟨c1,c2⟩|⟨a,t,fa,p1,p3,p4,p5,⟨c1,c2⟩|⟨b,u,fb,q1,q3,q4,q5⟩⟩
 ·try simp only [c2,z10,z15,zY07] at hF hO
  repeat' (first|refine dq1 ?_|refine dqc ?_|refine dqm ?_|refine dqK rfl (zg _) ?_|refine dqT ?_|refine dqF ?_|refine zt rfl ?_|refine zq rfl ?_|refine z0e ?_|refine z0f ?_|refine z4 (z7 (d:=I 2) rfl rfl rfl) ?_|refine z4 (z7 (d:=I 1) rfl rfl rfl) ?_|refine z4 (z7 (d:=I 0) rfl rfl rfl) ?_|refine z07 (zm rfl rfl (by omega) (by simp)) ?_|refine z4 (zo rfl rfl (by omega) rfl rfl) ?_|refine z4 (zp rfl rfl (by simp)) ?_|refine z4 (z04 rfl rfl) ?_|refine z4 (z05 rfl rfl (by omega)) ?_|refine z4 (zx rfl rfl (by decide) (by assumption)) ?_|exact z5 rfl (by rw [hF (by (repeat' (first|rfl|rw [za (by first|omega|(simp only [zY01,zY03,zY04] at *;omega))]|rw [z9 (by first|omega|(simp only [zY01,zY03,zY04] at *;omega)) (by omega) (by omega)]|rw [if_pos (by omega)]|rw [if_neg (by omega)]|simp only [zY05,zY07])))];rfl)|exact z5 rfl (by rw [hF];rfl)|exact z6 rfl rfl (hO _ (by (repeat' (first|rfl|rw [za (by first|omega|(simp only [zY01,zY03,zY04] at *;omega))]|rw [z9 (by first|omega|(simp only [zY01,zY03,zY04] at *;omega)) (by omega) (by omega)]|rw [if_pos (by omega)]|rw [if_neg (by omega)]|simp only [zY05,zY07]))))|(refine zn rfl ?_;rw [zf])|(refine z6 rfl rfl ?_;rw [zf])|refine z02 rfl (fun h=>?_) (fun h=>?_)|refine tZn (fun h=>?_) (fun h=>?_))
 ·try simp only [p1,c2,z10,z15,zY07,zY05] at hF hO
  obtain ⟨fa1,fa2⟩:=id fa
  repeat' (first|refine dq1 ?_|refine dqc ?_|refine dqm ?_|refine dqK rfl (zg _) ?_|refine dqT ?_|refine dqF ?_|refine zt rfl ?_|refine zq rfl ?_|refine z0e ?_|refine z0f ?_|refine z4 (z7 (d:=I 2) rfl rfl rfl) ?_|refine z4 (z7 (d:=I 1) rfl rfl rfl) ?_|refine z4 (z7 (d:=I 0) rfl rfl rfl) ?_|refine z07 (zm rfl rfl (by omega) (by simp)) ?_|refine z4 (zo rfl rfl (by omega) rfl rfl) ?_|refine z4 (zp rfl rfl (by simp)) ?_|refine z4 (z04 rfl rfl) ?_|refine z4 (z05 rfl rfl (by omega)) ?_|refine z4 (zx rfl rfl (by decide) (by assumption)) ?_|exact z5 rfl (by rw [hF (by (repeat' (first|rfl|rw [za (by first|omega|(simp only [zY01,zY03,zY04] at *;omega))]|rw [z9 (by first|omega|(simp only [zY01,zY03,zY04] at *;omega)) (by omega) (by omega)]|rw [if_pos (by omega)]|rw [if_neg (by omega)]|simp only [zY05,zY07])))];rfl)|exact z5 rfl (by rw [hF];rfl)|exact z6 rfl rfl (hO _ (by (repeat' (first|rfl|rw [za (by first|omega|(simp only [zY01,zY03,zY04] at *;omega))]|rw [z9 (by first|omega|(simp only [zY01,zY03,zY04] at *;omega)) (by omega) (by omega)]|rw [if_pos (by omega)]|rw [if_neg (by omega)]|simp only [zY05,zY07]))))|(refine zn rfl ?_;rw [zf])|(refine z6 rfl rfl ?_;rw [zf])|refine z02 rfl (fun h=>?_) (fun h=>?_)|refine tZn (fun h=>?_) (fun h=>?_))
 ·try simp only [p1,q1,z10,z15,zY07,zY05] at hF hO
  obtain ⟨fa1,fa2⟩:=id fa;obtain ⟨fb1,fb2⟩:=id fb;have hm0 : -9223372036854775808≤b * a∧b * a≤9223372036854775807:=by
   have h1:(b * a).natAbs≤1000000 * 1000000:=by rw [Int.natAbs_mul];exact Nat.mul_le_mul (by omega) (by omega)
   omega
  by_cases hb0:b=0
  ·have e7:z0v (decide (b≠0) && decide (a≠0))=0:=by with_unfolding_all simp [z0v,hb0]
   rw [e7] at hF hO;have hz:¬ b * a≠0:=by rw [hb0];simp
   repeat' (first|refine dq1 ?_|refine dqc ?_|refine dqm ?_|refine dqK rfl (zg _) ?_|refine dqT ?_|refine dqF ?_|refine zt rfl ?_|refine zq rfl ?_|refine z0e ?_|refine z0f ?_|refine z4 (z7 (d:=I 2) rfl rfl rfl) ?_|refine z4 (z7 (d:=I 1) rfl rfl rfl) ?_|refine z4 (z7 (d:=I 0) rfl rfl rfl) ?_|refine z07 (zm rfl rfl (by omega) (by simp)) ?_|refine z4 (zo rfl rfl (by omega) rfl rfl) ?_|refine z4 (zp rfl rfl (by simp)) ?_|refine z4 (z04 rfl rfl) ?_|refine z4 (z05 rfl rfl (by omega)) ?_|refine z4 (zx rfl rfl (by decide) (by assumption)) ?_|exact z5 rfl (by rw [hF (by (repeat' (first|rfl|rw [za (by first|omega|(simp only [zY01,zY03,zY04] at *;omega))]|rw [z9 (by first|omega|(simp only [zY01,zY03,zY04] at *;omega)) (by omega) (by omega)]|rw [if_pos (by omega)]|rw [if_neg (by omega)]|simp only [zY05,zY07])))];rfl)|exact z5 rfl (by rw [hF];rfl)|exact z6 rfl rfl (hO _ (by (repeat' (first|rfl|rw [za (by first|omega|(simp only [zY01,zY03,zY04] at *;omega))]|rw [z9 (by first|omega|(simp only [zY01,zY03,zY04] at *;omega)) (by omega) (by omega)]|rw [if_pos (by omega)]|rw [if_neg (by omega)]|simp only [zY05,zY07]))))|(refine zn rfl ?_;rw [zf])|(refine z6 rfl rfl ?_;rw [zf])|refine z02 rfl (fun h=>?_) (fun h=>?_)|refine tZn (fun h=>?_) (fun h=>?_))
  ·by_cases ha0:a=0
   ·have e7:z0v (decide (b≠0) && decide (a≠0))=0:=by with_unfolding_all simp [z0v,ha0]
    rw [e7] at hF hO;have hz:¬ b * a≠0:=by rw [ha0];simp
    repeat' (first|refine dq1 ?_|refine dqc ?_|refine dqm ?_|refine dqK rfl (zg _) ?_|refine dqT ?_|refine dqF ?_|refine zt rfl ?_|refine zq rfl ?_|refine z0e ?_|refine z0f ?_|refine z4 (z7 (d:=I 2) rfl rfl rfl) ?_|refine z4 (z7 (d:=I 1) rfl rfl rfl) ?_|refine z4 (z7 (d:=I 0) rfl rfl rfl) ?_|refine z07 (zm rfl rfl (by omega) (by simp)) ?_|refine z4 (zo rfl rfl (by omega) rfl rfl) ?_|refine z4 (zp rfl rfl (by simp)) ?_|refine z4 (z04 rfl rfl) ?_|refine z4 (z05 rfl rfl (by omega)) ?_|refine z4 (zx rfl rfl (by decide) (by assumption)) ?_|exact z5 rfl (by rw [hF (by (repeat' (first|rfl|rw [za (by first|omega|(simp only [zY01,zY03,zY04] at *;omega))]|rw [z9 (by first|omega|(simp only [zY01,zY03,zY04] at *;omega)) (by omega) (by omega)]|rw [if_pos (by omega)]|rw [if_neg (by omega)]|simp only [zY05,zY07])))];rfl)|exact z5 rfl (by rw [hF];rfl)|exact z6 rfl rfl (hO _ (by (repeat' (first|rfl|rw [za (by first|omega|(simp only [zY01,zY03,zY04] at *;omega))]|rw [z9 (by first|omega|(simp only [zY01,zY03,zY04] at *;omega)) (by omega) (by omega)]|rw [if_pos (by omega)]|rw [if_neg (by omega)]|simp only [zY05,zY07]))))|(refine zn rfl ?_;rw [zf])|(refine z6 rfl rfl ?_;rw [zf])|refine z02 rfl (fun h=>?_) (fun h=>?_)|refine tZn (fun h=>?_) (fun h=>?_))
   ·have e7:z0v (decide (b≠0) && decide (a≠0))=1:=by with_unfolding_all simp [z0v,hb0,ha0]
    rw [e7] at hF hO;have hz:b * a≠0:=Int.mul_ne_zero hb0 ha0
    repeat' (first|refine dq1 ?_|refine dqc ?_|refine dqm ?_|refine dqK rfl (zg _) ?_|refine dqT ?_|refine dqF ?_|refine zt rfl ?_|refine zq rfl ?_|refine z0e ?_|refine z0f ?_|refine z4 (z7 (d:=I 2) rfl rfl rfl) ?_|refine z4 (z7 (d:=I 1) rfl rfl rfl) ?_|refine z4 (z7 (d:=I 0) rfl rfl rfl) ?_|refine z07 (zm rfl rfl (by omega) (by simp)) ?_|refine z4 (zo rfl rfl (by omega) rfl rfl) ?_|refine z4 (zp rfl rfl (by simp)) ?_|refine z4 (z04 rfl rfl) ?_|refine z4 (z05 rfl rfl (by omega)) ?_|refine z4 (zx rfl rfl (by decide) (by assumption)) ?_|exact z5 rfl (by rw [hF (by (repeat' (first|rfl|rw [za (by first|omega|(simp only [zY01,zY03,zY04] at *;omega))]|rw [z9 (by first|omega|(simp only [zY01,zY03,zY04] at *;omega)) (by omega) (by omega)]|rw [if_pos (by omega)]|rw [if_neg (by omega)]|simp only [zY05,zY07])))];rfl)|exact z5 rfl (by rw [hF];rfl)|exact z6 rfl rfl (hO _ (by (repeat' (first|rfl|rw [za (by first|omega|(simp only [zY01,zY03,zY04] at *;omega))]|rw [z9 (by first|omega|(simp only [zY01,zY03,zY04] at *;omega)) (by omega) (by omega)]|rw [if_pos (by omega)]|rw [if_neg (by omega)]|simp only [zY05,zY07]))))|(refine zn rfl ?_;rw [zf])|(refine z6 rfl rfl ?_;rw [zf])|refine z02 rfl (fun h=>?_) (fun h=>?_)|refine tZn (fun h=>?_) (fun h=>?_))
theorem z05w:z4e 11:=by
 intro l s0 s ht nn k R again' hl16 hsl hfit hk hx hF hO;have hcase:=z22 hfit;have hs0t:s.take (((s.length:Nat):Int) - 0).toNat=s:=(by rw [show (((s.length:Nat):Int) - 0).toNat=s.length by omega];exact zY1c);simp only [z1y,Int.reduceEq,if_true,if_false] at hF hO;unfold z6y;with_unfolding_all show den z3g _ (z16 z0c) [_,_,_,_,_,_,_,_,_,_,_,_,_,_,_,_,_,_,_,_,_] _=_;simp only [z0c,z16]
 rcases hcase with ⟨c1,c2⟩|⟨a,t,fa,p1,p3,p4,p5,⟨c1,c2⟩|⟨b,u,fb,q1,q3,q4,q5⟩⟩
 ·try simp only [c2,z10,z15,zY07] at hF hO
  repeat' (first|refine dq1 ?_|refine dqc ?_|refine dqm ?_|refine dqK rfl (zg _) ?_|refine dqT ?_|refine dqF ?_|refine zt rfl ?_|refine zq rfl ?_|refine z0e ?_|refine z0f ?_|refine z4 (z7 (d:=I 2) rfl rfl rfl) ?_|refine z4 (z7 (d:=I 1) rfl rfl rfl) ?_|refine z4 (z7 (d:=I 0) rfl rfl rfl) ?_|refine z07 (zm rfl rfl (by omega) (by simp)) ?_|refine z4 (zo rfl rfl (by omega) rfl rfl) ?_|refine z4 (zp rfl rfl (by simp)) ?_|refine z4 (z04 rfl rfl) ?_|refine z4 (z05 rfl rfl (by omega)) ?_|refine z4 (zx rfl rfl (by decide) (by assumption)) ?_|exact z5 rfl (by rw [hF (by (repeat' (first|rfl|rw [za (by first|omega|(simp only [zY01,zY03,zY04] at *;omega))]|rw [z9 (by first|omega|(simp only [zY01,zY03,zY04] at *;omega)) (by omega) (by omega)]|rw [if_pos (by omega)]|rw [if_neg (by omega)]|simp only [zY05,zY07])))];rfl)|exact z5 rfl (by rw [hF];rfl)|exact z6 rfl rfl (hO _ (by (repeat' (first|rfl|rw [za (by first|omega|(simp only [zY01,zY03,zY04] at *;omega))]|rw [z9 (by first|omega|(simp only [zY01,zY03,zY04] at *;omega)) (by omega) (by omega)]|rw [if_pos (by omega)]|rw [if_neg (by omega)]|simp only [zY05,zY07]))))|(refine zn rfl ?_;rw [zf])|(refine z6 rfl rfl ?_;rw [zf])|refine z02 rfl (fun h=>?_) (fun h=>?_)|refine tZn (fun h=>?_) (fun h=>?_))
 ·try simp only [p1,c2,z10,z15,zY07,zY05] at hF hO
  obtain ⟨fa1,fa2⟩:=id fa
  repeat' (first|refine dq1 ?_|refine dqc ?_|refine dqm ?_|refine dqK rfl (zg _) ?_|refine dqT ?_|refine dqF ?_|refine zt rfl ?_|refine zq rfl ?_|refine z0e ?_|refine z0f ?_|refine z4 (z7 (d:=I 2) rfl rfl rfl) ?_|refine z4 (z7 (d:=I 1) rfl rfl rfl) ?_|refine z4 (z7 (d:=I 0) rfl rfl rfl) ?_|refine z07 (zm rfl rfl (by omega) (by simp)) ?_|refine z4 (zo rfl rfl (by omega) rfl rfl) ?_|refine z4 (zp rfl rfl (by simp)) ?_|refine z4 (z04 rfl rfl) ?_|refine z4 (z05 rfl rfl (by omega)) ?_|refine z4 (zx rfl rfl (by decide) (by assumption)) ?_|exact z5 rfl (by rw [hF (by (repeat' (first|rfl|rw [za (by first|omega|(simp only [zY01,zY03,zY04] at *;omega))]|rw [z9 (by first|omega|(simp only [zY01,zY03,zY04] at *;omega)) (by omega) (by omega)]|rw [if_pos (by omega)]|rw [if_neg (by omega)]|simp only [zY05,zY07])))];rfl)|exact z5 rfl (by rw [hF];rfl)|exact z6 rfl rfl (hO _ (by (repeat' (first|rfl|rw [za (by first|omega|(simp only [zY01,zY03,zY04] at *;omega))]|rw [z9 (by first|omega|(simp only [zY01,zY03,zY04] at *;omega)) (by omega) (by omega)]|rw [if_pos (by omega)]|rw [if_neg (by omega)]|simp only [zY05,zY07]))))|(refine zn rfl ?_;rw [zf])|(refine z6 rfl rfl ?_;rw [zf])|refine z02 rfl (fun h=>?_) (fun h=>?_)|refine tZn (fun h=>?_) (fun h=>?_))
 ·try simp only [p1,q1,z10,z15,zY07,zY05] at hF hO
  obtain ⟨fa1,fa2⟩:=id fa;obtain ⟨fb1,fb2⟩:=id fb
  repeat' (first|refine dq1 ?_|refine dqc ?_|refine dqm ?_|refine dqK rfl (zg _) ?_|refine dqT ?_|refine dqF ?_|refine zt rfl ?_|refine zq rfl ?_|refine z0e ?_|refine z0f ?_|refine z4 (z7 (d:=I 2) rfl rfl rfl) ?_|refine z4 (z7 (d:=I 1) rfl rfl rfl) ?_|refine z4 (z7 (d:=I 0) rfl rfl rfl) ?_|refine z07 (zm rfl rfl (by omega) (by simp)) ?_|refine z4 (zo rfl rfl (by omega) rfl rfl) ?_|refine z4 (zp rfl rfl (by simp)) ?_|refine z4 (z04 rfl rfl) ?_|refine z4 (z05 rfl rfl (by omega)) ?_|refine z4 (zx rfl rfl (by decide) (by assumption)) ?_|exact z5 rfl (by rw [hF (by (repeat' (first|rfl|rw [za (by first|omega|(simp only [zY01,zY03,zY04] at *;omega))]|rw [z9 (by first|omega|(simp only [zY01,zY03,zY04] at *;omega)) (by omega) (by omega)]|rw [if_pos (by omega)]|rw [if_neg (by omega)]|simp only [zY05,zY07])))];rfl)|exact z5 rfl (by rw [hF];rfl)|exact z6 rfl rfl (hO _ (by (repeat' (first|rfl|rw [za (by first|omega|(simp only [zY01,zY03,zY04] at *;omega))]|rw [z9 (by first|omega|(simp only [zY01,zY03,zY04] at *;omega)) (by omega) (by omega)]|rw [if_pos (by omega)]|rw [if_neg (by omega)]|simp only [zY05,zY07]))))|(refine zn rfl ?_;rw [zf])|(refine z6 rfl rfl ?_;rw [zf])|refine z02 rfl (fun h=>?_) (fun h=>?_)|refine tZn (fun h=>?_) (fun h=>?_))
theorem z05x:z4e 12:=by
 intro l s0 s ht nn k R again' hl16 hsl hfit hk hx hF hO;have hcase:=z22 hfit;have hs0t:s.take (((s.length:Nat):Int) - 0).toNat=s:=(by rw [show (((s.length:Nat):Int) - 0).toNat=s.length by omega];exact zY1c);simp only [z1y,Int.reduceEq,if_true,if_false] at hF hO;unfold z6y;with_unfolding_all show den z3g _ (z16 z0c) [_,_,_,_,_,_,_,_,_,_,_,_,_,_,_,_,_,_,_,_,_] _=_;simp only [z0c,z16]
 rcases hcase with ⟨c1,c2⟩|⟨a,t,fa,p1,p3,p4,p5,⟨c1,c2⟩|⟨b,u,fb,q1,q3,q4,q5⟩⟩
 ·try simp only [c2,z10,z15,zY07] at hF hO
  repeat' (first|refine dq1 ?_|refine dqc ?_|refine dqm ?_|refine dqK rfl (zg _) ?_|refine dqT ?_|refine dqF ?_|refine zt rfl ?_|refine zq rfl ?_|refine z0e ?_|refine z0f ?_|refine z4 (z7 (d:=I 2) rfl rfl rfl) ?_|refine z4 (z7 (d:=I 1) rfl rfl rfl) ?_|refine z4 (z7 (d:=I 0) rfl rfl rfl) ?_|refine z07 (zm rfl rfl (by omega) (by simp)) ?_|refine z4 (zo rfl rfl (by omega) rfl rfl) ?_|refine z4 (zp rfl rfl (by simp)) ?_|refine z4 (z04 rfl rfl) ?_|refine z4 (z05 rfl rfl (by omega)) ?_|refine z4 (zx rfl rfl (by decide) (by assumption)) ?_|exact z5 rfl (by rw [hF (by (repeat' (first|rfl|rw [za (by first|omega|(simp only [zY01,zY03,zY04] at *;omega))]|rw [z9 (by first|omega|(simp only [zY01,zY03,zY04] at *;omega)) (by omega) (by omega)]|rw [if_pos (by omega)]|rw [if_neg (by omega)]|simp only [zY05,zY07])))];rfl)|exact z5 rfl (by rw [hF];rfl)|exact z6 rfl rfl (hO _ (by (repeat' (first|rfl|rw [za (by first|omega|(simp only [zY01,zY03,zY04] at *;omega))]|rw [z9 (by first|omega|(simp only [zY01,zY03,zY04] at *;omega)) (by omega) (by omega)]|rw [if_pos (by omega)]|rw [if_neg (by omega)]|simp only [zY05,zY07]))))|(refine zn rfl ?_;rw [zf])|(refine z6 rfl rfl ?_;rw [zf])|refine z02 rfl (fun h=>?_) (fun h=>?_)|refine tZn (fun h=>?_) (fun h=>?_))
 ·try simp only [p1,c2,z10,z15,zY07,zY05] at hF hO
  obtain ⟨fa1,fa2⟩:=id fa
  repeat' (first|refine dq1 ?_|refine dqc ?_|refine dqm ?_|refine dqK rfl (zg _) ?_|refine dqT ?_|refine dqF ?_|refine zt rfl ?_|refine zq rfl ?_|refine z0e ?_|refine z0f ?_|refine z4 (z7 (d:=I 2) rfl rfl rfl) ?_|refine z4 (z7 (d:=I 1) rfl rfl rfl) ?_|refine z4 (z7 (d:=I 0) rfl rfl rfl) ?_|refine z07 (zm rfl rfl (by omega) (by simp)) ?_|refine z4 (zo rfl rfl (by omega) rfl rfl) ?_|refine z4 (zp rfl rfl (by simp)) ?_|refine z4 (z04 rfl rfl) ?_|refine z4 (z05 rfl rfl (by omega)) ?_|refine z4 (zx rfl rfl (by decide) (by assumption)) ?_|exact z5 rfl (by rw [hF (by (repeat' (first|rfl|rw [za (by first|omega|(simp only [zY01,zY03,zY04] at *;omega))]|rw [z9 (by first|omega|(simp only [zY01,zY03,zY04] at *;omega)) (by omega) (by omega)]|rw [if_pos (by omega)]|rw [if_neg (by omega)]|simp only [zY05,zY07])))];rfl)|exact z5 rfl (by rw [hF];rfl)|exact z6 rfl rfl (hO _ (by (repeat' (first|rfl|rw [za (by first|omega|(simp only [zY01,zY03,zY04] at *;omega))]|rw [z9 (by first|omega|(simp only [zY01,zY03,zY04] at *;omega)) (by omega) (by omega)]|rw [if_pos (by omega)]|rw [if_neg (by omega)]|simp only [zY05,zY07]))))|(refine zn rfl ?_;rw [zf])|(refine z6 rfl rfl ?_;rw [zf])|refine z02 rfl (fun h=>?_) (fun h=>?_)|refine tZn (fun h=>?_) (fun h=>?_))
 ·try simp only [p1,q1,z10,z15,zY07,zY05] at hF hO
  obtain ⟨fa1,fa2⟩:=id fa;obtain ⟨fb1,fb2⟩:=id fb
  repeat' (first|refine dq1 ?_|refine dqc ?_|refine dqm ?_|refine dqK rfl (zg _) ?_|refine dqT ?_|refine dqF ?_|refine zt rfl ?_|refine zq rfl ?_|refine z0e ?_|refine z0f ?_|refine z4 (z7 (d:=I 2) rfl rfl rfl) ?_|refine z4 (z7 (d:=I 1) rfl rfl rfl) ?_|refine z4 (z7 (d:=I 0) rfl rfl rfl) ?_|refine z07 (zm rfl rfl (by omega) (by simp)) ?_|refine z4 (zo rfl rfl (by omega) rfl rfl) ?_|refine z4 (zp rfl rfl (by simp)) ?_|refine z4 (z04 rfl rfl) ?_|refine z4 (z05 rfl rfl (by omega)) ?_|refine z4 (zx rfl rfl (by decide) (by assumption)) ?_|exact z5 rfl (by rw [hF (by (repeat' (first|rfl|rw [za (by first|omega|(simp only [zY01,zY03,zY04] at *;omega))]|rw [z9 (by first|omega|(simp only [zY01,zY03,zY04] at *;omega)) (by omega) (by omega)]|rw [if_pos (by omega)]|rw [if_neg (by omega)]|simp only [zY05,zY07])))];rfl)|exact z5 rfl (by rw [hF];rfl)|exact z6 rfl rfl (hO _ (by (repeat' (first|rfl|rw [za (by first|omega|(simp only [zY01,zY03,zY04] at *;omega))]|rw [z9 (by first|omega|(simp only [zY01,zY03,zY04] at *;omega)) (by omega) (by omega)]|rw [if_pos (by omega)]|rw [if_neg (by omega)]|simp only [zY05,zY07]))))|(refine zn rfl ?_;rw [zf])|(refine z6 rfl rfl ?_;rw [zf])|refine z02 rfl (fun h=>?_) (fun h=>?_)|refine tZn (fun h=>?_) (fun h=>?_))
theorem za9 {x:Int} (h0:0≤x):0≤z0s x∧z0s x<1000003:=by
 unfold z0s;exact ⟨zY3h _ (by omega),Int.tmod_lt_of_pos _ (by omega)⟩
theorem z05y:z4e 13:=by
 intro l s0 s ht nn k R again' hl16 hsl hfit hk hx hF hO;have hcase:=z22 hfit;have hs0t:s.take (((s.length:Nat):Int) - 0).toNat=s:=(by rw [show (((s.length:Nat):Int) - 0).toNat=s.length by omega];exact zY1c);simp only [z1y,Int.reduceEq,if_true,if_false] at hF hO;unfold z6y;with_unfolding_all show den z3g _ (z16 z0c) [_,_,_,_,_,_,_,_,_,_,_,_,_,_,_,_,_,_,_,_,_] _=_;simp only [z0c,z16]
 rcases hcase with ⟨c1,c2⟩|⟨a,t,fa,p1,p3,p4,p5,-⟩
 ·try simp only [c2,z10,z15,zY07] at hF hO
  repeat' (first|refine dq1 ?_|refine dqc ?_|refine dqm ?_|refine dqK rfl (zg _) ?_|refine dqT ?_|refine dqF ?_|refine zt rfl ?_|refine zq rfl ?_|refine z0e ?_|refine z0f ?_|refine z4 (z7 (d:=I 2) rfl rfl rfl) ?_|refine z4 (z7 (d:=I 1) rfl rfl rfl) ?_|refine z4 (z7 (d:=I 0) rfl rfl rfl) ?_|refine z07 (zm rfl rfl (by omega) (by simp)) ?_|refine z4 (zo rfl rfl (by omega) rfl rfl) ?_|refine z4 (zp rfl rfl (by simp)) ?_|refine z4 (z04 rfl rfl) ?_|refine z4 (z05 rfl rfl (by omega)) ?_|refine z4 (zx rfl rfl (by decide) (by assumption)) ?_|exact z5 rfl (by rw [hF (by (repeat' (first|rfl|rw [za (by first|omega|(simp only [zY01,zY03,zY04] at *;omega))]|rw [z9 (by first|omega|(simp only [zY01,zY03,zY04] at *;omega)) (by omega) (by omega)]|rw [if_pos (by omega)]|rw [if_neg (by omega)]|simp only [zY05,zY07])))];rfl)|exact z5 rfl (by rw [hF];rfl)|exact z6 rfl rfl (hO _ (by (repeat' (first|rfl|rw [za (by first|omega|(simp only [zY01,zY03,zY04] at *;omega))]|rw [z9 (by first|omega|(simp only [zY01,zY03,zY04] at *;omega)) (by omega) (by omega)]|rw [if_pos (by omega)]|rw [if_neg (by omega)]|simp only [zY05,zY07]))))|(refine zn rfl ?_;rw [zf])|(refine z6 rfl rfl ?_;rw [zf])|refine z02 rfl (fun h=>?_) (fun h=>?_)|refine tZn (fun h=>?_) (fun h=>?_))
 ·try simp only [p1,z10,z15,zY07,zY05] at hF hO
  obtain ⟨fa1,fa2⟩:=id fa;obtain ⟨x1,hx1⟩:∃ x,x=z0s (a+1000000):=⟨_,rfl⟩
  obtain ⟨x2,hx2⟩:∃ x,x=z0s x1:=⟨_,rfl⟩
  obtain ⟨x3,hx3⟩:∃ x,x=z0s x2:=⟨_,rfl⟩
  obtain ⟨x4,hx4⟩:∃ x,x=x3.tmod 1000001:=⟨_,rfl⟩
  have b1:=za9 (x:=a+1000000) (by omega);rw [← hx1] at b1;have b2:=za9 b1.1;rw [← hx2] at b2;have b3:=za9 b2.1;rw [← hx3] at b3;have em:z6n a=x4:=by
   with_unfolding_all show (z0s (z0s (z0s (a+1000000)))).tmod 1000001=x4
   rw [← hx1,← hx2,← hx3,← hx4]
  have b4:=zY3h (1000001:Int) b3.1;have b5:=Int.tmod_lt_of_pos x3 (b:=1000001) (by omega);rw [← hx4] at b4 b5;have r1:((a+1000000) * 7919+104729).tmod 1000003=x1:=hx1.symm;have r2:(x1 * 7919+104729).tmod 1000003=x2:=hx2.symm;have r3:(x2 * 7919+104729).tmod 1000003=x3:=hx3.symm;have r4:x3.tmod 1000001=x4:=hx4.symm;rw [em] at hF hO;clear hx1 hx2 hx3 hx4 em
  repeat' (first|refine dq1 ?_|refine dqc ?_|refine dqm ?_|refine dqK rfl (zg _) ?_|refine dqT ?_|refine dqF ?_|refine zt rfl ?_|refine zq rfl ?_|refine z0e ?_|refine z0f ?_|refine z4 (z7 (d:=I 2) rfl rfl rfl) ?_|refine z4 (z7 (d:=I 1) rfl rfl rfl) ?_|refine z4 (z7 (d:=I 0) rfl rfl rfl) ?_|refine z07 (zm rfl rfl (by omega) (by simp)) ?_|refine z4 (zo rfl rfl (by omega) rfl rfl) ?_|refine z4 (zp rfl rfl (by simp)) ?_|refine z4 (z04 rfl rfl) ?_|refine z4 (z05 rfl rfl (by omega)) ?_|refine z4 (zx rfl rfl (by decide) (by assumption)) ?_|exact z5 rfl (by rw [hF (by (repeat' (first|rfl|rw [za (by first|omega|(simp only [zY01,zY03,zY04] at *;omega))]|rw [z9 (by first|omega|(simp only [zY01,zY03,zY04] at *;omega)) (by omega) (by omega)]|rw [if_pos (by omega)]|rw [if_neg (by omega)]|simp only [zY05,zY07])))];rfl)|exact z5 rfl (by rw [hF];rfl)|exact z6 rfl rfl (hO _ (by (repeat' (first|rfl|rw [za (by first|omega|(simp only [zY01,zY03,zY04] at *;omega))]|rw [z9 (by first|omega|(simp only [zY01,zY03,zY04] at *;omega)) (by omega) (by omega)]|rw [if_pos (by omega)]|rw [if_neg (by omega)]|simp only [zY05,zY07]))))|(refine zn rfl ?_;rw [zf])|(refine z6 rfl rfl ?_;rw [zf])|refine z02 rfl (fun h=>?_) (fun h=>?_)|refine tZn (fun h=>?_) (fun h=>?_))
end
section
open Go.RowKit
set_option maxRecDepth 100000
set_option maxHeartbeats 8000000
attribute [local irreducible] z0p spD z14 z6n z0v
theorem z37 {sp:Nat→zh} {E:Env} {vs l:Nat} {a ka:Atom} {ats:List Atom} {rows r:List (List Dt)} {n:Int} {ds:List Dt} (ha:a.val E=some (.l l rows)) (hk:ka.val E=some (I n)) (hv:vals E ats=some ds) (h:ds.length=vs∧l=1+vs) (hr:z8f n ds rows=r):denX sp E (.mput vs a ka ats)=some (.l (1+vs) r):=by
 simp only [denX,ha,hk,asI,hv];rw [if_pos h,hr]
attribute [local irreducible] den denX z1b z1q
attribute [local irreducible] z40
theorem z03w:Meets Tryz.prog z8q 55 ⟨[.one,.one,.one],[(false,[.fresh 3 1]),(false,[.scal])],false⟩:=by
 refine z7y (sp:=(z0w [(40,z40)])) (sigs:=z17) (cut:=[65]) (hints:=[⟨5,[.r 6 3 1,.t 7,.r 1 3 1,.t 26,.z 21]⟩,⟨49,[.r 6 3 1,.t 7,.r 1 3 1,.t 147,.z 65,.z 34,.z 40,.z 41,.z 44,.z 48,.z 49,.z 52,.z 54,.z 55,.z 58,.z 60,.z 61]⟩,⟨44,[.t 16,.t 135]⟩]) (fns:=[z86 65 Tryz.f65 [] []]) (dep:=2) (pool:=300) (fn:=Tryz.f55) (t:=z0c) (by kernel_rfl) (by kernel_rfl) (by kernel_rfl) ?_ ?_ ?_
 ·exact (z28 (fn:=Tryz.f65) (by kernel_rfl) (by kernel_rfl) (by kernel_rfl) (by kernel_rfl) (by kernel_rfl) z9b)
 ·exact (z0q (L:=[(40,z40)]) ⟨zj rfl z07z,trivial⟩)
 ·rintro ds rs - h
  obtain ⟨⟨l,s0,ht⟩,⟨hc0,hs0⟩,rfl,rfl⟩:=z01 h;clear h;simp only at hc0 hs0;refine ⟨⟨l.length+6,?_⟩,?_⟩
  ·show den _ _ z0c [.l 2 (l.map eOp),.l 1 (s0.map z13),I ht] []=ret (za8 (z1w ht s0 l))
   obtain ⟨hl16,hall⟩:=z09z hc0;have hs0l:=hs0.1;unfold z0c;refine z4 (zp (r:=[]) rfl rfl (by simp)) ?_;refine z4 (zct (l:=([]:List Int)) (l':=s0) (f:=z13) rfl rfl (by simp;omega)) ?_;refine z4 (d:=.l 2 [[I 2,I 1]]) (z37 rfl rfl rfl ⟨rfl,rfl⟩ rfl) ?_;refine z4 (d:=.l 2 [[I 2,I 1],[I 3,I 2]]) (z37 rfl rfl rfl ⟨rfl,rfl⟩ rfl) ?_;refine z4 (d:=.l 2 [[I 2,I 1],[I 3,I 2],[I 4,I 1]]) (z37 rfl rfl rfl ⟨rfl,rfl⟩ rfl) ?_;refine z4 (d:=.l 2 [[I 2,I 1],[I 3,I 2],[I 4,I 1],[I 5,I 2]]) (z37 rfl rfl rfl ⟨rfl,rfl⟩ rfl) ?_;refine z4 (d:=.l 2 [[I 2,I 1],[I 3,I 2],[I 4,I 1],[I 5,I 2],[I 6,I 2]]) (z37 rfl rfl rfl ⟨rfl,rfl⟩ rfl) ?_;refine z4 (d:=.l 2 [[I 2,I 1],[I 3,I 2],[I 4,I 1],[I 5,I 2],[I 6,I 2],[I 7,I 2]]) (z37 rfl rfl rfl ⟨rfl,rfl⟩ rfl) ?_;refine z4 (d:=.l 2 [[I 2,I 1],[I 3,I 2],[I 4,I 1],[I 5,I 2],[I 6,I 2],[I 7,I 2],[I 8,I 2]]) (z37 rfl rfl rfl ⟨rfl,rfl⟩ rfl) ?_;refine z4 (d:=.l 2 [[I 2,I 1],[I 3,I 2],[I 4,I 1],[I 5,I 2],[I 6,I 2],[I 7,I 2],[I 8,I 2],[I 9,I 1]]) (z37 rfl rfl rfl ⟨rfl,rfl⟩ rfl) ?_;refine z4 (d:=.l 2 [[I 2,I 1],[I 3,I 2],[I 4,I 1],[I 5,I 2],[I 6,I 2],[I 7,I 2],[I 8,I 2],[I 9,I 1],[I 10,I 2]]) (z37 rfl rfl rfl ⟨rfl,rfl⟩ rfl) ?_;refine z4 (d:=.l 2 [[I 2,I 1],[I 3,I 2],[I 4,I 1],[I 5,I 2],[I 6,I 2],[I 7,I 2],[I 8,I 2],[I 9,I 1],[I 10,I 2],[I 11,I 1]]) (z37 rfl rfl rfl ⟨rfl,rfl⟩ rfl) ?_;refine z4 (d:=.l 2 [[I 2,I 1],[I 3,I 2],[I 4,I 1],[I 5,I 2],[I 6,I 2],[I 7,I 2],[I 8,I 2],[I 9,I 1],[I 10,I 2],[I 11,I 1],[I 13,I 1]]) (z37 rfl rfl rfl ⟨rfl,rfl⟩ rfl) ?_
   repeat' (first|refine dq1 ?_|refine dqc ?_|refine dqm ?_|exact z5 rfl rfl|((first|refine tR ?_ ?_|refine tB ?_ ?_|refine tC ?_ ?_|refine tN ?_ ?_|refine tF ?_ ?_|refine tG ?_ ?_|refine tP ?_ ?_|refine tQ ?_ ?_|refine tA ?_ ?_|refine tO ?_ ?_|refine tU ?_ ?_|refine tV ?_ ?_) <;> intro h)|refine dqT ?_|refine dqF ?_|refine zt rfl ?_|refine zq rfl ?_|refine z0e ?_|refine z0f ?_)
   (refine z0k (fun (s:List Int) k=>[.l 1 (([]:List Int).map z13),.b false,.l 1 (s.map z13),I k]) (fun (s:List Int) _ (r:List Op)=>za8 (z1w ht s r)) (fun s _=>z11 s) s0 l ?_ ?_ ?_ ?_ ?_;rfl;exact hs0;omega)
   ·rintro s k ⟨kd,nn⟩ r hx hd hk hs again' hag
    have hob:=z03v (hall _ (zY0o hx));simp only at hob;have hF:z1y ht s ⟨kd,nn⟩=none→za8 (z1w ht s (⟨kd,nn⟩::r))=([],false):=fun e=>by rw [z1w,e];rfl
    have hO:∀ s',z1y ht s ⟨kd,nn⟩=some s'→again' [.l 1 (([]:List Int).map z13),.b false,.l 1 (s'.map z13),I ((k:Int)+1)]=ret (za8 (z1w ht s (⟨kd,nn⟩::r))):=fun s' e=>by rw [z1w,e];exact hag s' (zbl hs e)
    have key:∀ kd,1≤kd→kd≤13→z4e kd:=fun kd h0 h1=>by
     have hk13:kd=1∨kd=2∨kd=3∨kd=4∨kd=5∨kd=6∨kd=7∨kd=8∨kd=9∨kd=10∨kd=11∨kd=12∨kd=13:=by omega
     rcases hk13 with rfl|rfl|rfl|rfl|rfl|rfl|rfl|rfl|rfl|rfl|rfl|rfl|rfl
     all_goals first|exact z080|exact z081|exact z082|exact z083|exact z084|exact z085|exact z086|exact z087|exact z088|exact z05v|exact z05w|exact z05x|exact z05y
    exact key kd hob.1 hob.2 l s0 s ht nn k _ again' hl16 hs.1 hs hk hx hF hO
   ·rintro s hs again'
    repeat' (first|refine dq1 ?_|refine dqc ?_|refine dqm ?_|exact z5 rfl rfl|((first|refine tR ?_ ?_|refine tB ?_ ?_|refine tC ?_ ?_|refine tN ?_ ?_|refine tF ?_ ?_|refine tG ?_ ?_|refine tP ?_ ?_|refine tQ ?_ ?_|refine tA ?_ ?_|refine tO ?_ ?_|refine tU ?_ ?_|refine tV ?_ ?_) <;> intro h)|refine dqT ?_|refine dqF ?_|refine zt rfl ?_|refine zq rfl ?_|refine z0e ?_|refine z0f ?_)
  ·intro i d hi hd
   match i,hi,hd with
   | 0,hi,_=>simp [zw] at hi
   | 1,_,hd=>simp only [Enc.e,z13,z5n,zY18,zY0y,zY09,zY22,zY00] at hd;subst hd;rfl
   | i+2,hi,hd=>simp [zw] at hi
noncomputable def z6z:zh:=spD (fun x:List Op × List Op × Int=>zd x.1=0∧zd x.2.1=0∧0≤x.2.2∧x.2.2≤1000) fun x=>(z21 x.1 x.2.1 x.2.2).1
theorem zma (l k:List Op) (h:Int) (hl:zd l=0) (hk:zd k=0) (h0:0≤h∧h≤1000):z6z [.l 2 (l.map eOp),.l 2 (k.map eOp),I h]=some [.b (z21 l k h).1]:=z09 (p:=fun x:List Op × List Op × Int=>zd x.1=0∧zd x.2.1=0∧0≤x.2.2∧x.2.2≤1000) (f:=fun x:List Op × List Op × Int=>(z21 x.1 x.2.1 x.2.2).1) (l,k,h) ⟨hl,hk,h0⟩
attribute [local irreducible] z1w z21
theorem z03x:Meets Tryz.prog z6z 32 ⟨[.one,.one,.one],[(false,[.scal])],true⟩:=by
 refine z06 (sp:=(z0w [(41,z8q)])) (sigs:=z17) (cut:=[]) (hints:=[]) (fn:=Tryz.f32) (t:=zdj) (by kernel_rfl) (by kernel_rfl) (by kernel_rfl) ?_ ?_
 ·exact (z0q (L:=[(41,z8q)]) ⟨zj rfl z03w,trivial⟩)
 ·rintro ds rs - h
  obtain ⟨⟨l,k,ht⟩,⟨hl,hk,h0,h1⟩,rfl,rfl⟩:=z01 h;clear h;simp only at hl hk h0 h1;refine ⟨⟨1,?_⟩,z0i rfl⟩
  show den _ _ zdj [.l 2 (l.map eOp),.l 2 (k.map eOp),I ht] []=ret (z21 l k ht).1
  rw [z00l hl hk h0 h1];have a1:=zc7 k [] ht hk z7q;have hsk:∀ s,z1w ht [] k=some s→z11 s:=fun s h=>zf5 z7q h
  unfold zdj;generalize z1w ht [] k=r at *
  cases r with
  | none =>
   simp only [za8,zY07,zgw] at a1 ⊢
   repeat' (first|refine dq1 ?_|refine dqc ?_|refine dqm ?_|refine dqK rfl (a1) ?_|exact z5 rfl rfl|((first|refine tR ?_ ?_|refine tB ?_ ?_|refine tC ?_ ?_|refine tN ?_ ?_|refine tF ?_ ?_|refine tG ?_ ?_|refine tP ?_ ?_|refine tQ ?_ ?_|refine tA ?_ ?_|refine tO ?_ ?_|refine tU ?_ ?_|refine tV ?_ ?_) <;> intro h)|refine dqT ?_|refine dqF ?_|refine zt rfl ?_|refine zq rfl ?_|refine z0e ?_|refine z0f ?_)
  | some s =>
   have hs:=hsk s rfl;have a2:=zc7 l s ht hl hs;simp only [zY05];generalize z1w ht s l=q at *;rcases q with _|⟨_|⟨x,_|⟨y,t⟩⟩⟩
   all_goals
    simp only [za8,zgw] at a1 a2 ⊢
    try have hl0:¬ (((([]:List Int).length:Nat):Int)=1):=by simp
    try have hl1:((([x]:List Int).length:Nat):Int)=1:=rfl
    try have hl2:¬ ((((x::y::t).length:Nat):Int)=1):=by simp only [zY03];omega
    try have hx0:([x]:List Int)[(0:Int).toNat]? = some x:=rfl
    repeat' (first|refine dq1 ?_|refine dqc ?_|refine dqm ?_|refine dqK rfl (a1) ?_|refine dqK rfl (a2) ?_|exact z5 rfl rfl|((first|refine tR ?_ ?_|refine tB ?_ ?_|refine tC ?_ ?_|refine tN ?_ ?_|refine tF ?_ ?_|refine tG ?_ ?_|refine tP ?_ ?_|refine tQ ?_ ?_|refine tA ?_ ?_|refine tO ?_ ?_|refine tU ?_ ?_|refine tV ?_ ?_) <;> intro h)|refine dqT ?_|refine dqF ?_|refine zt rfl ?_|refine zq rfl ?_|refine z0e ?_|refine z0f ?_)
end
section
open Go.RowKit
set_option maxRecDepth 100000
set_option maxHeartbeats 4000000
attribute [local irreducible] z0p spD z14 ze zr z21 zd z0g z2m
attribute [local irreducible] den denX z1b z1q
noncomputable def z83:zh:=spD z7z fun x=>z2s x.1 x.2
theorem zut (t:Tx) (l:List Coin) (h:z7z (t,l)):z83 [I t.height,.l 3 (t.ins.map eIn),.l 2 (t.outs.map z1p),.l 6 (l.map zb)]=some [I (z2s t l)]:=z09 (p:=z7z) (f:=fun x:Tx × List Coin=>z2s x.1 x.2) (t,l) h
def z00m:T :=
 .lets [.idx 3 6 0,.idx 3 6 1,.idx 3 6 2,.idx 3 6 3,.idx 3 6 4,.idx 3 6 5] [] (.lets [.bin .add 5 10] []
 (.lets [.bin .add 6 (zI 1)] [] (.again 0 [14,15])))
def z00n:T :=
 .lets [.idx 2 10 0,.idx 2 10 1] [] (.lets [.bin .sub 9 12] [] (.lets [.bin .add 10 (zI 1)] [] (.again 1 [14,15])))
def z00o:T :=
 .lets [.len 2] [] (.loop [5,zI 0] (.lets [.bin .lss 10 8] [] (.ite 11 (.lets [] [.inr 2 2 10] z00n) (.ret [9]))))
def zf6:T :=
 .lets [.len 3] [] (.loop [zI 0,zI 0] (.lets [.bin .lss 6 4] [] (.ite 7 (.lets [] [.inr 6 3 6] z00m) z00o)))
theorem z05z:Meets Tryz.prog z83 34 ⟨[.agg 3,.one],[(false,[.scal])],true⟩:=by
 refine z06 (sp:=(z0w [])) (sigs:=z17) (cut:=[]) (hints:=[⟨3,[.t 5,.t 12]⟩,⟨8,[.t 5,.t 25]⟩]) (fn:=Tryz.f34) (t:=zf6) (by kernel_rfl) (by kernel_rfl) (by kernel_rfl) ?_ ?_
 ·exact (z0q (L:=[]) trivial)
 ·rintro ds rs - h
  obtain ⟨⟨t,l⟩,⟨h1,h2,h3,h4⟩,rfl,rfl⟩:=z01 h;clear h;simp only at h1 h2 h3 h4;refine ⟨⟨l.length+t.outs.length+1,?_⟩,z0i rfl⟩
  show den _ _ zf6 [I t.height,.l 3 (t.ins.map eIn),.l 2 (t.outs.map z1p),.l 6 (l.map zb)] []=ret (z2s t l)
  unfold zf6 z2s
  repeat' (first|refine dq1 ?_|fail)
  (refine z0k (fun (s:Int) k=>[I s,I k]) (fun (s:Int) _ (r:List Coin)=>t.outs.foldl (fun s o=>s - o.coin) (r.foldl (fun s c=>s+c.o.coin) s)) (fun s k=>0≤s∧s≤k * 1000000000) (0:Int) l ?_ ?_ ?_ ?_ ?_;rfl;exact ⟨by omega,by omega⟩;omega)
  ·rintro s k c r hx hd hkl ⟨h0,h5⟩ again hag
   have hc:=h2 c (zY0o hx)
   repeat' (first|refine dq1 ?_|refine dqc ?_|refine dqm ?_|refine dqT ?_|fail)
   exact z6 rfl rfl (hag (s+c.o.coin) ⟨by omega,by omega⟩)
  ·rintro s ⟨h0,h5⟩ again
   repeat' (first|refine dq1 ?_|refine dqF ?_|fail)
   (refine z0k (fun (s:Int) k=>[I s,I k]) (fun (s:Int) _ (r:List Out)=>r.foldl (fun s o=>s - o.coin) s) (fun s k => - (k * 1000000000)≤s∧s≤l.length * 1000000000) s t.outs ?_ ?_ ?_ ?_ ?_;rfl;exact ⟨by omega,by omega⟩;omega)
   ·rintro s k c r hx hd hkl ⟨h0,h5⟩ again' hag
    have hc:=h4 c (zY0o hx)
    repeat' (first|refine dq1 ?_|refine dqc ?_|refine dqm ?_|refine dqT ?_|fail)
    exact z6 rfl rfl (hag (s - c.coin) ⟨by omega,by omega⟩)
   ·rintro s ⟨h0,h5⟩ again'
    repeat' (first|refine dq1 ?_|exact z5 rfl rfl|refine dqF ?_|fail)
attribute [local irreducible] z2s
structure SpJ (l:List Coin) (st:List Coin × List Coin) (k:Nat):Prop where
 dist:z0y st.1
 len:st.1.length≤l.length
 good:∀ c ∈ st.1,z2z c=0
 cnt:st.2.length=k
 spent:∀ c ∈ st.2,z2z c=0
theorem SpJ.cut {l:List Coin} {r s:List Coin} {k:Nat} {c:Coin} {j:Nat} (h:SpJ l (r,s) k) (hc:r[j]? = some c):SpJ l (r.take j++r.drop (j+1),s++[c]) (k+1):=by
 refine ⟨zf4 h.dist j,?_,fun d hd=>?_,?_,fun d hd=>?_⟩
 ·have:=h.len
  simp only [zY01,zY0d,zY0r] at this ⊢;omega
 ·rcases zY0z.1 hd with hd|hd
  ·exact h.good d (zY2b hd)
  ·exact h.good d (zY1x hd)
 ·have:=h.cnt
  simp only [zY01,zY1b] at this ⊢;omega
 ·rcases zY0z.1 hd with hd|hd
  ·exact h.spent d hd
  ·rw [zY13.1 hd];exact h.good c (zY0o hc)
theorem SpJ.fee {l:List Coin} {r s:List Coin} {t:Tx} (h:SpJ l (r,s) t.ins.length) (ht:TxOK t):z7z (t,s):=by
 have h1:=h.cnt;have h2:=ht.ins;have h3:=ht.outs;simp only at h1;refine ⟨by simp only;omega,fun c hc=>?_,by simp only;omega,fun o ho=>?_⟩
 ·have:=z2g (h.spent c hc)
  exact ⟨by omega,by omega⟩
 ·have:=ht.good o ho
  exact ⟨by omega,by omega⟩
noncomputable def z5j:zh:=spD (fun x:List Coin × Tx × Int × Int=>ze x.1=0∧zr x.2.1=0) fun x=>z36 x.1 x.2.1 x.2.2.1 x.2.2.2
theorem zi0 (l:List Coin) (t:Tx) (nm h:Int) (hl:ze l=0) (ht:zr t=0):z5j [.l 6 (l.map zb),I t.height,.l 3 (t.ins.map eIn),.l 2 (t.outs.map z1p),I nm,I h]=some [.l 6 ((z36 l t nm h).1.map zb),.l 6 ((z36 l t nm h).2.1.map zb),I (z36 l t nm h).2.2]:=z09 (f:=fun x:List Coin × Tx × Int × Int=>z36 x.1 x.2.1 x.2.2.1 x.2.2.2) (l,t,nm,h) ⟨hl,ht⟩
def zuu:T :=
 .lets [.mk 1 [[38],[40]]] [] (.lets [.call 46 [41] 0] [] (.lets [.bin .add 19 (zI 1)] [] (.again 0 [37,16,17,42,43])))
def zuv:T :=
 .lets [.app 6 15 36] [] (.lets [.sub 6 18 none (some 24)] [] (.lets [.bin .add 24 (zI 1)] [] (.lets [.sub 6 18 (some 39) none] []
 zuu)))
def zuw:T :=
 .lets [.not 34] [] (.ite 35 (.ret [.c (.nil 6),.c (.nil 6),zI 8]) (.lets [.mk 6 [[26,27,28,29,30,31]]] [] zuv))
def zux:T :=
 .lets [.bin .add 30 (zI 2)] [] (.lets [.bin .gtr 32 5] [] (.ite 33 (.ret [.c (.nil 6),.c (.nil 6),zI 10]) (.lets [.call 42 [29,23,
 .v 5] 0] [] zuw)))
def zuy:T :=
 .lets [.mk 1 [[36],[38]]] [] (.lets [.call 46 [39] 0] [] (.lets [.bin .add 19 (zI 1)] [] (.again 0 [35,16,17,40,41])))
def zuz:T :=
 .lets [.app 6 15 34] [] (.lets [.sub 6 18 none (some 24)] [] (.lets [.bin .add 24 (zI 1)] [] (.lets [.sub 6 18 (some 37) none] []
 zuy)))
def zv0:T :=
 .lets [.not 32] [] (.ite 33 (.ret [.c (.nil 6),.c (.nil 6),zI 8]) (.lets [.mk 6 [[26,27,28,29,30,31]]] [] zuz))
def zv1:T :=
 .lets [.idx 18 24 0,.idx 18 24 1,.idx 18 24 2,.idx 18 24 3,.idx 18 24 4,.idx 18 24 5] [] (.ite 31 zux
 (.lets [.call 42 [29,23,5] 0] [] zv0))
def zv2:T :=
 .lets [.call 43 [18,21,22] 0] [] (.lets [.bin .lss 24 (zI 0)] [] (.ite 25 (.ret [.c (.nil 6),.c (.nil 6),zI 7]) (.lets [] [.inr 6 18
 24] zv1)))
def zv3:T :=
 .lets [.mk 6 [[4,25,27,28,5,11]]] [] (.lets [.app 6 31 32] [] (.lets [.bin .add 25 (zI 1)] [] (.again 1 [22,23,33,.v
 34])))
def zmb:T :=
 .lets [.call 43 [24,4,25] 0] [] (.lets [.bin .geq 29 (zI 0)] [] (.ite 30 (.ret [.c (.nil 6),.c (.nil 6),zI 6]) (.lets [.call 9 [24] 0]
 [] zv3)))
def zmc:T :=
 .lets [.call 27 [27] 0] [] (.lets [.bin .neq 28 (zI 0)] [] (.ite 29 (.ret [.c (.nil 6),.c (.nil 6),28]) (.ret [27,15,zI 0])))
def zmd:T :=
 .ite 26 (.lets [] [.inr 2 3 25] (.lets [.idx 3 25 0,.idx 3 25 1] [] zmb)) (.lets [.call 44 [24] 0] [] zmc)
def zme:T :=
 .ite 20 (.lets [] [.inr 3 2 19] (.lets [.idx 2 19 0,.idx 2 19 1,.idx 2 19 2] [] zv2)) (.lets [.len 3] [] (.loop [16,
 .v 17,18,zI 0] (.lets [.bin .lss 25 21] [] zmd)))
def zmf:T :=
 .lets [.call 9 [0] 0] [] (.lets [.len 2] [] (.loop [.c (.nil 6),.c (.nil 6),zI 0,13,zI 0] (.lets [.bin .lss 19 14] [] zme)))
def zmg:T :=
 .lets [.mk 1 [[37],[39]]] [] (.lets [.call 46 [40] 0] [] (.lets [.bin .add 18 (zI 1)] [] (.again 0 [36,15,16,41,42])))
def zmh:T :=
 .lets [.app 6 14 35] [] (.lets [.sub 6 17 none (some 23)] [] (.lets [.bin .add 23 (zI 1)] [] (.lets [.sub 6 17 (some 38) none] []
 zmg)))
def zmi:T :=
 .lets [.not 33] [] (.ite 34 (.ret [.c (.nil 6),.c (.nil 6),zI 8]) (.lets [.mk 6 [[25,26,27,28,29,30]]] [] zmh))
def zmj:T :=
 .lets [.bin .add 29 (zI 2)] [] (.lets [.bin .gtr 31 5] [] (.ite 32 (.ret [.c (.nil 6),.c (.nil 6),zI 10]) (.lets [.call 42 [28,22,
 .v 5] 0] [] zmi)))
def zmk:T :=
 .lets [.mk 1 [[35],[37]]] [] (.lets [.call 46 [38] 0] [] (.lets [.bin .add 18 (zI 1)] [] (.again 0 [34,15,16,39,40])))
def zml:T :=
 .lets [.app 6 14 33] [] (.lets [.sub 6 17 none (some 23)] [] (.lets [.bin .add 23 (zI 1)] [] (.lets [.sub 6 17 (some 36) none] []
 zmk)))
def zmm:T :=
 .lets [.not 31] [] (.ite 32 (.ret [.c (.nil 6),.c (.nil 6),zI 8]) (.lets [.mk 6 [[25,26,27,28,29,30]]] [] zml))
def zmn:T :=
 .lets [.idx 17 23 0,.idx 17 23 1,.idx 17 23 2,.idx 17 23 3,.idx 17 23 4,.idx 17 23 5] [] (.ite 30 zmj
 (.lets [.call 42 [28,22,5] 0] [] zmm))
def zmo:T :=
 .lets [.call 43 [17,20,21] 0] [] (.lets [.bin .lss 23 (zI 0)] [] (.ite 24 (.ret [.c (.nil 6),.c (.nil 6),zI 7]) (.lets [] [.inr 6 17
 23] zmn)))
def zmp:T :=
 .lets [.mk 6 [[4,26,28,29,5,11]]] [] (.lets [.app 6 32 33] [] (.lets [.bin .add 26 (zI 1)] [] (.again 1 [23,24,34,.v
 35])))
def zmq:T :=
 .lets [.call 43 [25,4,26] 0] [] (.lets [.bin .geq 30 (zI 0)] [] (.ite 31 (.ret [.c (.nil 6),.c (.nil 6),zI 6]) (.lets [.call 9 [25] 0]
 [] zmp)))
def zmr:T :=
 .lets [.call 27 [28] 0] [] (.lets [.bin .neq 29 (zI 0)] [] (.ite 30 (.ret [.c (.nil 6),.c (.nil 6),29]) (.ret [28,14,zI 0])))
def zms:T :=
 .ite 27 (.lets [] [.inr 2 3 26] (.lets [.idx 3 26 0,.idx 3 26 1] [] zmq)) (.lets [.call 44 [25] 0] [] zmr)
def zmt:T :=
 .ite 21 (.ret [.c (.nil 6),.c (.nil 6),zI 9]) (.lets [.len 3] [] (.loop [15,16,17,zI 0] (.lets [.bin .lss 26 22] []
 zms)))
def zmu:T :=
 .ite 19 (.lets [] [.inr 3 2 18] (.lets [.idx 2 18 0,.idx 2 18 1,.idx 2 18 2] [] zmo)) (.lets [.call 45 [1,2,3,.v
 14] 0] [] (.lets [.bin .lss 20 (zI 0)] [] zmt))
def zmv:T :=
 .lets [.call 9 [0] 0] [] (.lets [.len 2] [] (.loop [.c (.nil 6),.c (.nil 6),zI 0,12,zI 0] (.lets [.bin .lss 18 13] [] zmu)))
def zmw:T :=
 .lets [.bin .eql 10 (zI 0)] [] (.ite 11 (.lets [.bin .neq 1 5] [] (.ite 12 (.ret [.c (.nil 6),.c (.nil 6),zI 4]) zmf))
 zmv)
def zmx:T :=
 .ite 8 (.ret [.c (.nil 6),.c (.nil 6),zI 3]) (.lets [.bin .gtr 5 (zI 1000)] [] (.ite 9 (.ret [.c (.nil 6),.c (.nil 6),zI 3]) (.lets
 [.len 2] [] zmw)))
def zmy:T :=
 .lets [.bin .gtr 4 (zI 120)] [] (.ite 7 (.ret [.c (.nil 6),.c (.nil 6),zI 3]) (.lets [.bin .lss 5 (zI 1)] [] zmx))
def zbu:T :=
 .lets [.bin .lss 4 (zI 1)] [] (.ite 6 (.ret [.c (.nil 6),.c (.nil 6),zI 3]) zmy)
attribute [local irreducible] z2v z43 z0r z83 z6z z3t z3e
theorem z00p:Meets Tryz.prog z5j 10 ⟨[.one,.agg 3,.one,.one],[(false,[.pure]),(true,[.pure]),(false,[.scal])],false⟩:=by
 refine z7y (sp:=(z0w [(9,z2v),(27,z0r),(42,z6z),(43,z3t),(44,z3e),(45,z83),(46,z43)])) (sigs:=z0ai) (cut:=[]) (hints:=[⟨10,[.n 13 0 360 57 6,.c 13 0 360,.r 8 57 6,.t 10,.r 14 57 6,.t 63,.z 59]⟩,⟨26,[.r 8 57 6,.t 10,.r 14 57 6,.t 142]⟩]) (fns:=[z86 29 Tryz.f29 [] []]) (dep:=1) (pool:=300) (fn:=Tryz.f10) (t:=zbu) (by kernel_rfl) (by kernel_rfl) (by kernel_rfl) ?_ ?_ ?_
 ·exact (z28 (fn:=Tryz.f29) (by kernel_rfl) (by kernel_rfl) (by kernel_rfl) (by kernel_rfl) (by kernel_rfl) z9b)
 ·exact (z0q (L:=[(9,z2v),(27,z0r),(42,z6z),(43,z3t),(44,z3e),(45,z83),(46,z43)]) ⟨zj rfl zeu,zj rfl z5p,zj rfl z03x,zj rfl (z003 zp4),zj rfl zj1,zj rfl z05z,zj rfl zp3,trivial⟩)
 ·rintro ds rs - h
  obtain ⟨⟨l,t,nm,ht⟩,⟨hlc,htc⟩,rfl,rfl⟩:=z01 h;clear h;simp only at hlc htc;have ok:CoinsOK l:=(z1l l).1 hlc;have okt:TxOK t:=z8o htc;have hkey:=z03u okt.insOk;have hl:=ok.len;have hti:=okt.ins;have hto:=okt.outs;refine ⟨⟨t.ins.length+t.outs.length+1,?_⟩,zgs⟩
  show den _ _ zbu [.l 6 (l.map zb),I t.height,.l 3 (t.ins.map eIn),.l 2 (t.outs.map z1p),I nm,I ht] []=ret (z36 l t nm ht)
  unfold zbu z36
  repeat' (first|refine dq1 ?_|refine dqk rfl (z4n l (by omega)) ?_|exact z5 rfl rfl|refine tR (fun h=>?_) fun h=>?_|fail)
  ·(refine z0k (fun (st:List Coin × List Coin) k=>[.l 6 (st.2.map zb),.l 6 (([]:List Coin).map zb),I 0,.l 6 (st.1.map zb),I k]) (fun (st:List Coin × List Coin) _ (xs:List In)=>z45 ht z19 (fun r s=>z3f nm ht (decide ((t.ins.length:Int)=0)) z19 (fun r=>z3p s (z0g r)) r 0 t.outs) st.1 st.2 xs) (fun st k=>SpJ l st k) (l,[]) t.ins ?_ ?_ ?_ ?_ ?_;rfl;exact ⟨z4a ok.sorted,zY0t _,ok.good,rfl,fun c hc=>by cases hc⟩;omega)
   ·rintro ⟨r,s⟩ k x xs hx hd hk hI again hag
    omega
   ·rintro ⟨r,s⟩ hI again
    rw [z45]
    repeat' (first|refine dq1 ?_|refine dqF ?_|fail)
    (refine z0k (fun (r:List Coin) k=>[.l 6 (([]:List Coin).map zb),I 0,.l 6 (r.map zb),I k]) (fun (r:List Coin) k (os:List Out)=>z3f nm ht (decide ((t.ins.length:Int)=0)) z19 (fun r=>z3p s (z0g r)) r k os) (fun r k=>z0y r∧r.length≤l.length+k) r t.outs ?_ ?_ ?_ ?_ ?_;rfl;exact ⟨hI.dist,hI.len⟩;omega)
    ·rintro r k o os hx hd hk ⟨hs,hrl⟩ again' hag
     rw [z3f];have hp:=z4q r ⟨nm,k⟩;rcases z3c r ⟨nm,k⟩ with ⟨h1,h2⟩|⟨j,hj,h1,h2⟩
     ·rw [h1] at hp ⊢
      have hn0:¬ (-1:Int) ≥ 0:=by omega
      rw [if_neg hn0];have hag:=hag (r++[⟨⟨nm,k⟩,o,ht,decide ((t.ins.length:Int)=0)⟩]) ⟨zbr hs h2,by rw [zY01,zY1b];omega⟩
      repeat' (first|refine dq1 ?_|refine dqc ?_|refine dqm ?_|refine dqk rfl (hp) ?_|refine dqk rfl (z4n r (by omega)) ?_|refine z4 (zp (r:=[(⟨⟨nm,k⟩,o,ht,decide ((t.ins.length:Int)=0)⟩:Coin)].map zb) rfl rfl (by simp)) ?_|exact z6 rfl rfl hag|refine dqT ?_|refine dqF ?_|fail)
     ·rw [h1] at hp ⊢
      have hn0:(j:Int) ≥ 0:=by omega
      rw [if_pos hn0]
      repeat' (first|refine dq1 ?_|refine dqc ?_|refine dqm ?_|refine dqk rfl (hp) ?_|exact z5 rfl rfl|refine dqT ?_|fail)
    ·rintro r ⟨hs,hrl⟩ again'
     rw [z3f];unfold z3p
     repeat' (first|refine dq1 ?_|refine dqk rfl (z8c r ⟨by omega,hs⟩) ?_|refine dqk rfl (z2o (z0g r)) ?_|exact z5 rfl rfl|refine tR (fun h=>?_) fun h=>?_|refine dqF ?_|fail)
  ·(refine z0k (fun (st:List Coin × List Coin) k=>[.l 6 (st.2.map zb),.l 6 (([]:List Coin).map zb),I 0,.l 6 (st.1.map zb),I k]) (fun (st:List Coin × List Coin) _ (xs:List In)=>z45 ht z19 (fun r s=>if z2s t s<0 then z19 9 else z3f nm ht (decide ((t.ins.length:Int)=0)) z19 (fun r=>z3p s (z0g r)) r 0 t.outs) st.1 st.2 xs) (fun st k=>SpJ l st k) (l,[]) t.ins ?_ ?_ ?_ ?_ ?_;rfl;exact ⟨z4a ok.sorted,zY0t _,ok.good,rfl,fun c hc=>by cases hc⟩;omega)
   ·rintro ⟨r,s⟩ k x xs hx hd hk hI again hag
    rw [z45];simp only;have hrl:=hI.len;simp only at hrl;have hkx:=hkey x (zY0o hx);have hp:=z4q r x.p;rcases z3c r x.p with ⟨h1,h2⟩|⟨j,hj,h1,h2⟩
    ·rw [h1] at hp ⊢
     have hn0:(-1:Int)<0:=by omega
     rw [if_pos hn0]
     repeat' (first|refine dq1 ?_|refine dqc ?_|refine dqm ?_|refine dqk rfl (hp) ?_|exact z5 rfl rfl|refine dqT ?_|fail)
    ·rw [h1] at hp ⊢
     have hc:r[j]? = some r[j]:=zY08 hj;have hca:z1a r (j:Int)=r[j]:=by unfold z1a;rw [zY38,hc];rfl
     have e1:((j:Int)).toNat=j:=by omega
     have e2:((j:Int)+1).toNat=j+1:=by omega
     rw [hca,e1,e2];generalize r[j]=c at *;have hn0:¬ (j:Int)<0:=by omega
     rw [if_neg hn0];have hcb:=z2g (hI.good c (zY0o hc));have e0:((r.take ((j:Int)).toNat).drop ((0:Int)).toNat)=r.take j:=by rw [e1];rfl
     have e3:r.take ((r.length:Int)).toNat=r:=by rw [zY38,zY1c]
     have hxo:=hx;have hx:=hc;have hop:=zma c.o.lock x.key ht hcb.2.2.2.2.2.2.2.2 hkx ⟨by omega,by omega⟩
     repeat' (first|refine dq1 ?_|refine dqc ?_|refine dqm ?_|refine dqk rfl (hp) ?_|refine dqk rfl (hop) ?_|exact z5 rfl rfl|((first|refine tR ?_ ?_|refine tB ?_ ?_|refine tN ?_ ?_) <;> intro h)|refine dqT ?_|refine dqF ?_|fail)
     all_goals (refine z4 (zp (r:=[c].map zb) rfl rfl (by simp)) ?_;refine z4 (zct (l:=s) (l':=[c]) rfl rfl (by have:=hI.cnt;simp only at this ⊢;simp only [zY1b];omega)) ?_;refine z4 (zov (l:=r) (m:=0) (n:=(j:Int)) rfl rfl rfl (by omega) (by omega) (by omega)) ?_;refine z4 (z47 rfl rfl (by omega)) ?_;refine z4 (zov (l:=r) (m:=(j:Int)+1) (n:=(r.length:Int)) rfl rfl rfl (by omega) (by omega) (by omega)) ?_;rw [e0,e2,e3];refine z4 (zp (r:=[[.l 6 ((r.take j).map zb)],[.l 6 ((r.drop (j+1)).map zb)]]) rfl rfl (by simp)) ?_;refine z4 (z1z rfl (zex _ _ (by simp only [zY0d,zY0r];omega)) rfl) ?_;refine z4 (z47 rfl rfl (by omega)) ?_;exact z6 rfl rfl (hag (r.take j++r.drop (j+1),s++[c]) (hI.cut hc)))
   ·rintro ⟨r,s⟩ hI again
    rw [z45]
    repeat' (first|refine dq1 ?_|refine dqk rfl (zut t s (hI.fee okt)) ?_|exact z5 rfl rfl|refine tR (fun h=>?_) fun h=>?_|refine dqF ?_|fail)
    (refine z0k (fun (r:List Coin) k=>[.l 6 (([]:List Coin).map zb),I 0,.l 6 (r.map zb),I k]) (fun (r:List Coin) k (os:List Out)=>z3f nm ht (decide ((t.ins.length:Int)=0)) z19 (fun r=>z3p s (z0g r)) r k os) (fun r k=>z0y r∧r.length≤l.length+k) r t.outs ?_ ?_ ?_ ?_ ?_;rfl;exact ⟨hI.dist,hI.len⟩;omega)
    ·rintro r k o os hx hd hk ⟨hs,hrl⟩ again' hag
     rw [z3f];have hp:=z4q r ⟨nm,k⟩;rcases z3c r ⟨nm,k⟩ with ⟨h1,h2⟩|⟨j,hj,h1,h2⟩
     ·rw [h1] at hp ⊢
      have hn0:¬ (-1:Int) ≥ 0:=by omega
      rw [if_neg hn0];have hag:=hag (r++[⟨⟨nm,k⟩,o,ht,decide ((t.ins.length:Int)=0)⟩]) ⟨zbr hs h2,by rw [zY01,zY1b];omega⟩
      repeat' (first|refine dq1 ?_|refine dqc ?_|refine dqm ?_|refine dqk rfl (hp) ?_|refine dqk rfl (z4n r (by omega)) ?_|refine z4 (zp (r:=[(⟨⟨nm,k⟩,o,ht,decide ((t.ins.length:Int)=0)⟩:Coin)].map zb) rfl rfl (by simp)) ?_|exact z6 rfl rfl hag|refine dqT ?_|refine dqF ?_|fail)
     ·rw [h1] at hp ⊢
      have hn0:(j:Int) ≥ 0:=by omega
      rw [if_pos hn0]
      repeat' (first|refine dq1 ?_|refine dqc ?_|refine dqm ?_|refine dqk rfl (hp) ?_|exact z5 rfl rfl|refine dqT ?_|fail)
    ·rintro r ⟨hs,hrl⟩ again'
     rw [z3f];unfold z3p
     repeat' (first|refine dq1 ?_|refine dqk rfl (z8c r ⟨by omega,hs⟩) ?_|refine dqk rfl (z2o (z0g r)) ?_|exact z5 rfl rfl|refine tR (fun h=>?_) fun h=>?_|refine dqF ?_|fail)
end
section
open Go.RowKit
set_option maxRecDepth 100000
set_option maxHeartbeats 4000000
attribute [local irreducible] z0p spD z14 ze zr zd
def zbv (l:List Coin):Prop:=∀ c ∈ l,c.o.lock.length≤8796093022208
noncomputable def z5k:zh:=spD (fun x:List Coin × Tx × Int × List Coin=>zbv x.2.2.2) fun x=>z27 x.1 x.2.1 x.2.2.1 x.2.2.2
theorem zgx (l:List Coin) (t:Tx) (nm:Int) (u:List Coin) (h:zbv u):z5k [.l 6 (l.map zb),I t.height,.l 3 (t.ins.map eIn),.l 2 (t.outs.map z1p),I nm,.l 6 (u.map zb)]=some [.l 6 ((z27 l t nm u).1.map zb),I (z27 l t nm u).2]:=z09 (p:=fun x:List Coin × Tx × Int × List Coin=>zbv x.2.2.2) (f:=fun x:List Coin × Tx × Int × List Coin=>z27 x.1 x.2.1 x.2.2.1 x.2.2.2) (l,t,nm,u) h
def zv4:T :=
 .lets [.bin .add 22 (zI 1)] [] (.lets [.call 14 [17,22,29] 0] [] (.lets [.bin .add 18 (zI 1)] [] (.again 0 [15,16,30,31])))
def zv5:T :=
 .lets [.idx 17 22 2,.idx 17 22 3] [] (.lets [.call 22 [25,26,20,21] 0] [] (.lets [.not 27] [] (.ite 28 (.ret [.c (.nil 6),.c (.i .i64
 7)]) zv4)))
def zv6:T :=
 .lets [.call 6 [17,4,18] 0,.call 6 [17,4,18] 1] [] (.lets [.not 23] [] (.ite 24 (.ret [.c (.nil 6),zI 7]) (.lets [] [.inr 6 17 (.v
 22)] zv5)))
def zv7:T :=
 .lets [.mk 6 [[27,28,29,30,31,32]]] [] (.lets [.call 15 [24,33,38] 0] [] (.lets [.bin .add 25 (zI 1)] [] (.again 1 [22,23,.v
 39,40])))
def zv8:T :=
 .lets [.idx 2 25 0,.idx 2 25 1] [] (.lets [.eqs true [(.v 35,.v 27),(.v 36,.v 28)]] [] (.ite 37 (.ret [.c (.nil 6),zI 6]) zv7))
def zv9:T :=
 .lets [.call 6 [24,27,28] 0,.call 6 [24,27,28] 1] [] (.ite 34 (.ret [.c (.nil 6),zI 6]) (.lets [] [.inr 3 2 25] zv8))
def zva:T :=
 .lets [.idx 20 25 0,.idx 20 25 1,.idx 20 25 2,.idx 20 25 3,.idx 20 25 4,.idx 20 25 5] [] zv9
def zvb:T :=
 .ite 26 (.lets [] [.inr 6 20 25] zva) (.lets [.call 8 [24] 0] [] (.lets [.bin .neq 27 (zI 0)] [] (.ite 28 (.ret [.c (.nil 6),27])
 (.ret [24,zI 0]))))
def zvc:T :=
 .ite 19 (.lets [] [.inr 2 3 18] (.lets [.idx 3 18 0,.idx 3 18 1] [] zv6)) (.lets [.call 11 [5] 0] [] (.lets [.len 20] [] (.loop
 [15,16,17,zI 0] (.lets [.bin .lss 25 21] [] zvb))))
def zvd:T :=
 .lets [.call 11 [0] 0] [] (.lets [.len 3] [] (.loop [.c (.nil 6),zI 0,13,zI 0] (.lets [.bin .lss 18 14] [] zvc)))
def zmz:T :=
 .ite 9 (.ret [.c (.nil 6),8]) (.lets [.len 5] [] (.lets [.len 2] [] (.lets [.bin .neq 10 11] [] (.ite 12 (.ret [.c (.nil 6),zI 4])
 zvd))))
def zn0:T :=
 .lets [.bin .neq 6 (zI 0)] [] (.ite 7 (.ret [.c (.nil 6),6]) (.lets [.call 17 [1,2,3] 0] [] (.lets [.bin .neq 8 (zI 0)] []
 zmz)))
def zbw:T :=
 .lets [.call 8 [0] 0] [] zn0
theorem z00q:Meets Tryz.prog z5k 12 ⟨[.one,.agg 3,.one,.agg 1],[(false,[.pure]),(false,[.scal])],false⟩:=by
 refine z06 (sp:=(z0w [(6,z53),(8,z26),(11,z64),(14,z2t),(15,z5b),(17,z52),(22,z6l)])) (sigs:=z17) (cut:=[]) (hints:=[⟨11,[.r 8 57 6,.t 9,.r 0 57 6,.t 43,.z 39]⟩,⟨19,[.r 8 57 6,.t 9,.r 0 57 6,.t 78]⟩]) (fn:=Tryz.f12) (t:=zbw) (by kernel_rfl) (by kernel_rfl) (by kernel_rfl) ?_ ?_
 ·exact (z0q (L:=[(6,z53),(8,z26),(11,z64),(14,z2t),(15,z5b),(17,z52),(22,z6l)]) ⟨zj rfl zix,zj rfl z9r,zj rfl zp1,zj rfl zd6,zj rfl zj3,zj rfl ziw,zj rfl zwn,trivial⟩)
 ·rintro ds rs - h
  obtain ⟨⟨l,t,nm,u⟩,hu,rfl,rfl⟩:=z01 h;clear h;simp only at hu;refine ⟨⟨u.length+t.outs.length+1,?_⟩,zj4⟩
  show den _ _ zbw [.l 6 (l.map zb),I t.height,.l 3 (t.ins.map eIn),.l 2 (t.outs.map z1p),I nm,.l 6 (u.map zb)] []=ret (z27 l t nm u)
  unfold zbw z27
  repeat' (first|refine dq1 ?_|refine dqk rfl (z29 _) ?_|refine dqk rfl (zc5 _) ?_|exact z5 rfl rfl|refine tR (fun h=>?_) fun h=>?_|fail)
  have hul:u.length=t.ins.length:=by omega
  have ok:CoinsOK l:=(z1l l).1 (zY0w.1 (by assumption));have okt:TxOK t:=z8o (zY0w.1 (by assumption));have hl:=ok.len;have hti:=okt.ins;have hto:=okt.outs;have hu:z6k u:=⟨by omega,hu⟩
  repeat' (first|refine dq1 ?_|refine dqk rfl (z9f _ ok.short) ?_|fail)
  (refine z0k (fun (r:List Coin) k=>[.l 6 (([]:List Coin).map zb),I 0,.l 6 (r.map zb),I k]) (fun (r:List Coin) k (os:List Out)=>z9u nm z4p (fun r=>z7o t.ins z4p zcz r 0 u) r k os) (fun r k=>z0a r∧r.length≤l.length) l t.outs ?_ ?_ ?_ ?_ ?_;rfl;exact ⟨ok.sorted,zY0t _⟩;omega)
  ·rintro r k o os hx hd hk ⟨hs,hrl⟩ again hag
   rw [z9u]
   repeat' (first|refine dq1 ?_|refine dqc ?_|refine dqm ?_|refine dqK rfl (z42 r ⟨nm,k⟩ hs (by omega)) ?_|exact z5 rfl rfl|refine tN (fun h=>?_) fun h=>?_|refine dqT ?_|fail)
   obtain ⟨hlt,hp⟩:=(zba hs ⟨nm,k⟩).1 h;have hc:r[zi r ⟨nm,k⟩]? = some r[zi r ⟨nm,k⟩]:=zY08 hlt;rw [hc];generalize r[zi r ⟨nm,k⟩]=c at *;have e1:((zi r ⟨nm,k⟩:Int)).toNat=zi r ⟨nm,k⟩:=by omega
   have e2:((zi r ⟨nm,k⟩:Int)+1).toNat=zi r ⟨nm,k⟩+1:=by omega
   simp only [zY1i];have hxo:=hx;have hx:=hc
   repeat' (first|refine dq1 ?_|refine dqc ?_|refine dqm ?_|refine dqk rfl (zg7 c.o o) ?_|refine dqk rfl (z8d r (zi r ⟨nm,k⟩:Int) ((zi r ⟨nm,k⟩:Int)+1) ⟨by omega,by omega,by omega⟩) ?_|exact z5 rfl rfl|refine tN (fun h=>?_) fun h=>?_|fail)
   rw [e1,e2];exact z6 rfl rfl (hag _ ⟨z6o hs _,by simp only [zY01,zY0d,zY0r];omega⟩)
  ·rintro r ⟨hs,hrl⟩ again
   rw [z9u]
   repeat' (first|refine dq1 ?_|refine dqk rfl (z9f _ hu) ?_|refine dqF ?_|fail)
   (refine z0k (fun (r:List Coin) k=>[.l 6 (([]:List Coin).map zb),I 0,.l 6 (r.map zb),I k]) (fun (r:List Coin) k (cs:List Coin)=>z7o t.ins z4p zcz r k cs) (fun r k=>z0a r∧r.length≤l.length+k) r u ?_ ?_ ?_ ?_ ?_;rfl;exact ⟨hs,hrl⟩;omega)
   ·rintro r k c cs hx hd hk ⟨hs,hrl⟩ again' hag
    rw [z7o];have hpl:=zb9 r c.p;have e1:((zi r c.p:Int)).toNat=zi r c.p:=by omega
    have hki:k<t.ins.length:=by omega
    obtain ⟨x,hxi⟩:∃ x,t.ins[k]? = some x:=⟨_,zY08 hki⟩
    rw [hxi];simp only [zY1i]
    repeat' (first|refine dq1 ?_|refine dqc ?_|refine dqm ?_|refine dqK rfl (z42 r c.p hs (by omega)) ?_|exact z5 rfl rfl|((first|refine tR ?_ ?_|refine tB ?_ ?_) <;> intro h)|refine dqT ?_|fail)
    have hno:=h;have hxo:=hx;have hx:=hxi
    repeat' (first|refine dq1 ?_|refine dqc ?_|refine dqm ?_|exact z5 rfl rfl|((first|refine tR ?_ ?_|refine tB ?_ ?_|refine tC ?_ ?_|refine tN ?_ ?_|refine tF ?_ ?_|refine tG ?_ ?_|refine tP ?_ ?_|refine tQ ?_ ?_|refine tA ?_ ?_|refine tO ?_ ?_|refine tU ?_ ?_|refine tV ?_ ?_) <;> intro h)|refine dqT ?_|refine dqF ?_|refine zt rfl ?_|refine zq rfl ?_|refine z0e ?_|refine z0f ?_|fail)
    refine z4 (zp (r:=[c].map zb) rfl rfl (by simp)) ?_;refine z4 (z1z rfl (z8e _ _ _ ⟨by omega,by omega,by omega⟩) rfl) ?_;refine z4 (z47 rfl rfl (by omega)) ?_;rw [e1];exact z6 rfl rfl (hag _ ⟨z3y hs (by assumption),by simp only [zY01,zY0d,zY0r,zY1b];omega⟩)
   ·rintro r hr again'
    rw [z7o];unfold zcz
    repeat' (first|refine dq1 ?_|refine dqk rfl (z29 _) ?_|exact z5 rfl rfl|refine tR (fun h=>?_) fun h=>?_|refine dqF ?_|fail)
end
section
open Go.RowKit
set_option maxRecDepth 100000
set_option maxHeartbeats 4000000
def thereK:List Op:=[⟨1,1⟩]
def thereT0:Tx:=⟨3,[],[⟨9,thereK⟩]⟩
def thereT1:Tx:=⟨0,[⟨⟨4,0⟩,[]⟩],[⟨5,thereK⟩,⟨3,thereK⟩]⟩
def zau:List Coin:=[⟨⟨4,0⟩,⟨9,thereK⟩,3,true⟩]
def z9m:List Coin:=[⟨⟨7,0⟩,⟨5,thereK⟩,5,false⟩,⟨⟨7,1⟩,⟨3,thereK⟩,5,false⟩]
theorem z0a0:z1i [] thereT0 4 3=(zau,[],0):=by kernel_rfl
theorem z0a1:z1i zau thereT1 7 4=([],[],10):=by kernel_rfl
theorem z0a2:z1i zau thereT1 7 5=(z9m,zau,0):=by kernel_rfl
theorem z0a3:z54 z9m=(8,0):=by kernel_rfl
attribute [local irreducible] z0p spD z14 ze zr z1i
noncomputable def z3u:zh:=spD (fun _:Unit=>True) fun _=>true
theorem zdk:z3u []=some [.b true]:=z09 (f:=fun _:Unit=>true) () trivial
def z00r:T :=
 .lets [.idx 10 (zI 1) 0,.idx 10 (zI 1) 1] [] (.lets [.eqs false [(.v 24,.c (.i .i64 7)),(.v 25,.c (.i .i64 1))]] [] (.ret [26]))
def z00s:T :=
 .lets [.len 10] [] (.lets [.bin .eql 22 (zI 2)] [] (.ite 23 (.lets [] [.inr 6 10 (zI 1)] z00r) (.ret [.c (.b false)])))
def z00t:T :=
 .lets [.bin .eql 13 (zI 8)] [] (.ite 19 (.lets [.len 11] [] (.lets [.bin .eql 20 (zI 1)] [] (.ite 21 z00s (.ret [.c (.b
 false)])))) (.ret [.c (.b false)]))
def z00u:T :=
 .lets [.bin .eql 12 (zI 0)] [] (.ite 17 (.lets [.bin .eql 14 (zI 0)] [] (.ite 18 z00t (.ret [.c (.b false)]))) (.ret [.c (.b false)]))
def z00v:T :=
 .lets [.bin .eql 4 (zI 0)] [] (.ite 15 (.lets [.bin .eql 9 (zI 10)] [] (.ite 16 z00u (.ret [.c (.b false)]))) (.ret [.c (.b false)]))
def z00w:T :=
 .lets [.call 18 [2,zI 0,5,6,zI 7,zI 5] 0,.call 18 [2,zI 0,5,6,zI 7,zI 5] 1,.call 18 [2,
 .c (.i .i64 0),5,6,zI 7,zI 5] 2] [] (.lets [.call 12 [10] 0,.call 12 [10] 1] [] z00v)
def z00x:T :=
 .lets [.call 18 [2,zI 0,5,6,zI 7,zI 4] 0,.call 18 [2,zI 0,5,6,zI 7,zI 4] 1,.call 18 [2,
 .c (.i .i64 0),5,6,zI 7,zI 4] 2] [] z00w
def z00y:T :=
 .lets [.call 18 [.c (.nil 6),zI 3,.c (.nil 3),1,zI 4,zI 3] 0,.call 18 [.c (.nil 6),zI 3,.c (.nil 3),1,zI 4,.c (.i
 .i64 3)] 1,.call 18 [.c (.nil 6),zI 3,.c (.nil 3),1,zI 4,zI 3] 2] [] (.lets [.mk 3 [[zI 4,zI 0,.c (.nil 2)]]] [] (.lets
 [.mk 2 [[zI 5,0],[zI 3,0]]] [] z00x))
def zf7:T :=
 .lets [.mk 2 [[zI 1,zI 1]]] [] (.lets [.mk 2 [[zI 9,0]]] [] z00y)
theorem zve:Meets Tryz.prog z3u 7 ⟨[],[(false,[.scal])],true⟩:=by
 refine z06 (sp:=(z0w [(12,z8m),(18,z3z)])) (sigs:=z17) (cut:=[]) (hints:=[]) (fn:=Tryz.f7) (t:=zf7) (by kernel_rfl) (by kernel_rfl) (by kernel_rfl) ?_ ?_
 ·exact (z0q (L:=[(12,z8m),(18,z3z)]) ⟨zj rfl z02r,zj rfl zj5,trivial⟩)
 ·rintro ds rs - h
  obtain ⟨⟨⟩,-,rfl,rfl⟩:=z01 h;clear h;refine ⟨⟨1,?_⟩,z0i rfl⟩
  show den _ _ zf7 [] []=ret true
  have a1:=z5r [] thereT0 4 3;rw [z0a0] at a1;have a2:=z5r zau thereT1 7 4;rw [z0a1] at a2;have a3:=z5r zau thereT1 7 5;rw [z0a2] at a3;have a4:=zje z9m;rw [z0a3] at a4;unfold zf7;refine z4 (zp (r:=thereK.map eOp) rfl rfl (by decide)) ?_;refine z4 (zp (r:=thereT0.outs.map z1p) rfl rfl (by decide)) ?_;refine z3j (z9d rfl a1 (by rfl)) ?_ (by simp only [zb,eTx,eIn,z1p,eOp,z2c,z13,z85,z41,z6e,z6d,z4x,z5n,zY18,zY0y];try exact rfl);refine z4 (zp (r:=thereT1.ins.map eIn) rfl rfl (by decide)) ?_;refine z4 (zp (r:=thereT1.outs.map z1p) rfl rfl (by decide)) ?_;refine z3j (z9d rfl a2 (by rfl)) ?_ (by simp only [zb,eTx,eIn,z1p,eOp,z2c,z13,z85,z41,z6e,z6d,z4x,z5n,zY18,zY0y];try exact rfl);refine z3j (z9d rfl a3 (by rfl)) ?_ (by simp only [zb,eTx,eIn,z1p,eOp,z2c,z13,z85,z41,z6e,z6d,z4x,z5n,zY18,zY0y];try exact rfl);refine z3j (z9d rfl a4 (by rfl)) ?_ (by simp only [zb,eTx,eIn,z1p,eOp,z2c,z13,z85,z41,z6e,z6d,z4x,z5n,zY18,zY0y];try exact rfl)
  repeat' (first|refine dq1 ?_|refine dqc ?_|refine dqm ?_|exact z5 rfl rfl|((first|refine tR ?_ ?_|refine tB ?_ ?_|refine tC ?_ ?_|refine tN ?_ ?_|refine tF ?_ ?_|refine tG ?_ ?_|refine tP ?_ ?_|refine tQ ?_ ?_|refine tA ?_ ?_|refine tO ?_ ?_|refine tU ?_ ?_|refine tV ?_ ?_) <;> intro h)|refine dqT ?_|refine dqF ?_|refine zt rfl ?_|refine zq rfl ?_|refine z0e ?_|refine z0f ?_)
  refine z07 (by exact z02k (l:=z9m) (f:=zb) rfl rfl (by decide) (by decide)) ?_;have hx:z9m[(1:Int).toNat]? = some ⟨⟨7,1⟩,⟨3,thereK⟩,5,false⟩:=rfl;refine z3j (z1x (zaj (l:=z9m) (f:=zb) rfl rfl (by decide) hx rfl) (z1x (zaj (l:=z9m) (f:=zb) rfl rfl (by decide) hx rfl) zcl)) ?_ (by simp only [zb,eTx,eIn,z1p,eOp,z2c,z13,z85,z41,z6e,z6d,z4x,z5n,zY18,zY0y];try exact rfl);refine z4 (z02j (p:=⟨7,1⟩) (q:=⟨7,1⟩) rfl rfl rfl rfl) ?_;exact z5 rfl rfl
end
section
open Go.RowKit Go.Shelf
open Go.Lib (itoa atoiAll atoiSat)
set_option maxRecDepth 100000
structure GoErr where
 is:Bool
instance:Enc GoErr:=⟨fun x=>[.e x.is],1,fun _=>rfl,fun x y h=>by cases x;cases y;simpa using h⟩
section
variable {P:Program} {W:World} {F:Nat→Prop}
theorem z03y {α β:Type} [Enc α] [Enc β] {p:α→Prop} {f:α→β} {s:Sig} {fnum:Nat} (hpk:z3n s.args=false) (hen:En P fnum)
  (h:∀ x,p x→∀ W F us,zax F W→PKRs W F s.args (Enc.e x) us→Calls P fnum us.toArray W fun r W'=>∃ v,r = .returned v∧Below W.heap.size W W'∧∃ us F',ResR W F W' s (Enc.e (f x)) v us F'):Meets P (spD p f) fnum s :=
 .mk hpk fun W F ds args rs hF ha hs=>by
  obtain ⟨x,hx,rfl,rfl⟩:=z01 hs;exact .inl ⟨hen.run _ _,(h x hx W F args hF ha).mono fun r W' ⟨v,h1,h2,h3⟩=>⟨v,h1,h2,h3⟩⟩
theorem z00z {α:Type} [Enc α] {p:α→Prop} {f:α→Int} {pk:List PK} {fnum:Nat} (hpk:z3n pk=false) (hen:En P fnum)
  (h:∀ x,p x→∀ W F us,zax F W→PKRs W F pk (Enc.e x) us→I64 (f x)∧Calls P fnum us.toArray W fun r W'=>r = .returned (.int .i64 (f x))∧Below W.heap.size W W'):Meets P (spD p f) fnum ⟨pk,[(false,[.scal])],true⟩ :=
 z03y hpk hen fun x hx W F us hF ha=>(h x hx W F us hF ha).2.mono fun r W' ⟨h1,h2⟩=>⟨_,h1,h2,zog rfl (.i _ _ (wrap_i64 (h x hx W F us hF ha).1))⟩
end
end
section
open Go.RowKit
end
section
open Go.RowKit
set_option maxRecDepth 100000
noncomputable def z2x:zh:=spD (fun _:Tx=>True) fun t=>zr t
theorem zav (t:Tx):z2x [I t.height,.l 3 (t.ins.map eIn),.l 2 (t.outs.map z1p)]=some [I (zr t)]:=z09 (f:=fun t:Tx=>zr t) t trivial
theorem zh0:Meets Tryz.prog z2x 9 ⟨[.agg 3],[(false,[.scal])],true⟩ :=
 z00z rfl (z4c (fn:=Tryz.f9) (by kernel_rfl) (by kernel_rfl) (by kernel_rfl)) fun t _ W F us hF h=>by
  obtain ⟨cs,rfl,hr⟩:=zof h;have hS:Sep W F [rep t cs shTx] W:=(Sep.start W F hF.1).addRep (S:=shTx) (shTx.more (fun b hb=>⟨.inl hb,by simp⟩) (she_tx.of hr));exact ⟨(z06d t).i64,(z089 t cs hS At.z).mono fun e w' h=>⟨h.1,h.2.below⟩⟩
end
section
open Go.RowKit
set_option maxRecDepth 100000
set_option maxHeartbeats 4000000
attribute [local irreducible] z0p spD z14 ze zr z1i z27 z02s z54 z36 z2w
theorem z013 {l:List Coin} {t:Tx} {nm h:Int} (hl:ze l≠0):z1i l t nm h=([],[],ze l):=by
 with_unfolding_all exact if_pos hl
theorem z014 {l:List Coin} {t:Tx} {nm h:Int} (hl:ze l=0) (ht:zr t≠0):z1i l t nm h=([],[],zr t):=by
 unfold z1i;rw [if_neg (show ¬ ze l≠0 by rw [hl];decide),if_pos ht];rfl
attribute [local irreducible] den denX z1b z1q
noncomputable def zy0:zh:=spD (fun _:List Coin × Tx × Int × Int=>True) fun _=>true
def zvh:T :=
 .lets [.bin .eql 18 (zI 0)] [] (.ite 19 (.lets [.len 7] [] (.lets [.bin .eql 20 (zI 0)] [] (.ret [21]))) (.ret [.c (.b false)]))
def zvi:T :=
 .ite 20 (.lets [.call 28 [6,17] 0] [] (.ite 21 (.lets [.call 28 [7,18] 0] [] (.ret [22])) (.ret [.c (.b false)]))) (.ret [.c (.b false)])
def zvj:T :=
 .lets [.call 48 [0,1,2,3,4,5] 0,.call 48 [0,1,2,3,4,5] 1,.call 48 [0,1,2,3,4,5] 2] [] (.lets [.bin .eql 8
 19] [] zvi)
def zvk:T :=
 .lets [.bin .neq 15 (zI 0)] [] (.ite 16 (.lets [.bin .eql 8 15] [] (.ite 17 (.lets [.len 6] [] zvh) (.ret [.c (.b false)])))
 zvj)
def zvl:T :=
 .lets [.bin .eql 17 (zI 0)] [] (.ite 18 (.lets [.len 7] [] (.lets [.bin .eql 19 (zI 0)] [] (.ret [20]))) (.ret [.c (.b false)]))
def zvm:T :=
 .ite 19 (.lets [.call 28 [6,16] 0] [] (.ite 20 (.lets [.call 28 [7,17] 0] [] (.ret [21])) (.ret [.c (.b false)]))) (.ret [.c (.b false)])
def zvn:T :=
 .lets [.call 48 [0,1,2,3,4,5] 0,.call 48 [0,1,2,3,4,5] 1,.call 48 [0,1,2,3,4,5] 2] [] (.lets [.bin .eql 8
 18] [] zvm)
def zvo:T :=
 .lets [.bin .neq 9 (zI 0)] [] (.ite 15 (.lets [.bin .eql 8 9] [] (.ite 16 (.lets [.len 6] [] zvl) (.ret [.c (.b false)])))
 zvn)
def zvp:T :=
 .ite 13 (.ret [.c (.b false)]) (.lets [.bin .eql 9 (zI 0)] [] (.ite 14 (.lets [.call 47 [1,2,3] 0] [] zvk) zvo))
def zvq:T :=
 .lets [.call 19 [] 0] [] (.lets [.not 10] [] (.ite 11 (.ret [.c (.b false)]) (.lets [.call 8 [0] 0] [] (.lets [.bin .neq 12 9] [] zvp))))
def zbx:T :=
 .lets [.call 18 [0,1,2,3,4,5] 0,.call 18 [0,1,2,3,4,5] 1,.call 18 [0,1,2,3,4,5] 2] [] (.lets [.call 27 [0]
 0] [] zvq)
attribute [local irreducible] z3u z5j z0r z2x z2a z3z z26
theorem z015:Meets Tryz.prog zy0 3 ⟨[.one,.agg 3,.one,.one],[(false,[.scal])],true⟩:=by
 refine z06 (sp:=(z0w [(8,z26),(18,z3z),(19,z3u),(27,z0r),(28,z2a),(47,z2x),(48,z5j)])) (sigs:=z17) (cut:=[]) (hints:=[]) (fn:=Tryz.f3) (t:=zbx) (by kernel_rfl) (by kernel_rfl) (by kernel_rfl) ?_ ?_
 ·exact (z0q (L:=[(8,z26),(18,z3z),(19,z3u),(27,z0r),(28,z2a),(47,z2x),(48,z5j)]) ⟨zj rfl z9r,zj rfl zj5,zj rfl zve,zj rfl z5p,zj rfl zcy,zj rfl zh0,zj rfl z00p,trivial⟩)
 ·rintro ds rs - h
  obtain ⟨⟨l,t,nm,ht⟩,-,rfl,rfl⟩:=z01 h;clear h;refine ⟨⟨1,?_⟩,z0i rfl⟩
  show den _ _ zbx [.l 6 (l.map zb),I t.height,.l 3 (t.ins.map eIn),.l 2 (t.outs.map z1p),I nm,I ht] []=ret true
  have a1:=z5r l t nm ht;have a2:=z2o l;have a3:=z29 l;have a4:=zav t;have a5:=zdk;unfold zbx
  by_cases hl:ze l=0
  ·by_cases htx:zr t=0
   ·have a6:=zi0 l t nm ht hl htx
    rw [z00k hl htx] at a6;rw [hl] at a2 a3;rw [htx] at a4;generalize z1i l t nm ht=q at *;obtain ⟨q1,q2,q3⟩:=q;have a7:=z5u q1 q1;have a8:=z5u q2 q2;rw [decide_eq_true rfl] at a7 a8
    repeat' (first|refine dq1 ?_|refine dqc ?_|refine dqm ?_|refine dqK rfl (a1) ?_|refine dqK rfl (a2) ?_|refine dqK rfl (a3) ?_|refine dqK rfl (a4) ?_|refine dqK rfl (a5) ?_|refine dqK rfl (a6) ?_|refine dqK rfl (a7) ?_|refine dqK rfl (a8) ?_|exact z5 rfl rfl|((first|refine tR ?_ ?_|refine tB ?_ ?_|refine tC ?_ ?_|refine tN ?_ ?_|refine tF ?_ ?_|refine tG ?_ ?_|refine tP ?_ ?_|refine tQ ?_ ?_|refine tA ?_ ?_|refine tO ?_ ?_|refine tU ?_ ?_|refine tV ?_ ?_) <;> intro h)|refine dqT ?_|refine dqF ?_|refine zt rfl ?_|refine zq rfl ?_|refine z0e ?_|refine z0f ?_|refine tZ (fun h=>?_) fun h=>?_|refine tZn (fun h=>?_) fun h=>?_)
   ·rw [z014 hl htx] at a1
    rw [hl] at a2 a3;generalize zr t=e at *
    repeat' (first|refine dq1 ?_|refine dqc ?_|refine dqm ?_|refine dqK rfl (a1) ?_|refine dqK rfl (a2) ?_|refine dqK rfl (a3) ?_|refine dqK rfl (a4) ?_|refine dqK rfl (a5) ?_|exact z5 rfl rfl|((first|refine tR ?_ ?_|refine tB ?_ ?_|refine tC ?_ ?_|refine tN ?_ ?_|refine tF ?_ ?_|refine tG ?_ ?_|refine tP ?_ ?_|refine tQ ?_ ?_|refine tA ?_ ?_|refine tO ?_ ?_|refine tU ?_ ?_|refine tV ?_ ?_) <;> intro h)|refine dqT ?_|refine dqF ?_|refine zt rfl ?_|refine zq rfl ?_|refine z0e ?_|refine z0f ?_|refine tZ (fun h=>?_) fun h=>?_|refine tZn (fun h=>?_) fun h=>?_)
  ·rw [z013 hl] at a1
   generalize ze l=e at *
   repeat' (first|refine dq1 ?_|refine dqc ?_|refine dqm ?_|refine dqK rfl (a1) ?_|refine dqK rfl (a2) ?_|refine dqK rfl (a3) ?_|refine dqK rfl (a4) ?_|refine dqK rfl (a5) ?_|exact z5 rfl rfl|((first|refine tR ?_ ?_|refine tB ?_ ?_|refine tC ?_ ?_|refine tN ?_ ?_|refine tF ?_ ?_|refine tG ?_ ?_|refine tP ?_ ?_|refine tQ ?_ ?_|refine tA ?_ ?_|refine tO ?_ ?_|refine tU ?_ ?_|refine tV ?_ ?_) <;> intro h)|refine dqT ?_|refine dqF ?_|refine zt rfl ?_|refine zq rfl ?_|refine z0e ?_|refine z0f ?_|refine tZ (fun h=>?_) fun h=>?_|refine tZn (fun h=>?_) fun h=>?_)
theorem unspentApply_walk (l:List (Coin)) (A_l:Option Addr) (n_l c_l:Nat) (t:Tx) (c_t:List Value) (nm:Int) (ht:Int) (w:World) (h_l:Rds shCoin w (Lt w.heap.size) l A_l n_l c_l) (h_t:shTx.rep w (Lt w.heap.size) t c_t) (nm_0 : -9223372036854775808≤nm) (nm_1:nm≤9223372036854775807) (ht_0 : -9223372036854775808≤ht) (ht_1:ht≤9223372036854775807) :
  Calls Tryz.prog 3 #[.slice A_l n_l c_l,.agg c_t.toArray,.int .i64 nm,.int .i64 ht] w fun e w'=>e = .returned (.bool true)∧Below w.heap.size w w' :=
 za0 (F:=Lt w.heap.size) (us:=[.slice A_l n_l c_l,.agg c_t.toArray,.int .i64 nm,.int .i64 ht]) rfl (z4c (fn:=Tryz.f3) (by kernel_rfl) (by kernel_rfl) (by kernel_rfl)) z015 ⟨fun _ h=>h,trivial,trivial,trivial,trivial⟩ (z09 (f:=fun _=>true) (l,t,nm,ht) trivial)
  (z6g (zhd she_coin h_l) (zb6 (d1:=eTx t) (she_tx.to h_t) rfl (z6g (.i _ _ (wrap_i64 ⟨nm_0,nm_1⟩)) (z6g (.i _ _ (wrap_i64 ⟨ht_0,ht_1⟩)) zfr))))
end
section
open Go.RowKit
set_option maxRecDepth 100000
set_option maxHeartbeats 4000000
attribute [local irreducible] z0p spD z14 ze zr z1i z27 z02s z54 z36 z2w
theorem zy1 {l:List Coin} {t:Tx} {nm:Int} {u:List Coin} (hl:ze l≠0):z27 l t nm u=([],ze l):=by
 with_unfolding_all exact if_pos hl
theorem zy2 {l:List Coin} {t:Tx} {nm:Int} {u:List Coin} (hl:ze l=0) (ht:zr t≠0):z27 l t nm u=([],zr t):=by
 unfold z27;rw [if_neg (show ¬ ze l≠0 by rw [hl];decide),if_pos ht];rfl
attribute [local irreducible] den denX z1b z1q
noncomputable def zvr:zh:=spD (fun x:List Coin × Tx × Int × Undo=>zbv x.2.2.2.spent) fun _=>true
def zn1:T :=
 .lets [.bin .eql 7 10] [] (.ite 14 (.lets [.len 6] [] (.lets [.bin .eql 15 (zI 0)] [] (.ret [16]))) (.ret [.c (.b false)]))
def zn2:T :=
 .lets [.bin .eql 7 10] [] (.ite 15 (.lets [.len 6] [] (.lets [.bin .eql 16 (zI 0)] [] (.ret [17]))) (.ret [.c (.b false)]))
def zn3:T :=
 .lets [.call 49 [0,1,2,3,4,5] 0,.call 49 [0,1,2,3,4,5] 1] [] (.lets [.bin .eql 7 15] [] (.ite 16 (.lets [.call 28 [.v
 6,14] 0] [] (.ret [17])) (.ret [.c (.b false)])))
def zn4:T :=
 .ite 12 (.lets [.call 19 [] 0] [] (.ite 13 zn1 (.ret [.c (.b false)]))) (.lets [.bin .neq 10 (zI 0)] [] (.ite 13 (.lets [.call 19 [] 0] []
 (.ite 14 zn2 (.ret [.c (.b false)]))) zn3))
def zn5:T :=
 .ite 12 (.lets [.bin .eql 7 8] [] (.ite 13 (.lets [.len 6] [] (.lets [.bin .eql 14 (zI 0)] [] (.ret [15]))) (.ret [.c (.b false)]))) (.ret
 [.c (.b false)])
def zn6:T :=
 .ite 13 (.lets [.bin .eql 7 8] [] (.ite 14 (.lets [.len 6] [] (.lets [.bin .eql 15 (zI 0)] [] (.ret [16]))) (.ret [.c (.b false)]))) (.ret
 [.c (.b false)])
def zn7:T :=
 .lets [.call 49 [0,1,2,3,4,5] 0,.call 49 [0,1,2,3,4,5] 1] [] (.lets [.bin .eql 7 14] [] (.ite 15 (.lets [.call 28 [.v
 6,13] 0] [] (.ret [16])) (.ret [.c (.b false)])))
def zn8:T :=
 .ite 11 (.lets [.call 19 [] 0] [] zn5) (.lets [.bin .neq 8 (zI 0)] [] (.ite 12 (.lets [.call 19 [] 0] [] zn6) zn7))
def zn9:T :=
 .ite 9 (.lets [.call 47 [1,2,3] 0] [] (.lets [.call 19 [] 0] [] (.lets [.not 11] [] zn4))) (.lets [.call 19 [] 0] [] (.lets [.not 10] []
 zn8))
def zaa:T :=
 .lets [.call 30 [0,1,2,3,4,5] 0,.call 30 [0,1,2,3,4,5] 1] [] (.lets [.call 27 [0] 0] [] (.lets [.bin .eql 8 (zI 0)]
 [] zn9))
attribute [local irreducible] z3u z0r z2x z4s z2a z5k
theorem zy3:Meets Tryz.prog zvr 4 ⟨[.one,.agg 3,.one,.agg 1],[(false,[.scal])],true⟩:=by
 refine z06 (sp:=(z0w [(19,z3u),(27,z0r),(28,z2a),(30,z5k),(47,z2x),(49,z4s)])) (sigs:=z17) (cut:=[]) (hints:=[]) (fn:=Tryz.f4) (t:=zaa) (by kernel_rfl) (by kernel_rfl) (by kernel_rfl) ?_ ?_
 ·exact (z0q (L:=[(19,z3u),(27,z0r),(28,z2a),(30,z5k),(47,z2x),(49,z4s)]) ⟨zj rfl zve,zj rfl z5p,zj rfl zcy,zj rfl z00q,zj rfl zh0,zj rfl zxk,trivial⟩)
 ·rintro ds rs - h
  obtain ⟨⟨l,t,nm,⟨u⟩⟩,hu,rfl,rfl⟩:=z01 h;clear h;simp only at hu;refine ⟨⟨1,?_⟩,z0i rfl⟩
  show den _ _ zaa [.l 6 (l.map zb),I t.height,.l 3 (t.ins.map eIn),.l 2 (t.outs.map z1p),I nm,.l 6 (u.map zb)] []=ret true
  have a1:=zgx l t nm u hu;have a2:=z2o l;have a3:=z29 l;have a4:=zav t;have a5:=zdk;unfold zaa
  by_cases hl:ze l=0
  ·by_cases htx:zr t=0
   ·have ok:=(z1l l).1 hl
    have okt:=z8o htx;have a6:=zgu l t nm u ⟨z4a ok.sorted,by have:=ok.len;omega,by have:=okt.ins;omega,by have:=okt.outs;omega⟩;rw [zxm hl htx] at a6;rw [hl] at a2 a3;rw [htx] at a4;generalize z27 l t nm u=q at *;obtain ⟨q1,q2⟩:=q;have a7:=z5u q1 q1;rw [decide_eq_true rfl] at a7
    repeat' (first|refine dq1 ?_|refine dqc ?_|refine dqm ?_|refine dqK rfl (a1) ?_|refine dqK rfl (a2) ?_|refine dqK rfl (a3) ?_|refine dqK rfl (a4) ?_|refine dqK rfl (a5) ?_|refine dqK rfl (a6) ?_|refine dqK rfl (a7) ?_|exact z5 rfl rfl|((first|refine tR ?_ ?_|refine tB ?_ ?_|refine tC ?_ ?_|refine tN ?_ ?_|refine tF ?_ ?_|refine tG ?_ ?_|refine tP ?_ ?_|refine tQ ?_ ?_|refine tA ?_ ?_|refine tO ?_ ?_|refine tU ?_ ?_|refine tV ?_ ?_) <;> intro h)|refine dqT ?_|refine dqF ?_|refine zt rfl ?_|refine zq rfl ?_|refine z0e ?_|refine z0f ?_|refine tZ (fun h=>?_) fun h=>?_|refine tZn (fun h=>?_) fun h=>?_)
   ·rw [zy2 hl htx] at a1
    rw [hl] at a2 a3;generalize zr t=e at *
    repeat' (first|refine dq1 ?_|refine dqc ?_|refine dqm ?_|refine dqK rfl (a1) ?_|refine dqK rfl (a2) ?_|refine dqK rfl (a3) ?_|refine dqK rfl (a4) ?_|refine dqK rfl (a5) ?_|exact z5 rfl rfl|((first|refine tR ?_ ?_|refine tB ?_ ?_|refine tC ?_ ?_|refine tN ?_ ?_|refine tF ?_ ?_|refine tG ?_ ?_|refine tP ?_ ?_|refine tQ ?_ ?_|refine tA ?_ ?_|refine tO ?_ ?_|refine tU ?_ ?_|refine tV ?_ ?_) <;> intro h)|refine dqT ?_|refine dqF ?_|refine zt rfl ?_|refine zq rfl ?_|refine z0e ?_|refine z0f ?_|refine tZ (fun h=>?_) fun h=>?_|refine tZn (fun h=>?_) fun h=>?_)
  ·rw [zy1 hl] at a1
   generalize ze l=e at *
   repeat' (first|refine dq1 ?_|refine dqc ?_|refine dqm ?_|refine dqK rfl (a1) ?_|refine dqK rfl (a2) ?_|refine dqK rfl (a3) ?_|refine dqK rfl (a4) ?_|refine dqK rfl (a5) ?_|exact z5 rfl rfl|((first|refine tR ?_ ?_|refine tB ?_ ?_|refine tC ?_ ?_|refine tN ?_ ?_|refine tF ?_ ?_|refine tG ?_ ?_|refine tP ?_ ?_|refine tQ ?_ ?_|refine tA ?_ ?_|refine tO ?_ ?_|refine tU ?_ ?_|refine tV ?_ ?_) <;> intro h)|refine dqT ?_|refine dqF ?_|refine zt rfl ?_|refine zq rfl ?_|refine z0e ?_|refine z0f ?_|refine tZ (fun h=>?_) fun h=>?_|refine tZn (fun h=>?_) fun h=>?_)
theorem unspentRevert_walk (l:List (Coin)) (A_l:Option Addr) (n_l c_l:Nat) (t:Tx) (c_t:List Value) (nm:Int) (u:Undo) (c_u:List Value) (w:World) (h_l:Rds shCoin w (Lt w.heap.size) l A_l n_l c_l) (h_t:shTx.rep w (Lt w.heap.size) t c_t) (nm_0 : -9223372036854775808≤nm) (nm_1:nm≤9223372036854775807) (h_u:shUndo.rep w (Lt w.heap.size) u c_u) (z_u:∀ c ∈ u.spent,c.o.lock.length≤8796093021952) :
  Calls Tryz.prog 4 #[.slice A_l n_l c_l,.agg c_t.toArray,.int .i64 nm,.agg c_u.toArray] w fun e w'=>e = .returned (.bool true)∧Below w.heap.size w w' :=
 za0 (F:=Lt w.heap.size) (us:=[.slice A_l n_l c_l,.agg c_t.toArray,.int .i64 nm,.agg c_u.toArray]) rfl (z4c (fn:=Tryz.f4) (by kernel_rfl) (by kernel_rfl) (by kernel_rfl)) zy3 ⟨fun _ h=>h,trivial,trivial,trivial,trivial⟩ (z09 (f:=fun _=>true) (l,t,nm,u) (fun c hc=>zY39 (z_u c hc) (by omega)))
  (z6g (zhd she_coin h_l) (zb6 (d1:=eTx t) (she_tx.to h_t) rfl (z6g (.i _ _ (wrap_i64 ⟨nm_0,nm_1⟩)) (zb6 (d1:=z4x u) (she_undo.to h_u) rfl zfr))))
end
end Go.Proofs.YtjknfjbpmdfphaaGreat
