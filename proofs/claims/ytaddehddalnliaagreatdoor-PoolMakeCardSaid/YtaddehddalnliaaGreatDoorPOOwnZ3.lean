/- Own texts, put together by wip/bundle.py: VQ4, VQ5, VQ6, VQ7, VQ8, VQ9, VQ10, VUB, VUD, VUE, VE2, VL5, VL5a, VL5b, VL5c, VL6, VUC, VE3, VE5, VE6, VE7, VC7, VTxR, VW26. -/
import Derived.Deep.DeepCutAuto
import Derived.Deep.Light
import Derived.Sort.AssemblyPlain
import Derived.Shelf.SlSortFuncK.BreakPatternsK
import Derived.Shelf.GgSortFunc.SmallK
import Derived.Shelf.GgSortFunc.Slice
import Derived.Shelf.GgSortFunc.Tiny
import Derived.Test.YtaddehddalnliaaGreatDoorShelf4
import Derived.Test.YtaddehddalnliaaGreatDoorPOOwnB
import Derived.Test.YtaddehddalnliaaGreatDoorPOOwnC
import Derived.Test.YtaddehddalnliaaGreatDoorPOOwnR
import Derived.Test.YtaddehddalnliaaGreatDoorPOOwnS
import Derived.Test.YtaddehddalnliaaGreatDoorPOOwnV2
import Derived.Test.YtaddehddalnliaaGreatDoorPOOwnZ2
set_option linter.unusedVariables false
set_option linter.unusedSimpArgs false
namespace Go.Proofs.YtaddehddalnliaaGreatDoor
section
open Go.RowKit Go.Sort
set_option maxRecDepth 100000
set_option maxHeartbeats 4000000
section
variable {α:Type} [Inhabited α] {lt:α→α→Bool} {n B lf sf:Nat} {lb sb:Array Value} {St:Array α→World→Prop}
theorem z0cv (p:α→Bool) (d:Array α) (j i:Nat) (h:(decide (i≤j) && p d[i]!)=true):scanUp p d j i=scanUp p d j (i+1):=by rw [scanUp,if_pos h]
theorem z032 (p:α→Bool) (d:Array α) (j i:Nat) (h:(decide (i≤j) && p d[i]!)=false):scanUp p d j i=i:=by rw [scanUp,if_neg (by rw [h];exact zY3h)]
theorem zp0 (p:α→Bool) (d:Array α) (i j:Nat) (h0:1≤j) (h:(decide (i≤j) && p d[j]!)=true):scanDown p d i j=scanDown p d i (j - 1):=by
 obtain ⟨k,rfl⟩:∃ k,j=k+1:=⟨j - 1,by omega⟩
 rw [scanDown,if_pos h];rfl
theorem zkl (p:α→Bool) (d:Array α) (i j:Nat) (h:(decide (i≤j) && p d[j]!)=false):scanDown p d i j=j:=by
 cases j with
 | zero=>rfl
 | succ k=>rw [scanDown,if_neg (by rw [h];exact zY3h)]
theorem z095 {a i j i2 j2:Nat} {d:Array α} (h1:scanUp (fun x=>lt x d[a]!) d j i=i2) (h2:scanDown (fun x => !lt x d[a]!) d i2 j=j2) (h:i2≤j2) (hi:i≤i2) (hj:j2≤j) (h0:1≤i2):partLoop lt a i j d=partLoop lt a (i2+1) (j2 - 1) (swp d i2 j2):=by
 rw [partLoop,h1];simp only [h2];rw [if_neg (by omega),dif_pos (by omega)]
theorem z033 {a i j i2 j2:Nat} {d:Array α} (h1:scanUp (fun x=>lt x d[a]!) d j i=i2) (h2:scanDown (fun x => !lt x d[a]!) d i2 j=j2) (h:¬ i2≤j2):partLoop lt a i j d=(j2,d):=by
 rw [partLoop,h1];simp only [h2];rw [if_pos (by omega)]
theorem z0gk {a i j i2 j2:Nat} {d:Array α} (h1:scanUp (fun x => !lt d[a]! x) d j i=i2) (h2:scanDown (fun x=>lt d[a]! x) d i2 j=j2) (h:i2≤j2) (hi:i≤i2) (hj:j2≤j) (h0:1≤i2):partEqLoop lt a i j d=partEqLoop lt a (i2+1) (j2 - 1) (swp d i2 j2):=by
 rw [partEqLoop,h1];simp only [h2];rw [if_neg (by omega),dif_pos (by omega)]
theorem z0cw {a i j i2 j2:Nat} {d:Array α} (h1:scanUp (fun x => !lt d[a]! x) d j i=i2) (h2:scanDown (fun x=>lt d[a]! x) d i2 j=j2) (h:¬ i2≤j2):partEqLoop lt a i j d=(i2,d):=by
 rw [partEqLoop,h1];simp only [h2];rw [if_pos (by omega)]
theorem z0js (S:Srt lt n B lf lb sf sb St) {w:World} {d:Array α} (h:St d w) {a b pivot:Nat} (hab:a<b) (hb:b≤n) (hp:pivot<n) :
  Calls Tryz.prog 189 #[.agg #[.func (.func lf) #[] lb,.func (.func sf) #[] sb],.int .i64 a,.int .i64 b,.int .i64 pivot] w fun e w'=>e = .returned (.int .i64 ((partitionEqual lt d a b pivot).1:Nat))∧St (partitionEqual lt d a b pivot).2 w'∧Fwd B w w':=by
 have hw:=S.base h;have hO:=On.start S h;have hbig:=S.big;have eg:=S.enters;have c1:=hO.c1;obtain ⟨w2,hs,hV⟩:=hO.swap S hw (i:=a) (j:=pivot) (x:=a) (y:=pivot) (by omega) (by omega) rfl rfl;have HS:=Lib.hid hs;clear hs;go_enter Tryz.func189,Tryz.ntmps189;go_wp2_with (rw [HS.out,Oper.upon_value]);clear hO c1 HS;go_loopg [9,10] b (fun kx vi vj wr=>∃ (i j:Nat) (dk:Array α),vi = .int .i64 i∧vj = .int .i64 j∧a+1≤i∧i≤n∧j<b∧j<kx∧On B lf lb sf sb St w dk wr∧Hid (partEqLoop lt a i j dk=partEqLoop lt a (a+1) (b - 1) (swp d a pivot)))
 case atStart=>exact ⟨a+1,b - 1,_,by go_num,by go_num,by omega,by omega,by omega,by omega,hV,rfl⟩
 case round =>
  obtain ⟨i,j,dk,rfl,rfl,hai,hin,hjb,hkx,hW,HO⟩:=hrel;clear hV;go_wp2;go_loopg [9] (n+1) (fun kx v wr=>∃ i2:Nat,v = .int .i64 i2∧i≤i2∧i2≤n∧n - i2<kx∧On B lf lb sf sb St w dk wr∧Hid (scanUp (fun x => !lt dk[a]! x) dk j i2=scanUp (fun x => !lt dk[a]! x) dk j (i)))
  case atStart=>exact ⟨i,rfl,by omega,by omega,by omega,hW,rfl⟩
  case round =>
   obtain ⟨i2,rfl,hi20,hi21,hki2,hi2W,Hi2⟩:=hrel;clear hW;have c0:=hi2W.c0;go_upto_region 3 with fail
   go_cut [30] (fun c wx=>c = .bool (decide (i2≤j) && (fun x => !lt dk[a]! x) dk[i2]!)∧On B lf lb sf sb St w dk wx)
   case first =>
    by_cases hz:i2≤j
    ·have hzz:(i2:Int)≤((j:Nat):Int):=by omega
     cases hl:lt dk[a]! dk[i2]! with
     | true =>
      have hc:=hi2W.less S hw (i:=a) (j:=i2) (x:=a) (y:=i2) (by omega) (by omega) rfl rfl hl;have HL:=Lib.hid hl;clear hl;go_wp2_with (refine hc.mono ?_;rintro e w1 ⟨rfl,hU⟩;simp only [];clear hc);go_meet;exact ⟨by rw [decide_eq_true hz];show _=Value.bool (true && !lt dk[a]! dk[i2]!);rw [HL.out];rfl,hU⟩
     | false =>
      have hc:=hi2W.less S hw (i:=a) (j:=i2) (x:=a) (y:=i2) (by omega) (by omega) rfl rfl hl;have HL:=Lib.hid hl;clear hl;go_wp2_with (refine hc.mono ?_;rintro e w1 ⟨rfl,hU⟩;simp only [];clear hc);go_meet;exact ⟨by rw [decide_eq_true hz];show _=Value.bool (true && !lt dk[a]! dk[i2]!);rw [HL.out];rfl,hU⟩
    ·have hzz:¬ (i2:Int)≤((j:Nat):Int):=by omega
     go_wp2_with fail;go_meet;exact ⟨by rw [decide_eq_false hz];rfl,hi2W⟩
   case rest =>
    obtain ⟨rfl,hi2X⟩:=hcut;clear hi2W c0
    cases hb:(decide (i2≤j) && (fun x => !lt dk[a]! x) dk[i2]!) with
    | true =>
     have HB:=Lib.hid hb;have hi2J:i2≤j:=by (rw [zY0a] at hb;exact of_decide_eq_true hb.1)
     clear hb;go_wp2;go_roundg (n - i2)
     case measure=>omega
     case rel=>exact ⟨i2+1,by go_num,by omega,by omega,by omega,hi2X,by show Hid _;rw [← Hi2.out,z0cv (fun x => !lt dk[a]! x) dk (j) i2 HB.out];exact rfl⟩
    | false =>
     have Ei2:Hid (scanUp (fun x => !lt dk[a]! x) dk j (i)=i2):=by (show _=_;rw [← Hi2.out,z032 (fun x => !lt dk[a]! x) dk (j) i2 hb])
     clear hb Hi2;go_wp2;go_loopg [10] (j+1) (fun ky v wr=>∃ j2:Nat,v = .int .i64 j2∧j2≤j∧j2<ky∧On B lf lb sf sb St w dk wr∧Hid (scanDown (fun x=>lt dk[a]! x) dk i2 j2=scanDown (fun x=>lt dk[a]! x) dk i2 (j)))
     case atStart=>exact ⟨j,rfl,zY0m _,zY1z _,hi2X,rfl⟩
     case round =>
      obtain ⟨j2,rfl,hj20,hkj2,hj2W,Hj2⟩:=hrel;clear hi2X;have c0:=hj2W.c0;go_upto_region 5 with fail
      go_cut [42] (fun c wx=>c = .bool (decide (i2≤j2) && (fun x=>lt dk[a]! x) dk[j2]!)∧On B lf lb sf sb St w dk wx)
      case first =>
       by_cases hz:i2≤j2
       ·have hzz:(i2:Int)≤(j2:Int):=by omega
        cases hl:lt dk[a]! dk[j2]! with
        | true =>
         have hc:=hj2W.less S hw (i:=a) (j:=j2) (x:=a) (y:=j2) (by omega) (by omega) rfl rfl hl;have HL:=Lib.hid hl;clear hl;go_wp2_with (refine hc.mono ?_;rintro e w1 ⟨rfl,hU⟩;simp only [];clear hc);go_meet;exact ⟨by rw [decide_eq_true hz];show _=Value.bool (true && lt dk[a]! dk[j2]!);rw [HL.out];rfl,hU⟩
        | false =>
         have hc:=hj2W.less S hw (i:=a) (j:=j2) (x:=a) (y:=j2) (by omega) (by omega) rfl rfl hl;have HL:=Lib.hid hl;clear hl;go_wp2_with (refine hc.mono ?_;rintro e w1 ⟨rfl,hU⟩;simp only [];clear hc);go_meet;exact ⟨by rw [decide_eq_true hz];show _=Value.bool (true && lt dk[a]! dk[j2]!);rw [HL.out];rfl,hU⟩
       ·have hzz:¬ (i2:Int)≤(j2:Int):=by omega
        go_wp2_with fail;go_meet;exact ⟨by rw [decide_eq_false hz];rfl,hj2W⟩
      case rest =>
       obtain ⟨rfl,hj2X⟩:=hcut;clear hj2W c0
       cases hb:(decide (i2≤j2) && (fun x=>lt dk[a]! x) dk[j2]!) with
       | true =>
        have HB:=Lib.hid hb;have hj2J:i2≤j2:=by (rw [zY0a] at hb;exact of_decide_eq_true hb.1)
        clear hb;go_wp2;go_roundg j2
        case measure=>omega
        case rel=>exact ⟨j2 - 1,by go_num,by omega,by omega,hj2X,by show Hid _;rw [← Hj2.out,zp0 (fun x=>lt dk[a]! x) dk i2 j2 (by omega) HB.out];exact rfl⟩
       | false =>
        have Ej2:Hid (scanDown (fun x=>lt dk[a]! x) dk i2 (j)=j2):=by (show _=_;rw [← Hj2.out,zkl (fun x=>lt dk[a]! x) dk i2 j2 hb])
        clear hb Hj2
        by_cases hz:i2≤j2
        ·have hzz:¬ ((j2:Nat):Int)<(i2:Int):=by omega
         have c1:=hj2X.c1;obtain ⟨w2,hs,hV⟩:=hj2X.swap S hw (i:=i2) (j:=j2) (x:=i2) (y:=j2) (by omega) (by omega) rfl rfl;have HS:=Lib.hid hs;clear hs;go_wp2_with (rw [HS.out,Oper.upon_value]);go_roundg j
         case measure=>omega
         case rel=>exact ⟨i2+1,j2 - 1,_,by go_num,by go_num,by omega,by omega,by omega,by omega,hV,by show Hid _;rw [← HO.out,z0gk Ei2.out Ej2.out hz (by omega) (by omega) (by omega)];exact rfl⟩
        ·have hzz:((j2:Nat):Int)<(i2:Int):=by omega
         go_wp2;go_ret;have hv:partEqLoop lt a (a+1) (b - 1) (swp d a pivot)=(i2,dk):=by rw [← HO.out];exact z0cw Ei2.out Ej2.out hz
         refine ⟨?_,?_,hj2X.fwd⟩
         ·unfold partitionEqual;rw [hv];rfl
         ·unfold partitionEqual;rw [hv];exact hj2X.st
theorem z0jt (lt:α→α→Bool) (d:Array α) (a b p:Nat) {i j:Nat} (h1:scanUp (fun x=>lt x (swp d a p)[a]!) (swp d a p) (b - 1) (a+1)=i) (h2:scanDown (fun x => !lt x (swp d a p)[a]!) (swp d a p) i (b - 1)=j) (h:¬ i≤j):partition lt d a b p=(j,true,swp (swp d a p) j a):=by
 unfold partition;simp only [h1,h2];rw [if_pos (by omega)]
theorem z0mv (lt:α→α→Bool) (d:Array α) (a b p:Nat) {i j:Nat} (h1:scanUp (fun x=>lt x (swp d a p)[a]!) (swp d a p) (b - 1) (a+1)=i) (h2:scanDown (fun x => !lt x (swp d a p)[a]!) (swp d a p) i (b - 1)=j) (h:i≤j):partition lt d a b p=((partLoop lt a (i+1) (j - 1) (swp (swp d a p) i j)).1,false,swp (partLoop lt a (i+1) (j - 1) (swp (swp d a p) i j)).2 (partLoop lt a (i+1) (j - 1) (swp (swp d a p) i j)).1 a):=by
 unfold partition;simp only [h1,h2];rw [if_neg (by omega)]
theorem z0pd (S:Srt lt n B lf lb sf sb St) {w:World} {d:Array α} (h:St d w) {a b pivot:Nat} (hab:a<b) (hb:b≤n) (hp:pivot<n) :
  Calls Tryz.prog 190 #[.agg #[.func (.func lf) #[] lb,.func (.func sf) #[] sb],.int .i64 a,.int .i64 b,.int .i64 pivot] w fun e w'=>e = .returned (.tuple #[.int .i64 ((partition lt d a b pivot).1:Nat),.bool (partition lt d a b pivot).2.1])∧St (partition lt d a b pivot).2.2 w'∧Fwd B w w':=by
 have hw:=S.base h;have hO:=On.start S h;have hbig:=S.big;have eg:=S.enters;have c1:=hO.c1;obtain ⟨w2,hs,hV⟩:=hO.swap S hw (i:=a) (j:=pivot) (x:=a) (y:=pivot) (by omega) (by omega) rfl rfl;have HS:=Lib.hid hs;clear hs;go_enter Tryz.func190,Tryz.ntmps190;go_wp2_with (rw [HS.out,Oper.upon_value]);clear hO c1 HS;go_loopg [10] (n+1) (fun kx v wr=>∃ i0:Nat,v = .int .i64 i0∧(a+1)≤i0∧i0≤n∧n - i0<kx∧On B lf lb sf sb St w (swp d a pivot) wr∧Hid (scanUp (fun x=>lt x (swp d a pivot)[a]!) (swp d a pivot) (b - 1) i0=scanUp (fun x=>lt x (swp d a pivot)[a]!) (swp d a pivot) (b - 1) ((a+1))))
 case atStart=>exact ⟨(a+1),by go_num,by omega,by omega,by omega,hV,rfl⟩
 case round =>
  obtain ⟨i0,rfl,hi00,hi01,hki0,hi0W,Hi0⟩:=hrel;clear hV;have c0:=hi0W.c0;go_upto_region 3 with fail
  go_cut [30] (fun c wx=>c = .bool (decide (i0≤(b - 1)) && (fun x=>lt x (swp d a pivot)[a]!) (swp d a pivot)[i0]!)∧On B lf lb sf sb St w (swp d a pivot) wx)
  case first =>
   by_cases hz:i0≤(b - 1)
   ·have hzz:(i0:Int)≤(((b - 1):Nat):Int):=by omega
    cases hl:lt (swp d a pivot)[i0]! (swp d a pivot)[a]! with
    | true =>
     have hc:=hi0W.less S hw (i:=i0) (j:=a) (x:=i0) (y:=a) (by omega) (by omega) rfl rfl hl;have HL:=Lib.hid hl;clear hl;go_wp2_with (refine hc.mono ?_;rintro e w1 ⟨rfl,hU⟩;simp only [];clear hc);go_meet;exact ⟨by rw [decide_eq_true hz];show _=Value.bool (true && lt (swp d a pivot)[i0]! (swp d a pivot)[a]!);rw [HL.out];rfl,hU⟩
    | false =>
     have hc:=hi0W.less S hw (i:=i0) (j:=a) (x:=i0) (y:=a) (by omega) (by omega) rfl rfl hl;have HL:=Lib.hid hl;clear hl;go_wp2_with (refine hc.mono ?_;rintro e w1 ⟨rfl,hU⟩;simp only [];clear hc);go_meet;exact ⟨by rw [decide_eq_true hz];show _=Value.bool (true && lt (swp d a pivot)[i0]! (swp d a pivot)[a]!);rw [HL.out];rfl,hU⟩
   ·have hzz:¬ (i0:Int)≤(((b - 1):Nat):Int):=by omega
    go_wp2_with fail;go_meet;exact ⟨by rw [decide_eq_false hz];rfl,hi0W⟩
  case rest =>
   obtain ⟨rfl,hi0X⟩:=hcut;clear hi0W c0
   cases hb:(decide (i0≤(b - 1)) && (fun x=>lt x (swp d a pivot)[a]!) (swp d a pivot)[i0]!) with
   | true =>
    have HB:=Lib.hid hb;have hi0J:i0≤(b - 1):=by (rw [zY0a] at hb;exact of_decide_eq_true hb.1)
    clear hb;go_wp2;go_roundg (n - i0)
    case measure=>omega
    case rel=>exact ⟨i0+1,by go_num,by omega,by omega,by omega,hi0X,by show Hid _;rw [← Hi0.out,z0cv (fun x=>lt x (swp d a pivot)[a]!) (swp d a pivot) ((b - 1)) i0 HB.out];exact rfl⟩
   | false =>
    have Ei0:Hid (scanUp (fun x=>lt x (swp d a pivot)[a]!) (swp d a pivot) (b - 1) ((a+1))=i0):=by (show _=_;rw [← Hi0.out,z032 (fun x=>lt x (swp d a pivot)[a]!) (swp d a pivot) ((b - 1)) i0 hb])
    clear hb Hi0;go_wp2;go_loopg [11] ((b - 1)+1) (fun ky v wr=>∃ j0:Nat,v = .int .i64 j0∧j0≤(b - 1)∧j0<ky∧On B lf lb sf sb St w (swp d a pivot) wr∧Hid (scanDown (fun x => !lt x (swp d a pivot)[a]!) (swp d a pivot) i0 j0=scanDown (fun x => !lt x (swp d a pivot)[a]!) (swp d a pivot) i0 ((b - 1))))
    case atStart=>exact ⟨(b - 1),by go_num,zY0m _,zY1z _,hi0X,rfl⟩
    case round =>
     obtain ⟨j0,rfl,hj00,hkj0,hj0W,Hj0⟩:=hrel;clear hi0X;have c0:=hj0W.c0;go_upto_region 5 with fail
     go_cut [43] (fun c wx=>c = .bool (decide (i0≤j0) && (fun x => !lt x (swp d a pivot)[a]!) (swp d a pivot)[j0]!)∧On B lf lb sf sb St w (swp d a pivot) wx)
     case first =>
      by_cases hz:i0≤j0
      ·have hzz:(i0:Int)≤(j0:Int):=by omega
       cases hl:lt (swp d a pivot)[j0]! (swp d a pivot)[a]! with
       | true =>
        have hc:=hj0W.less S hw (i:=j0) (j:=a) (x:=j0) (y:=a) (by omega) (by omega) rfl rfl hl;have HL:=Lib.hid hl;clear hl;go_wp2_with (refine hc.mono ?_;rintro e w1 ⟨rfl,hU⟩;simp only [];clear hc);go_meet;exact ⟨by rw [decide_eq_true hz];show _=Value.bool (true && !lt (swp d a pivot)[j0]! (swp d a pivot)[a]!);rw [HL.out];rfl,hU⟩
       | false =>
        have hc:=hj0W.less S hw (i:=j0) (j:=a) (x:=j0) (y:=a) (by omega) (by omega) rfl rfl hl;have HL:=Lib.hid hl;clear hl;go_wp2_with (refine hc.mono ?_;rintro e w1 ⟨rfl,hU⟩;simp only [];clear hc);go_meet;exact ⟨by rw [decide_eq_true hz];show _=Value.bool (true && !lt (swp d a pivot)[j0]! (swp d a pivot)[a]!);rw [HL.out];rfl,hU⟩
      ·have hzz:¬ (i0:Int)≤(j0:Int):=by omega
       go_wp2_with fail;go_meet;exact ⟨by rw [decide_eq_false hz];rfl,hj0W⟩
     case rest =>
      obtain ⟨rfl,hj0X⟩:=hcut;clear hj0W c0
      cases hb:(decide (i0≤j0) && (fun x => !lt x (swp d a pivot)[a]!) (swp d a pivot)[j0]!) with
      | true =>
       have HB:=Lib.hid hb;have hj0J:i0≤j0:=by (rw [zY0a] at hb;exact of_decide_eq_true hb.1)
       clear hb;go_wp2;go_roundg j0
       case measure=>omega
       case rel=>exact ⟨j0 - 1,by go_num,by omega,by omega,hj0X,by show Hid _;rw [← Hj0.out,zp0 (fun x => !lt x (swp d a pivot)[a]!) (swp d a pivot) i0 j0 (by omega) HB.out];exact rfl⟩
      | false =>
       have Ej0:Hid (scanDown (fun x => !lt x (swp d a pivot)[a]!) (swp d a pivot) i0 ((b - 1))=j0):=by (show _=_;rw [← Hj0.out,zkl (fun x => !lt x (swp d a pivot)[a]!) (swp d a pivot) i0 j0 hb])
       clear hb Hj0;have HV:Hid _:=z0mv lt d a b pivot Ei0.out Ej0.out
       by_cases hz:i0≤j0
       ·have hzz:¬ ((j0:Nat):Int)<(i0:Int):=by omega
        have hz0:Hid (i0≤j0):=hz;have c1:=hj0X.c1;obtain ⟨w2,hs,hV⟩:=hj0X.swap S hw (i:=i0) (j:=j0) (x:=i0) (y:=j0) (by omega) (by omega) rfl rfl;have HS:=Lib.hid hs;clear hs;go_wp2_with (rw [HS.out,Oper.upon_value]);clear hj0X c1 HS Ei0 Ej0;go_loopg [10,11] b (fun kx vi vj wr=>∃ (i j:Nat) (dk:Array α),vi = .int .i64 i∧vj = .int .i64 j∧a+1≤i∧i≤n∧j<b∧j<kx∧On B lf lb sf sb St w dk wr∧Hid (partLoop lt a i j dk=partLoop lt a (i0+1) (j0 - 1) (swp (swp d a pivot) i0 j0)))
        case atStart=>exact ⟨i0+1,j0 - 1,_,by go_num,by go_num,by omega,by omega,by omega,by omega,hV,rfl⟩
        case round =>
         obtain ⟨i,j,dk,rfl,rfl,hai,hin,hjb,hkx,hW,HO⟩:=hrel;clear hV;go_wp2;go_loopg [10] (n+1) (fun kx v wr=>∃ i2:Nat,v = .int .i64 i2∧i≤i2∧i2≤n∧n - i2<kx∧On B lf lb sf sb St w dk wr∧Hid (scanUp (fun x=>lt x dk[a]!) dk j i2=scanUp (fun x=>lt x dk[a]!) dk j (i)))
         case atStart=>exact ⟨i,rfl,by omega,by omega,by omega,hW,rfl⟩
         case round =>
          obtain ⟨i2,rfl,hi20,hi21,hki2,hi2W,Hi2⟩:=hrel;clear hW;have c0:=hi2W.c0;go_upto_region 13 with fail
          go_cut [73] (fun c wx=>c = .bool (decide (i2≤j) && (fun x=>lt x dk[a]!) dk[i2]!)∧On B lf lb sf sb St w dk wx)
          case first =>
           by_cases hz:i2≤j
           ·have hzz:(i2:Int)≤((j:Nat):Int):=by omega
            cases hl:lt dk[i2]! dk[a]! with
            | true =>
             have hc:=hi2W.less S hw (i:=i2) (j:=a) (x:=i2) (y:=a) (by omega) (by omega) rfl rfl hl;have HL:=Lib.hid hl;clear hl;go_wp2_with (refine hc.mono ?_;rintro e w1 ⟨rfl,hU⟩;simp only [];clear hc);go_meet;exact ⟨by rw [decide_eq_true hz];show _=Value.bool (true && lt dk[i2]! dk[a]!);rw [HL.out];rfl,hU⟩
            | false =>
             have hc:=hi2W.less S hw (i:=i2) (j:=a) (x:=i2) (y:=a) (by omega) (by omega) rfl rfl hl;have HL:=Lib.hid hl;clear hl;go_wp2_with (refine hc.mono ?_;rintro e w1 ⟨rfl,hU⟩;simp only [];clear hc);go_meet;exact ⟨by rw [decide_eq_true hz];show _=Value.bool (true && lt dk[i2]! dk[a]!);rw [HL.out];rfl,hU⟩
           ·have hzz:¬ (i2:Int)≤((j:Nat):Int):=by omega
            go_wp2_with fail;go_meet;exact ⟨by rw [decide_eq_false hz];rfl,hi2W⟩
          case rest =>
           obtain ⟨rfl,hi2X⟩:=hcut;clear hi2W c0
           cases hb:(decide (i2≤j) && (fun x=>lt x dk[a]!) dk[i2]!) with
           | true =>
            have HB:=Lib.hid hb;have hi2J:i2≤j:=by (rw [zY0a] at hb;exact of_decide_eq_true hb.1)
            clear hb;go_wp2;go_roundg (n - i2)
            case measure=>omega
            case rel=>exact ⟨i2+1,by go_num,by omega,by omega,by omega,hi2X,by show Hid _;rw [← Hi2.out,z0cv (fun x=>lt x dk[a]!) dk (j) i2 HB.out];exact rfl⟩
           | false =>
            have Ei2:Hid (scanUp (fun x=>lt x dk[a]!) dk j (i)=i2):=by (show _=_;rw [← Hi2.out,z032 (fun x=>lt x dk[a]!) dk (j) i2 hb])
            clear hb Hi2;go_wp2;go_loopg [11] (j+1) (fun ky v wr=>∃ j2:Nat,v = .int .i64 j2∧j2≤j∧j2<ky∧On B lf lb sf sb St w dk wr∧Hid (scanDown (fun x => !lt x dk[a]!) dk i2 j2=scanDown (fun x => !lt x dk[a]!) dk i2 (j)))
            case atStart=>exact ⟨j,rfl,zY0m _,zY1z _,hi2X,rfl⟩
            case round =>
             obtain ⟨j2,rfl,hj20,hkj2,hj2W,Hj2⟩:=hrel;clear hi2X;have c0:=hj2W.c0;go_upto_region 15 with fail
             go_cut [86] (fun c wx=>c = .bool (decide (i2≤j2) && (fun x => !lt x dk[a]!) dk[j2]!)∧On B lf lb sf sb St w dk wx)
             case first =>
              by_cases hz:i2≤j2
              ·have hzz:(i2:Int)≤(j2:Int):=by omega
               cases hl:lt dk[j2]! dk[a]! with
               | true =>
                have hc:=hj2W.less S hw (i:=j2) (j:=a) (x:=j2) (y:=a) (by omega) (by omega) rfl rfl hl;have HL:=Lib.hid hl;clear hl;go_wp2_with (refine hc.mono ?_;rintro e w1 ⟨rfl,hU⟩;simp only [];clear hc);go_meet;exact ⟨by rw [decide_eq_true hz];show _=Value.bool (true && !lt dk[j2]! dk[a]!);rw [HL.out];rfl,hU⟩
               | false =>
                have hc:=hj2W.less S hw (i:=j2) (j:=a) (x:=j2) (y:=a) (by omega) (by omega) rfl rfl hl;have HL:=Lib.hid hl;clear hl;go_wp2_with (refine hc.mono ?_;rintro e w1 ⟨rfl,hU⟩;simp only [];clear hc);go_meet;exact ⟨by rw [decide_eq_true hz];show _=Value.bool (true && !lt dk[j2]! dk[a]!);rw [HL.out];rfl,hU⟩
              ·have hzz:¬ (i2:Int)≤(j2:Int):=by omega
               go_wp2_with fail;go_meet;exact ⟨by rw [decide_eq_false hz];rfl,hj2W⟩
             case rest =>
              obtain ⟨rfl,hj2X⟩:=hcut;clear hj2W c0
              cases hb:(decide (i2≤j2) && (fun x => !lt x dk[a]!) dk[j2]!) with
              | true =>
               have HB:=Lib.hid hb;have hj2J:i2≤j2:=by (rw [zY0a] at hb;exact of_decide_eq_true hb.1)
               clear hb;go_wp2;go_roundg j2
               case measure=>omega
               case rel=>exact ⟨j2 - 1,by go_num,by omega,by omega,hj2X,by show Hid _;rw [← Hj2.out,zp0 (fun x => !lt x dk[a]!) dk i2 j2 (by omega) HB.out];exact rfl⟩
              | false =>
               have Ej2:Hid (scanDown (fun x => !lt x dk[a]!) dk i2 (j)=j2):=by (show _=_;rw [← Hj2.out,zkl (fun x => !lt x dk[a]!) dk i2 j2 hb])
               clear hb Hj2
               by_cases hz:i2≤j2
               ·have hzz:¬ ((j2:Nat):Int)<(i2:Int):=by omega
                have c1:=hj2X.c1;obtain ⟨w2,hs,hV⟩:=hj2X.swap S hw (i:=i2) (j:=j2) (x:=i2) (y:=j2) (by omega) (by omega) rfl rfl;have HS:=Lib.hid hs;clear hs;go_wp2_with (rw [HS.out,Oper.upon_value]);go_roundg j
                case measure=>omega
                case rel=>exact ⟨i2+1,j2 - 1,_,by go_num,by go_num,by omega,by omega,by omega,by omega,hV,by show Hid _;rw [← HO.out,z095 Ei2.out Ej2.out hz (by omega) (by omega) (by omega)];exact rfl⟩
               ·have hzz:((j2:Nat):Int)<(i2:Int):=by omega
                have c1:=hj2X.c1;obtain ⟨w2,hs,hV⟩:=hj2X.swap S hw (i:=j2) (j:=a) (x:=j2) (y:=a) (by omega) (by omega) rfl rfl;have HS:=Lib.hid hs;clear hs;go_wp2_with (rw [HS.out,Oper.upon_value]);go_ret2;have hv:partLoop lt a (i0+1) (j0 - 1) (swp (swp d a pivot) i0 j0)=(j2,dk):=by rw [← HO.out];exact z033 Ei2.out Ej2.out hz
                rw [HV.out hz0.out,hv];exact ⟨rfl,hV.st,hV.fwd⟩
       ·have hzz:((j0:Nat):Int)<(i0:Int):=by omega
        have c1:=hj0X.c1;obtain ⟨w2,hs,hV⟩:=hj0X.swap S hw (i:=j0) (j:=a) (x:=j0) (y:=a) (by omega) (by omega) rfl rfl;have HS:=Lib.hid hs;clear hs;go_wp2_with (rw [HS.out,Oper.upon_value]);go_ret2;rw [z0jt lt d a b pivot Ei0.out Ej0.out hz];exact ⟨rfl,hV.st,hV.fwd⟩
end
end
section
open Go.RowKit Go.Sort
set_option maxRecDepth 100000
set_option maxHeartbeats 4000000
section
variable {α:Type} [Inhabited α] {lt:α→α→Bool} {n B lf sf:Nat} {lb sb:Array Value} {St:Array α→World→Prop}
theorem z0ju (d:Array α) (b i:Nat) (h:(decide (i<b) && !lt d[i]! d[i - 1]!)=true):scanSorted lt d b i=scanSorted lt d b (i+1):=by rw [scanSorted,if_pos h]
theorem z0gl (d:Array α) (b i:Nat) (h:(decide (i<b) && !lt d[i]! d[i - 1]!)=false):scanSorted lt d b i=i:=by rw [scanSorted,if_neg (by rw [h];exact zY3h)]
theorem z0gm (d:Array α) (j:Nat) (h:j≠0) (hl:lt d[j]! d[j - 1]! = true):shiftDown lt j d=shiftDown lt (j - 1) (swp d j (j - 1)):=by
 obtain ⟨k,rfl⟩:∃ k,j=k+1:=⟨j - 1,by omega⟩
 simp only [zY2s] at hl ⊢;rw [shiftDown,hl];rfl
theorem zmy (d:Array α) (j:Nat) (h:j=0∨lt d[j]! d[j - 1]! = false):shiftDown lt j d=d:=by
 cases j with
 | zero=>rfl
 | succ k =>
  rcases h with h|h
  ·omega
  ·simp only [zY2s] at h
   rw [shiftDown,h];rfl
theorem z0gn (d:Array α) (b j:Nat) (h:j<b) (hl:lt d[j]! d[j - 1]! = true):shiftUp lt b j d=shiftUp lt b (j+1) (swp d j (j - 1)):=by
 rw [shiftUp,if_pos h,hl];rfl
theorem zmz (d:Array α) (b j:Nat) (h:¬ j<b∨lt d[j]! d[j - 1]! = false):shiftUp lt b j d=d:=by
 rw [shiftUp]
 by_cases hj:j<b
 ·rcases h with h|h
  ·exact absurd hj h
  ·rw [if_pos hj,h];rfl
 ·rw [if_neg hj]
theorem z0mw {a b s i:Nat} {d:Array α} (h0:s≠0) (h:scanSorted lt d b i=b):partialIns lt a b s i d=(d,true):=by
 obtain ⟨t,rfl⟩:∃ t,s=t+1:=⟨s - 1,by omega⟩
 rw [partialIns];simp only [h,if_true]
theorem z0jv {a b s i i2:Nat} {d:Array α} (h0:s≠0) (h:scanSorted lt d b i=i2) (h1:i2≠b) (h2:b - a<50):partialIns lt a b s i d=(d,false):=by
 obtain ⟨t,rfl⟩:∃ t,s=t+1:=⟨s - 1,by omega⟩
 rw [partialIns];simp only [h];rw [if_neg h1,if_pos h2]
theorem z0kq {a b s i i2:Nat} {d:Array α} (h0:s≠0) (h:scanSorted lt d b i=i2) (h1:i2≠b) (h2:¬ b - a<50) {d3 d4:Array α} (h3:(if i2 - a ≥ 2 then shiftDown lt (i2 - 1) (swp d i2 (i2 - 1)) else swp d i2 (i2 - 1))=d3) (h4:(if b - i2 ≥ 2 then shiftUp lt b (i2+1) d3 else d3)=d4):partialIns lt a b s i d=partialIns lt a b (s - 1) i2 d4:=by
 obtain ⟨t,rfl⟩:∃ t,s=t+1:=⟨s - 1,by omega⟩
 rw [partialIns];simp only [h];rw [if_neg h1,if_neg h2,h3,h4];rfl
theorem z0go (S:Srt lt n B lf lb sf sb St) {w:World} {d:Array α} (h:St d w) {a b:Nat} (hab:a<b) (hb:b≤n) :
  Calls Tryz.prog 188 #[.agg #[.func (.func lf) #[] lb,.func (.func sf) #[] sb],.int .i64 a,.int .i64 b] w fun e w'=>e = .returned (.bool (partialInsertionSort lt d a b).2)∧St (partialInsertionSort lt d a b).1 w'∧Fwd B w w':=by
 have hw:=S.base h;have hO:=On.start S h;have hbig:=S.big;have eg:=S.enters;unfold partialInsertionSort;go_enter Tryz.func188,Tryz.ntmps188;go_wp2;go_loopg [7,8] 6 (fun kx vi vs wr=>∃ (s i:Nat) (dk:Array α),vi = .int .i64 i∧vs = .int .i64 (5 - (s:Int))∧s≤5∧s<kx∧a+1≤i∧i≤b∧On B lf lb sf sb St w dk wr∧Hid (partialIns lt a b s i dk=partialIns lt a b 5 (a+1) d))
 case atStart=>exact ⟨5,a+1,d,by go_num,by go_num,zY0m _,by omega,zY0m _,by omega,hO,rfl⟩
 case round =>
  obtain ⟨s,i,dk,rfl,rfl,hs5,hsk,hai,hib,hW,HO⟩:=hrel;clear hO
  by_cases h0:s=0
  ·have hz:¬ (5:Int) - (s:Int)<5:=by omega
   go_wp2;go_ret;subst h0;rw [← HO.out];exact ⟨by rfl,hW.st,hW.fwd⟩
  have hz:(5:Int) - (s:Int)<5:=by omega
  go_wp2;go_loopg [7] (b+1) (fun ky v wr=>∃ i2:Nat,v = .int .i64 i2∧i≤i2∧i2≤b∧b - i2<ky∧On B lf lb sf sb St w dk wr∧Hid (scanSorted lt dk b i2=scanSorted lt dk b i))
  case atStart=>exact ⟨i,rfl,zY0m _,hib,by omega,hW,rfl⟩
  case round =>
   obtain ⟨i2,rfl,hi0,hi1,hky,hW2,HI⟩:=hrel;clear hW;have c0:=hW2.c0;go_upto_region 5 with fail
   go_cut [28] (fun c wx=>c = .bool (decide (i2<b) && !lt dk[i2]! dk[i2 - 1]!)∧On B lf lb sf sb St w dk wx)
   case first =>
    by_cases h1:i2<b
    ·have h1z:(i2:Int)<(b:Int):=by omega
     cases hl:lt dk[i2]! dk[i2 - 1]! with
     | true =>
      have hc:=hW2.less S hw (i:=i2) (j:=i2 - 1) (x:=i2) (y:=(i2:Int) - 1) (by omega) (by omega) rfl (by omega) hl;have HL:=Lib.hid hl;clear hl;go_wp2_with (refine hc.mono ?_;rintro e w1 ⟨rfl,hU⟩;simp only [];clear hc);go_meet;exact ⟨by rw [decide_eq_true h1,HL.out];rfl,hU⟩
     | false =>
      have hc:=hW2.less S hw (i:=i2) (j:=i2 - 1) (x:=i2) (y:=(i2:Int) - 1) (by omega) (by omega) rfl (by omega) hl;have HL:=Lib.hid hl;clear hl;go_wp2_with (refine hc.mono ?_;rintro e w1 ⟨rfl,hU⟩;simp only [];clear hc);go_meet;exact ⟨by rw [decide_eq_true h1,HL.out];rfl,hU⟩
    ·have h1z:¬ (i2:Int)<(b:Int):=by omega
     go_wp2_with fail;go_meet;exact ⟨by rw [decide_eq_false h1];rfl,hW2⟩
   case rest =>
    obtain ⟨rfl,hX⟩:=hcut;clear hW2 c0
    cases hb2:(decide (i2<b) && !lt dk[i2]! dk[i2 - 1]!) with
    | true =>
     have HB:=Lib.hid hb2;have h1:i2<b:=by (rw [zY0a] at hb2;exact of_decide_eq_true hb2.1)
     clear hb2;go_wp2;go_roundg (b - i2)
     case measure=>omega
     case rel=>exact ⟨i2+1,by go_num,by omega,by omega,by omega,hX,by show Hid _;rw [← HI.out,z0ju dk b i2 HB.out];exact rfl⟩
    | false =>
     have EI:Hid (scanSorted lt dk b i=i2):=by (show _=_;rw [← HI.out,z0gl dk b i2 hb2])
     clear hb2 HI
     by_cases hib2:i2=b
     ·have hq:((i2:Int) == (b:Int))=true:=by rw [hib2];simp
      have hq':(i2:Int)=(b:Int):=by omega
      go_wp2;go_ret;have hv:=z0mw (lt:=lt) (a:=a) h0 (EI.out.trans hib2);rw [← HO.out,hv];exact ⟨rfl,hX.st,hX.fwd⟩
     have hq:((i2:Int) == (b:Int))=false:=by simp;omega
     have hq':¬ (i2:Int)=(b:Int):=by omega
     by_cases h50:b - a<50
     ·have h50z:(b:Int) - (a:Int)<50:=by omega
      go_wp2;go_ret;have hv:=z0jv (lt:=lt) (a:=a) h0 EI.out hib2 h50;rw [← HO.out,hv];exact ⟨rfl,hX.st,hX.fwd⟩
     have h50z:¬ (b:Int) - (a:Int)<50:=by omega
     have c1:=hX.c1;obtain ⟨w2,hs,hV⟩:=hX.swap S hw (i:=i2) (j:=i2 - 1) (x:=i2) (y:=(i2:Int) - 1) (by omega) (by omega) rfl (by omega);have HS:=Lib.hid hs;have HIB:=Lib.hid hib2;have H50:=Lib.hid h50;clear hs hib2;have hlt:i2<b:=by have:=HIB.out;omega
     go_upto_if 47 with (rw [HS.out,Oper.upon_value])
     clear hX c1 HS;go_cut [] (fun wx=>∃ dj,On B lf lb sf sb St w dj wx∧Hid ((if i2 - a ≥ 2 then shiftDown lt (i2 - 1) (swp dk i2 (i2 - 1)) else swp dk i2 (i2 - 1))=dj))
     case first =>
      by_cases h2:i2 - a ≥ 2
      ·have h2z:(2:Int)≤(i2:Int) - (a:Int):=by omega
       go_wp2;go_loopg [9] i2 (fun kz v wr=>∃ (j:Nat) (dj:Array α),v = .int .i64 j∧j≤i2 - 1∧j<kz∧On B lf lb sf sb St w dj wr∧Hid (shiftDown lt j dj=shiftDown lt (i2 - 1) (swp dk i2 (i2 - 1))))
       case atStart=>exact ⟨i2 - 1,_,by go_num,zY0m _,by omega,hV,rfl⟩
       case round =>
        obtain ⟨j,dj,rfl,hj1,hjk,hY,HJ⟩:=hrel;clear hV;have c0:=hY.c0
        by_cases hj0:j=0
        ·have hjz:¬ (1:Int)≤(j:Int):=by omega
         go_wp2;go_meet;exact ⟨dj,hY,by show _=_;rw [if_pos h2,← HJ.out,zmy dj j (Or.inl hj0)]⟩
        have hjz:(1:Int)≤(j:Int):=by omega
        cases hl:lt dj[j]! dj[j - 1]! with
        | true =>
         have hc:=hY.less S hw (i:=j) (j:=j - 1) (x:=j) (y:=(j:Int) - 1) (by omega) (by omega) rfl (by omega) hl;have HL:=Lib.hid hl;clear hl;go_wp2_with (first|(refine hc.mono ?_;rintro e w1 ⟨rfl,hU⟩;simp only [];clear hc c0;have c1:=hU.c1;obtain ⟨w2,hs,hV⟩:=hU.swap S hw (i:=j) (j:=j - 1) (x:=j) (y:=(j:Int) - 1) (by omega) (by omega) rfl (by omega);have HS:=Lib.hid hs;clear hs)|(rw [HS.out,Oper.upon_value]));go_roundg j
         case measure=>omega
         case rel=>exact ⟨j - 1,_,by go_num,by omega,by omega,hV,by show Hid _;rw [← HJ.out,z0gm dj j hj0 HL.out];exact rfl⟩
        | false =>
         have hc:=hY.less S hw (i:=j) (j:=j - 1) (x:=j) (y:=(j:Int) - 1) (by omega) (by omega) rfl (by omega) hl;have HL:=Lib.hid hl;clear hl;go_wp2_with (refine hc.mono ?_;rintro e w1 ⟨rfl,hU⟩;simp only [];clear hc);go_meet;exact ⟨dj,hU,by show _=_;rw [if_pos h2,← HJ.out,zmy dj j (Or.inr HL.out)]⟩
      ·have h2z:¬ (2:Int)≤(i2:Int) - (a:Int):=by omega
       go_wp2_with fail;go_meet;exact ⟨_,hV,by show _=_;rw [if_neg h2]⟩
     case rest =>
      obtain ⟨d3,hY,H3⟩:=hcut;clear hV
      by_cases h4:b - i2 ≥ 2
      ·have h4z:(2:Int)≤(b:Int) - (i2:Int):=by omega
       go_wp2;go_loopg [10] b (fun kz v wr=>∃ (j:Nat) (dj:Array α),v = .int .i64 j∧i2+1≤j∧j≤b∧b - j<kz∧On B lf lb sf sb St w dj wr∧Hid (shiftUp lt b j dj=shiftUp lt b (i2+1) d3))
       case atStart=>exact ⟨i2+1,_,by go_num,zY0m _,by omega,by omega,hY,rfl⟩
       case round =>
        obtain ⟨j,dj,rfl,hj0,hj1,hjk,hZ,HJ⟩:=hrel;clear hY;have c0:=hZ.c0;have HF:Hid (∀ dy:Array α,shiftUp lt b (i2+1) d3=dy→partialIns lt a b (s - 1) i2 dy=partialIns lt a b 5 (a+1) d):=fun dy h=>by
         rw [← HO.out];exact (z0kq h0 EI.out HIB.out H50.out H3.out (by rw [if_pos h4];exact h)).symm
        by_cases hjb:j<b
        ·have hjz:(j:Int)<(b:Int):=by omega
         cases hl:lt dj[j]! dj[j - 1]! with
         | true =>
          have hc:=hZ.less S hw (i:=j) (j:=j - 1) (x:=j) (y:=(j:Int) - 1) (by omega) (by omega) rfl (by omega) hl;have HL:=Lib.hid hl;clear hl;go_wp2_with (first|(refine hc.mono ?_;rintro e w1 ⟨rfl,hU⟩;simp only [];clear hc c0;have c1:=hU.c1;obtain ⟨w2,hs,hV⟩:=hU.swap S hw (i:=j) (j:=j - 1) (x:=j) (y:=(j:Int) - 1) (by omega) (by omega) rfl (by omega);have HS:=Lib.hid hs;clear hs)|(rw [HS.out,Oper.upon_value]));go_roundg (b - j)
          case measure=>omega
          case rel=>exact ⟨j+1,_,by go_num,by omega,by omega,by omega,hV,by show Hid _;rw [← HJ.out,z0gn dj b j hjb HL.out];exact rfl⟩
         | false =>
          have hc:=hZ.less S hw (i:=j) (j:=j - 1) (x:=j) (y:=(j:Int) - 1) (by omega) (by omega) rfl (by omega) hl;have HL:=Lib.hid hl;clear hl;go_wp2_with (refine hc.mono ?_;rintro e w1 ⟨rfl,hU⟩;simp only [];clear hc);go_roundg s
          case measure=>omega
          case rel=>exact ⟨s - 1,i2,dj,rfl,by go_num,by omega,by omega,by omega,by omega,hU,HF.out _ (by rw [← HJ.out,zmz dj b j (Or.inr HL.out)])⟩
        ·have hjz:¬ (j:Int)<(b:Int):=by omega
         go_wp2;go_roundg s
         case measure=>omega
         case rel=>exact ⟨s - 1,i2,dj,rfl,by go_num,by omega,by omega,by omega,by omega,hZ,HF.out _ (by rw [← HJ.out,zmz dj b j (Or.inl hjb)])⟩
      ·have h4z:¬ (2:Int)≤(b:Int) - (i2:Int):=by omega
       go_wp2;go_roundg s
       case measure=>omega
       case rel=>exact ⟨s - 1,i2,d3,rfl,by go_num,by omega,by omega,by omega,by omega,hY,by show Hid _;rw [← HO.out];exact (z0kq h0 EI.out HIB.out H50.out H3.out (by rw [if_neg h4])).symm⟩
end
end
section
open Go.RowKit Go.Sort
set_option maxRecDepth 100000
set_option maxHeartbeats 8000000
section
variable {α:Type} [Inhabited α] {lt:α→α→Bool} {n B lf sf:Nat} {lb sb:Array Value} {St:Array α→World→Prop}
theorem z7q {a b:Nat} {d d1 d2:Array α} (h:PermIn a b d d1) (k:PermIn a b d1 d2):PermIn a b d d2 :=
 ⟨k.1.trans h.1,fun i hi=>(k.2.1 i hi).trans (h.2.1 i hi),k.2.2.trans h.2.2⟩
theorem z0gp (a b:Nat) (d:Array α):PermIn a b d d:=⟨rfl,fun _ _=>rfl,List.Perm.refl _⟩
theorem z0jw {h:Go.Sort.Hint} (e:¬ h = .decreasing):¬ z7p h=2:=by cases h <;> simp_all [z7p]
theorem z0q9 (S:Srt lt n B lf lb sf sb St) (hO:SWO lt)
  (hbrk:∀ (w:World) (d:Array α) (a b:Nat),St d w→a≤b→b≤n→Calls Tryz.prog 185 #[.agg #[.func (.func lf) #[] lb,.func (.func sf) #[] sb],.int .i64 a,.int .i64 b] w fun e w'=>e = .returned (.tuple #[])∧St (breakPatterns d a b) w'∧Fwd B w w') :
  ∀ (N:Nat) (w:World) (d:Array α) (a b limit:Nat),b - a<N→St d w→a≤b→b≤n→limit<4611686018427387904→Below lt a b d →
  Calls Tryz.prog 160 #[.agg #[.func (.func lf) #[] lb,.func (.func sf) #[] sb],.int .i64 a,.int .i64 b,.int .i64 limit] w fun e w'=>e = .returned (.tuple #[])∧(∃ d',PermIn a b d d'∧SortedIn lt a b d'∧St d' w')∧Fwd B w w':=by
 intro N
 induction N with
 | zero=>intro w d a b limit h;exact absurd h (Nat.not_lt_zero _)
 | succ N ih =>
  intro w d a b limit hN h hab hb hlim hBel;have hw:=S.base h;have hOn:=On.start S h;have hbig:=S.big;have eg:=S.enters;have IH:=Lib.hid ih;have HB:=Lib.hid hbrk;clear ih hbrk;go_enter Tryz.func160,Tryz.ntmps160;go_wp2;go_loopg [1,2,3,8,9] (b - a+1) (fun kx s1 s2 s3 s8 s9 wr=>∃ (a1 b1 lim:Nat) (wb wp:Bool) (dk:Array α),s1 = .int .i64 a1∧s2 = .int .i64 b1∧s3 = .int .i64 lim∧s8 = .bool wb∧s9 = .bool wp ∧
   a1≤b1∧b1≤n∧b1 - a1<kx∧b1 - a1≤b - a∧lim≤limit∧Below lt a1 b1 dk∧On B lf lb sf sb St w dk wr∧Hid (∀ R,PermIn a1 b1 dk R→SortedIn lt a1 b1 R→PermIn a b d R∧SortedIn lt a b R))
  case atStart=>exact ⟨a,b,limit,true,true,d,rfl,rfl,rfl,rfl,rfl,hab,hb,by omega,zY0m _,zY0m _,hBel,hOn,fun R h1 h2=>⟨h1,h2⟩⟩
  case round =>
   obtain ⟨a1,b1,lim,wb,wp,dk,rfl,rfl,rfl,rfl,rfl,hab1,hb1,hkx,hle,hl1,hBk,hW,HR⟩:=hrel;clear hOn;have hsz:=S.size hW.st;have c0:=hW.c0;have c1:=hW.c1;have HBk:=Lib.hid hBk;clear hBk
   by_cases h12:b1 - a1≤12
   ·have h12z:(b1:Int) - (a1:Int)≤12:=by omega
    have hc:=z0ge S hW.st hab1 hb1;go_wp2_with (go_at_call 183;refine hc.mono ?_;rintro e w1 ⟨rfl,hU⟩;simp only [];clear hc)
    ((try simp only [Exit.inBlock,Exit.then]);refine bodyPost_ret (results_none rfl _ _ _) rfl ?_)
    have hp:=insertionSort_holds hO dk a1 b1 hab1 (by omega);have hr:=HR.out _ hp.1 hp.2;exact ⟨rfl,⟨_,hr.1,hr.2,hU.1⟩,(hW.call hw hU).fwd⟩
   have h12z:¬ (b1:Int) - (a1:Int)≤12:=by omega
   by_cases hl0:lim=0
   ·have hl0z:(lim:Int)=0:=by omega
    have hl0b:((lim:Int) == 0)=true:=by rw [hl0z];rfl
    have hc:=z0pc S hW.st (a:=a1) (b:=b1) (by omega) hb1;go_wp2_with (go_at_call 184;refine hc.mono ?_;rintro e w1 ⟨rfl,hU⟩;simp only [];clear hc)
    ((try simp only [Exit.inBlock,Exit.then]);refine bodyPost_ret (results_none rfl _ _ _) rfl ?_)
    have hp:=heapSort_holds hO dk a1 b1 hab1 (by omega);have hr:=HR.out _ hp.1 hp.2;exact ⟨rfl,⟨_,hr.1,hr.2,hU.1⟩,(hW.call hw hU).fwd⟩
   have hl0z:¬ (lim:Int)=0:=by omega
   have hl0b:((lim:Int) == 0)=false:=by simp;omega
   go_upto_if 35 with fail
   go_cut [3] (fun s3 wx=>∃ (lim1:Nat) (d1:Array α),s3 = .int .i64 lim1∧lim1≤lim∧PermIn a1 b1 dk d1∧On B lf lb sf sb St w d1 wx)
   case first =>
    cases wb with
    | false =>
     have hc:=HB.out _ _ _ _ hW.st hab1 hb1;go_wp2_with (go_at_call 185;refine hc.mono ?_;rintro e w1 ⟨rfl,hU⟩;simp only [];clear hc);go_meet;exact ⟨lim - 1,_,by go_num,by omega,breakPatterns_holds dk a1 b1 hab1 (by omega),hW.call hw hU⟩
    | true =>
     go_wp2_with fail;go_meet;exact ⟨lim,dk,rfl,zY0m _,z0gp _ _ _,hW⟩
   case rest =>
    obtain ⟨lim1,d1,rfl,hl2,hp1,hW1⟩:=hcut;clear hW c0 c1;have c0:=hW1.c0;have c1:=hW1.c1;have hs1:=S.size hW1.st;have hc:=z0jr S hW1.st (a:=a1) (b:=b1) (by omega) hb1;have hcr:=choosePivot_holds lt d1 a1 b1 (by omega);generalize choosePivot lt d1 a1 b1=C at hc hcr;obtain ⟨p,hh⟩:=C;simp only at hc hcr;have HP1:=Lib.hid hp1;clear hp1;go_upto_if 50 with fail
    refine hc.mono ?_;rintro e w2 ⟨rfl,hU⟩;simp only [];clear hc;go_upto_if 50 with fail
    have hW2:=hW1.call hw hU;clear hW1 c0 c1 hU;have c0:=hW2.c0;have c1:=hW2.c1;go_cut [11,12] (fun s11 s12 wx=>∃ (q:Nat) (z:Int) (d2:Array α),s11 = .int .i64 q∧s12 = .int .i64 z∧a1≤q∧q<b1∧PermIn a1 b1 dk d2∧On B lf lb sf sb St w d2 wx)
    case first =>
     by_cases hd:hh = .decreasing
     ·subst hd
      have hc:=z0cu S hW2.st (a:=a1) (b:=b1) (by omega) hb1;go_wp2_with (go_at_call 187;refine hc.mono ?_;rintro e w3 ⟨rfl,hU⟩;simp only [];clear hc);go_meet;exact ⟨(b1 - 1) - (p - a1),1,_,by congr 1;omega,rfl,by omega,by omega,z7q HP1.out (reverseRange_holds d1 a1 b1 hab1 (by omega)),hW2.call hw hU⟩
     ·have hz:¬ z7p hh=2:=z0jw hd
      have hzb:(z7p hh == 2)=false:=beq_eq_false_iff_ne.2 hz;go_wp2_with fail;go_meet;exact ⟨p,_,d1,rfl,rfl,hcr.1,hcr.2,HP1.out,hW2⟩
    case rest =>
     obtain ⟨q,z,d2,rfl,rfl,hq1,hq2,hp2,hW3⟩:=hcut;clear hW2 c0 c1;have c0:=hW3.c0;have c1:=hW3.c1;have HP2:=Lib.hid hp2;clear hp2 hcr HP1 hs1;go_upto_region 16 with fail
     go_cut [68] (fun s68 wx=>(∃ t:Bool,s68 = .bool t)∧wx=wc)
     case first =>
      cases wb <;> cases wp <;> (go_wp2_with fail;go_meet;exact ⟨⟨_,rfl⟩,rfl⟩)
     case rest =>
      obtain ⟨⟨t,rfl⟩,rfl⟩:=hcut;have hs2:=S.size hW3.st;go_upto_if 68 with fail
      go_cut [] (fun wx=>∃ d3:Array α,PermIn a1 b1 dk d3∧On B lf lb sf sb St w d3 wx)
      case first =>
       cases t with
       | false =>
        go_wp2_with fail;go_meet;exact ⟨d2,HP2.out,hW3⟩
       | true =>
        have hc:=z0go S hW3.st (a:=a1) (b:=b1) (by omega) hb1;have hpi:=partialInsertionSort_holds hO d2 a1 b1 (by omega) (by omega) (HBk.out.perm (by omega) HP2.out);generalize partialInsertionSort lt d2 a1 b1=Q at hc hpi;obtain ⟨d3,r⟩:=Q;simp only at hc hpi
        cases r with
        | true =>
         have HPI:=Lib.hid hpi;clear hpi;go_wp2_with (go_at_call 188;refine hc.mono ?_;rintro e w4 ⟨rfl,hU⟩;simp only [];clear hc)
         ((try simp only [Exit.inBlock,Exit.then]);refine bodyPost_ret (results_none rfl _ _ _) rfl ?_)
         have hr:=HR.out _ (z7q HP2.out HPI.out.1) (by exact HPI.out.2 trivial);exact ⟨rfl,⟨_,hr.1,hr.2,hU.1⟩,(hW3.call hw hU).fwd⟩
        | false =>
         have HPI:=Lib.hid hpi;clear hpi;go_wp2_with (go_at_call 188;refine hc.mono ?_;rintro e w4 ⟨rfl,hU⟩;simp only [];clear hc);go_meet;exact ⟨d3,z7q HP2.out HPI.out.1,hW3.call hw hU⟩
      case rest =>
       obtain ⟨d3,hp3,hW5⟩:=hcut;clear hW3 c0 c1 HP2 hs2;have c0:=hW5.c0;have HP3:=Lib.hid hp3;clear hp3;have hs3:=S.size hW5.st;go_upto_region 18 with fail
       go_cut [83] (fun c wx=>c = .bool (decide (0<a1) && !lt d3[a1 - 1]! d3[q]!)∧On B lf lb sf sb St w d3 wx)
       case first =>
        by_cases ha:0<a1
        ·have haz:(0:Int)<(a1:Int):=by omega
         cases hl:lt d3[a1 - 1]! d3[q]! with
         | true =>
          have hc:=hW5.less S hw (i:=a1 - 1) (j:=q) (x:=(a1:Int) - 1) (y:=q) (by omega) (by omega) (by omega) rfl hl;have HL:=Lib.hid hl;clear hl;go_wp2_with (refine hc.mono ?_;rintro e w6 ⟨rfl,hU⟩;simp only [];clear hc);go_meet;exact ⟨by rw [decide_eq_true ha,HL.out];rfl,hU⟩
         | false =>
          have hc:=hW5.less S hw (i:=a1 - 1) (j:=q) (x:=(a1:Int) - 1) (y:=q) (by omega) (by omega) (by omega) rfl hl;have HL:=Lib.hid hl;clear hl;go_wp2_with (refine hc.mono ?_;rintro e w6 ⟨rfl,hU⟩;simp only [];clear hc);go_meet;exact ⟨by rw [decide_eq_true ha,HL.out];rfl,hU⟩
        ·have haz:¬ (0:Int)<(a1:Int):=by omega
         go_wp2_with fail;go_meet;exact ⟨by rw [decide_eq_false ha];rfl,hW5⟩
       case rest =>
        obtain ⟨rfl,hW6⟩:=hcut;clear hW5 c0;have c0:=hW6.c0;have c1:=hW6.c1;have HB3:Hid (Below lt a1 b1 d3):=HBk.out.perm (by omega) HP3.out
        cases ht:(decide (0<a1) && !lt d3[a1 - 1]! d3[q]!) with
        | true =>
         rw [zY0a] at ht;have ha:0<a1:=of_decide_eq_true ht.1;have hnl:lt d3[a1 - 1]! d3[q]! = false:=by simpa using ht.2
         have hc:=z0js S hW6.st (a:=a1) (b:=b1) (pivot:=q) (by omega) hb1 (by omega);have hre:=fun mid d4=>@round_eq α _ lt hO (partitionEqual_holds lt) d3 d4 a1 b1 q mid ha hq1 hq2 (by omega) HB3.out hnl
         generalize partitionEqual lt d3 a1 b1 q=Q at hc hre;obtain ⟨mid,d4⟩:=Q;obtain ⟨r1,r2,r3,r4,r5⟩:=hre mid d4 rfl;simp only at hc;have R4:=Lib.hid r4;have R5:=Lib.hid r5;clear ht hnl hre r4 r5;go_wp2_with (go_at_call 189;refine hc.mono ?_;rintro e w7 ⟨rfl,hU⟩;simp only [];clear hc);go_roundg (b1 - a1)
         case measure=>omega
         case rel=>exact ⟨mid,b1,lim1,wb,wp,d4,rfl,rfl,rfl,rfl,rfl,r2,hb1,by omega,by omega,by omega,R4.out,hW6.call hw hU,fun R h1 h2=>HR.out R (z7q HP3.out (R5.out R h1 h2).1) (R5.out R h1 h2).2⟩
        | false =>
         clear ht;have hc:=z0pd S hW6.st (a:=a1) (b:=b1) (pivot:=q) (by omega) hb1 (by omega);have hre:=fun mid ap d4=>@round_part α _ lt hO (partition_holds lt) d3 d4 a1 b1 q mid ap hq1 hq2 (by omega) HB3.out
         generalize partition lt d3 a1 b1 q=Q at hc hre;obtain ⟨mid,ap,d4⟩:=Q;obtain ⟨r1,r2,r3,r4,r5,r6,r7⟩:=hre mid ap d4 rfl;simp only at hc;have R4:=Lib.hid r4;have R5:=Lib.hid r5;have R6:=Lib.hid r6;have R7:=Lib.hid r7;clear hre r4 r5 r6 r7;go_upto_if 109 with (go_at_call 190;refine hc.mono ?_;rintro e w7 ⟨rfl,hU⟩;simp only [];clear hc)
         have hW7:=hW6.call hw hU;clear hW6 hU c0 c1;have c0:=hW7.c0;have c1:=hW7.c1
         by_cases h4:mid - a1<b1 - mid
         ·have h4z:(mid:Int) - (a1:Int)<(b1:Int) - (mid:Int):=by omega
          have hc:=IH.out _ _ a1 mid lim1 (by omega) hW7.st (by omega) (by omega) (by omega) R4.out;go_wp2_with (go_at_call 160;refine hc.mono ?_;rintro e w8 ⟨rfl,⟨d5,hp5,hs5,hU5⟩,hF5⟩;simp only [];have HP5:=Lib.hid hp5;have HS5:=Lib.hid hs5;clear hc hp5 hs5);go_roundg (b1 - a1)
          case measure=>omega
          case rel=>exact ⟨mid+1,b1,lim1,_,ap,d5,by go_num,rfl,rfl,rfl,rfl,by omega,hb1,by omega,by omega,by omega,(R6.out _ HP5.out HS5.out).1,hW7.call hw ⟨hU5,hF5⟩,fun R h1 h2=>HR.out R (z7q HP3.out ((R6.out _ HP5.out HS5.out).2 R h1 h2).1) ((R6.out _ HP5.out HS5.out).2 R h1 h2).2⟩
         ·have h4z:¬ (mid:Int) - (a1:Int)<(b1:Int) - (mid:Int):=by omega
          have hc:=IH.out _ _ (mid+1) b1 lim1 (by omega) hW7.st (by omega) hb1 (by omega) R5.out;rw [show ((mid+1:Nat):Int)=(mid:Int)+1 by omega] at hc;go_wp2_with (go_at_call 160;refine hc.mono ?_;rintro e w8 ⟨rfl,⟨d5,hp5,hs5,hU5⟩,hF5⟩;simp only [];have HP5:=Lib.hid hp5;have HS5:=Lib.hid hs5;clear hc hp5 hs5);go_roundg (b1 - a1)
          case measure=>omega
          case rel=>exact ⟨a1,mid,lim1,_,ap,d5,rfl,rfl,rfl,rfl,rfl,by omega,by omega,by omega,by omega,by omega,(R7.out _ HP5.out HS5.out).1,hW7.call hw ⟨hU5,hF5⟩,fun R h1 h2=>HR.out R (z7q HP3.out ((R7.out _ HP5.out HS5.out).2 R h1 h2).1) ((R7.out _ HP5.out HS5.out).2 R h1 h2).2⟩
end
end
section
open Go.RowKit Go.Sort Go.Shelf Go.Lib
set_option maxRecDepth 100000
set_option maxHeartbeats 4000000
section
variable {α:Type} [Inhabited α]
theorem z0ah {V W:World} {b blk:Nat} (f:Array Value→Array Value) (h:V.heap[b]? = W.heap[b]?):(mapBlock V blk f).heap[b]? = (mapBlock W blk f).heap[b]?:=by
 simp only [mapBlock,zY2g,h]
theorem zhx {b blk:Nat}:∀ (vs:List Value) (o:Nat) {V W:World},V.heap[b]? = W.heap[b]? → (V.setCells blk o vs).heap[b]? = (W.setCells blk o vs).heap[b]?
 | [],_,_,_,h=>h
 | v::r,o,V,W,h=>by
  rw [World.setCells,World.setCells];refine zhx r (o+1) ?_;rw [setCell_eq,setCell_eq];exact z0ah _ h
theorem zau {blk:Nat}:∀ (vs:List Value) (o:Nat) (W:World),(W.setCells blk o vs).os=W.os∧(W.setCells blk o vs).tape=W.tape∧(W.setCells blk o vs).output=W.output∧(W.setCells blk o vs).heap.size=W.heap.size∧∀ b,b≠blk→(W.setCells blk o vs).heap[b]? = W.heap[b]?
 | [],_,_=>⟨rfl,rfl,rfl,rfl,fun _ _=>rfl⟩
 | v::r,o,W=>by
  rw [World.setCells];obtain ⟨h1,h2,h3,h4,h5⟩:=zau (blk:=blk) r (o+1) (W.setCell ⟨blk,o,none⟩ v);exact ⟨h1,h2,h3,by rw [h4];simp [World.setCell],fun b hb=>(h5 b hb).trans (heap_setCell_other W _ b _ hb)⟩
variable {p:α→Prop} {enc:α→List Value} {k n blk off:Nat} {w0:World} {lt:α→α→Bool}
theorem z0jx {p:α→Prop} {a b:Nat} {d d':Array α} (h:PermIn a b d d') (hp:∀ i,i<d.size→p d[i]!):∀ i,i<d.size→p d'[i]!:=by
 intro i hi
 by_cases ho:i<a∨b≤i
 ·rw [h.2.1 i ho];exact hp i hi
 ·have hi':i<d'.size:=by rw [h.1];exact hi
  have hm:d'[i]! ∈ (d'.extract a b).toList:=by
   rw [getElem!_pos d' i hi',Array.mem_toList_iff,Array.mem_extract_iff_getElem];exact ⟨i - a,by omega,by congr 1;omega⟩
  have hm2:=h.2.2.mem_iff.1 hm;rw [Array.mem_toList_iff,Array.mem_extract_iff_getElem] at hm2;obtain ⟨k,hk,e⟩:=hm2;rw [← e];have:=hp (a+k) (by omega)
  rwa [getElem!_pos d (a+k) (by omega)] at this
def StK (p:α→Prop) (enc:α→List Value) (k:Nat) (w0:World) (blk off n:Nat) (dk:Array α) (W:World):Prop:=dk.size=n∧Below w0.heap.size (putRowK enc k w0 blk off dk) W∧∀ i,i<n→p dk[i]!
theorem z7r (w:World) (d:Array α):(putRowK enc k w blk off d).heap.size=w.heap.size:=by simp [putRowK,putRow,mapBlock]
theorem StK.holds {d0 dk:Array α} {W:World} (hblk:blk<w0.heap.size) (h0:HoldsK enc k w0 blk off d0) (hn:d0.size=n) (h:StK p enc k w0 blk off n dk W):HoldsK enc k W blk off dk:=by
 have hh:=holdsK_putRowK enc k w0 blk off d0 dk h0 (h.1.trans hn.symm);have hb:=h.2.1.block blk hblk;intro j hj;obtain ⟨h1,h2⟩:=hh j hj;constructor
 ·rw [← h1];unfold World.cell?;rw [show W.heap[(⟨blk,off+j,none⟩:Addr).block]? = _ from hb]
 ·rw [← h2];unfold World.frozen?;rw [show W.heap[(⟨blk,off+j,none⟩:Addr).block]? = _ from hb]
theorem StK.le {dk:Array α} {W:World} (h:StK p enc k w0 blk off n dk W):w0.heap.size≤W.heap.size:=by
 have:=h.2.1.size;rw [z7r] at this;exact this
theorem z0pe {d0:Array α} {lf sf:Nat} {lb sb:Array Value} (hk:∀ x,(enc x).length=k) (hblk:blk<w0.heap.size) (h0:HoldsK enc k w0 blk off d0) (hn:d0.size=n) (big:n<4611686018427387904)
  (eg:∀ args w,(callFunc lf args).run Tryz.prog w = .ok (.enter lf args) w) (hswap:SwapSwapsK Tryz.prog sf sb enc k blk off n)
  (hless:∀ (dk:Array α) (W:World) (i j:Nat),StK p enc k w0 blk off n dk W→i<n→j<n→Calls Tryz.prog lf (#[.int .i64 i,.int .i64 j]++lb) W fun e W'=>e = .returned (.bool (lt dk[i]! dk[j]!))∧Below W.heap.size W W') :
  Srt lt n w0.heap.size lf lb sf sb (StK p enc k w0 blk off n) where
 big:=big
 enters:=eg
 size:=fun h=>h.1
 base:=fun h=>h.le
 keep:=fun h hb=>⟨h.1,h.2.1.trans hb,h.2.2⟩
 less:=fun i j h hi hj=>(hless _ _ i j h hi hj).mono fun e W' ⟨he,hb⟩=>⟨he,⟨h.1,h.2.1.trans (hb.mono h.le),h.2.2⟩,Fwd.below hb⟩
 swap:=fun {d W} i j h hi hj=>by
  refine ⟨_,hswap W d (h.holds hblk h0 hn) h.1 i j hi hj,?_⟩;obtain ⟨a1,a2,a3,a4,a5⟩:=zau (blk:=blk) (enc d[j]!) (off+i * k) W;obtain ⟨b1,b2,b3,b4,b5⟩:=zau (blk:=blk) (enc d[i]!) (off+j * k) (W.setCells blk (off+i * k) (enc d[j]!));have hsw:=putRowK_swp enc k hk w0 blk off d i j (by rw [h.1];exact hi) (by rw [h.1];exact hj);refine ⟨⟨by rw [z0mu];exact h.1,?_,fun q hq=>by rw [swp_get d (by rw [h.1];exact hi) (by rw [h.1];exact hj)];split;exact h.2.2 i hi;split;exact h.2.2 j hj;exact h.2.2 q hq⟩,⟨b1.trans a1,b2.trans a2,b3.trans a3,by rw [b4,a4];exact zY0m _,fun b h1 _=>(b5 b (by omega)).trans (a5 b (by omega))⟩⟩;rw [← hsw];obtain ⟨c1,c2,c3,c4,c5⟩:=zau (blk:=blk) (enc d[j]!) (off+i * k) (putRowK enc k w0 blk off d);obtain ⟨e1,e2,e3,e4,e5⟩:=zau (blk:=blk) (enc d[i]!) (off+j * k) ((putRowK enc k w0 blk off d).setCells blk (off+i * k) (enc d[j]!));exact ⟨(b1.trans a1).trans (h.2.1.os.trans (e1.trans c1).symm),(b2.trans a2).trans (h.2.1.tape.trans (e2.trans c2).symm),(b3.trans a3).trans (h.2.1.output.trans (e3.trans c3).symm),by rw [b4,a4,e4,c4];exact h.2.1.size,fun b hb=>zhx _ _ (zhx _ _ (h.2.1.block b hb))⟩
theorem z0pf {d0:Array α} {lf sf f:Nat} {lb sb:Array Value} (hblk:blk<w0.heap.size) (h0:HoldsK enc k w0 blk off d0) (hn:d0.size=n)
  (hb:∀ (d:Array α) (w:World) (a b:Nat),HoldsK enc k w blk off d→d.size=n→blk<w.heap.size→a≤b→b≤d.size→Calls Tryz.prog f #[.agg #[.func (.func lf) #[] lb,.func (.func sf) #[] sb],.int .i64 a,.int .i64 b] w fun e w'=>e = .returned (.tuple #[])∧∃ m os,w'=sortWorldK enc k w blk off m (breakPatterns d a b) os) :
  ∀ (w:World) (d:Array α) (a b:Nat),StK p enc k w0 blk off n d w→a≤b→b≤n→Calls Tryz.prog f #[.agg #[.func (.func lf) #[] lb,.func (.func sf) #[] sb],.int .i64 a,.int .i64 b] w fun e w'=>e = .returned (.tuple #[])∧StK p enc k w0 blk off n (breakPatterns d a b) w'∧Fwd w0.heap.size w w':=by
 intro w d a b h hab hbn;have hl:=h.le;refine (hb d w a b (h.holds hblk h0 hn) h.1 (by omega) hab (by rw [h.1];exact hbn)).mono ?_;rintro e w' ⟨he,m,os,rfl⟩;have hpp0:=breakPatterns_holds d a b hab (by rw [h.1];exact hbn);have hp:=hpp0.1;have hsz:(sortWorldK enc k w blk off m (breakPatterns d a b) os).heap.size=w.heap.size+os.size:=by
  unfold sortWorldK grow
  show (_++os).size=_
  rw [zY2p,z7r];rfl
 have hsm:∀ b',b'<w.heap.size→(sortWorldK enc k w blk off m (breakPatterns d a b) os).heap[b']? = (putRowK enc k w blk off (breakPatterns d a b)).heap[b']?:=fun b' hb'=>by
  unfold sortWorldK;rw [Go.Sort.heap_grow_old _ _ (by rw [z7r];exact hb')];rfl
 refine ⟨he,⟨hp.trans h.1,?_,fun q hq=>?_⟩,?_⟩
 ·have hpp:putRowK enc k (putRowK enc k w0 blk off d) blk off (breakPatterns d a b)=putRowK enc k w0 blk off (breakPatterns d a b):=by
   unfold putRowK;exact putRow_putRow id w0 blk off _ _ (by simp [hp])
  refine ⟨h.2.1.os,h.2.1.tape,h.2.1.output,by rw [z7r,hsz];omega,fun b' hb'=>?_⟩;rw [hsm b' (by omega),← hpp];exact z0ah _ (h.2.1.block b' hb')
 ·exact z0jx hpp0 (fun i hi=>h.2.2 i (by rw [← h.1];exact hi)) q (by rw [h.1];exact hq)
 ·refine ⟨rfl,rfl,rfl,by rw [hsz];omega,fun b' h1 h2=>(hsm b' h2).trans ?_⟩
  unfold putRowK putRow mapBlock;rw [zY2g,if_neg (by omega)]
end
end
section
open Go.RowKit Go.Sort Go.Shelf Go.Lib
set_option maxRecDepth 100000
set_option maxHeartbeats 4000000
section
variable {α:Type} [Inhabited α]
theorem z0ai {enc:α→List Value} {k blk off:Nat} {w:World} (os:Array Obj) (hblk:blk<w.heap.size) {dk:Array α} {W:World} (h:Below (grow w os).heap.size (putRowK enc k (grow w os) blk off dk) W):Below w.heap.size (putRowK enc k w blk off dk) W:=by
 rw [putRowK_grow enc k w os blk off dk hblk] at h;have hs:(grow w os).heap.size=w.heap.size+os.size:=zY2p;have hs2:(grow (putRowK enc k w blk off dk) os).heap.size=w.heap.size+os.size:=by
  show (_++os).size=_
  rw [zY2p,z7r]
 refine ⟨h.os,h.tape,h.output,?_,fun b hb=>(h.block b (by rw [hs];omega)).trans (Go.Sort.heap_grow_old _ _ (by rw [z7r];exact hb))⟩;have:=h.size;rw [hs2] at this;rw [z7r];omega
theorem z034 {ρ:Ren} (L:LaysGg.n6 Tryz.prog ρ) (h14:ρ.f 14=160) (h28:ρ.f 28=185) (t e:TypeId) (i ie:TypeInfo) (hi:(Tryz.prog).info? t=some i) (hd:i.desc = .slice e) (hpk:(Tryz.prog).packed t=false) (hie:(Tryz.prog).info? e=some ie) (ke:Nat) (hke:∀ w,(Extern.Rtype.kind e).run Tryz.prog w = .ok ke w)
  (enc:α→List Value) (k:Nat) (hk:∀ x,(enc x).length=k) (hs1:ie.size=k) (hagg:∀ w,(isAgg e).run Tryz.prog w = .ok true w) (h1:∀ x,∀ v ∈ enc x,v.oneCell'=true) (lt:α→α→Bool) (hO:SWO lt) (g:Nat) (lb:Array Value)
  (eg:∀ args w,(callFunc g args).run Tryz.prog w = .ok (.enter g args) w) (blk off c:Nat) (d:Array α) (h2:2≤d.size) (hsz:d.size<4611686018427387904)
  (f:Nat) (hf:(Tryz.prog).funcs.findIdx? (·.name == "internal/reflectlite" ++ ".Swapper$" ++ toString (swapperK d.size ie ke))=some f)
  (gS:Bool) (hx:∀ args W,(callFunc f args).run Tryz.prog W=((Extern.ReflectliteSwapper.swap gS args).run Tryz.prog W).andThen fun v w'=>.ok (.value v) w')
  (w:World) (hH:HoldsK enc k w blk off d) (hblk:blk<w.heap.size)
  (p:α→Prop) (hp0:∀ i,i<d.size→p d[i]!)
  (hless:∀ (dk:Array α) (W:World) (i j:Nat),dk.size=d.size→(∀ i,i<d.size→p dk[i]!)→Below w.heap.size (putRowK enc k w blk off dk) W→i<d.size→j<d.size→Calls Tryz.prog g (#[.int .i64 i,.int .i64 j]++lb) W fun e W'=>e = .returned (.bool (lt dk[i]! dk[j]!))∧Below W.heap.size W W') :
  Calls Tryz.prog (ρ.f 6) #[.iface t (.slice (some ⟨blk,off,none⟩) d.size c),.func (.func g) #[] lb] w fun e w' =>
   e = .returned (.tuple #[])∧∃ d':Array α,PermIn 0 d.size d d'∧SortedIn lt 0 d.size d'∧Below w.heap.size (putRowK enc k w blk off d') w':=by
 refine Any.sort_Slice_of_pdq L t e i ie hi hd hpk hie ke hke _ d.size c hsz f hf (.func g) #[] lb w _ ?_;have hB:sliceBound Tryz.prog e ie ke (some ⟨blk,off,none⟩) d.size c=#[.slice (some ⟨blk,off,none⟩) d.size c,typeHandle Tryz.prog e]:=by
  unfold sliceBound;rw [if_neg (swapperK_gt _ _ _ h2)]
 obtain ⟨os,hW⟩:∃ os,sliceWorld Tryz.prog ρ t (some ⟨blk,off,none⟩) d.size c w=grow w os:=⟨_,by unfold sliceWorld;rw [alloc_eq_grow,alloc_eq_grow,grow_grow]⟩
 rw [hB,hW,h14];have hbl:blk<(grow w os).heap.size:=by show blk<(w.heap++os).size;rw [zY2p];omega
 have hHg:=holdsK_grow enc k w os blk off d hblk hH;have hsw:=swapSwapsK_of_literal gS f hx e ie hie enc k hk hs1 hagg h1 blk off d.size c;have hlim:Lib.bitLen d.size<4611686018427387904:=Nat.lt_of_le_of_lt (Lib.bitLen_le d.size 62 (by omega) (by omega)) (by omega);have S:=z0pe (p:=p) (lt:=lt) (w0:=grow w os) hk hbl hHg rfl hsz eg hsw fun dk W i j h hi hj=>hless dk W i j h.1 h.2.2 (z0ai os hblk h.2.1) hi hj
 have hbrk:=z0pf (p:=p) (w0:=grow w os) (lf:=g) (lb:=lb) (sf:=f) (sb:=#[.slice (some ⟨blk,off,none⟩) d.size c,typeHandle Tryz.prog e]) (f:=185) hbl hHg rfl fun d1 w1 a b hH1 hn1 hb1 hab hbn=>by
  rw [← h28];exact Any.breakPatterns_func_cells_w (P:=Tryz.prog) (ρ:=ρ) { L with } enc k hk (.func g) #[] lb f _ blk off a b d1 w1 (by rw [hn1];exact hsw) hH1 hb1 hab hbn (by rw [hn1];exact hsz)
 have hp:=z0q9 S hO hbrk (d.size+1) (grow w os) d 0 d.size (Lib.bitLen d.size) (by omega) ⟨rfl,by rw [putRowK_self enc k _ blk off d hHg];exact Below.refl _ _,hp0⟩ (Nat.zero_le _) (zY0m _) hlim (Or.inl rfl);refine hp.mono ?_;rintro e w' ⟨rfl,⟨d',hp1,hp2,hp3⟩,-⟩;exact ⟨rfl,d',hp1,hp2,z0ai os hblk hp3.2.1⟩
end
end
section
open Go.RowKit Go.Sort
set_option maxRecDepth 100000
set_option maxHeartbeats 4000000
def putC (c:Coin) (r:List Coin):List Coin:=r.take (zo r c.p)++[c]++r.drop (zo r c.p)
def z0o (l:List Coin):List Coin:=l.foldr putC []
def z24 (l:List Coin):Prop:=l.Pairwise fun c d=>c.p≠d.p
theorem z0gq (c:Coin) (r:List Coin):(putC c r).Perm (c::r):=by
 unfold putC;rw [zY1b,zY31];refine List.perm_middle.trans ?_;rw [zY0v]
theorem z2v:∀ (l:List Coin),(z0o l).Perm l
 | []=>List.Perm.refl _
 | c::r=>(z0gq c (z0o r)).trans ((z2v r).cons c)
theorem zdf {l m:List Coin} (h:l.Perm m) (p:Point):z1n l p=z1n m p:=by
 unfold z1n;rw [Bool.eq_iff_iff,zY32,zY32];exact ⟨fun ⟨x,hx,hp⟩=>⟨x,h.mem_iff.1 hx,hp⟩,fun ⟨x,hx,hp⟩=>⟨x,h.mem_iff.2 hx,hp⟩⟩
theorem z4l:∀ {l:List Coin},z24 l→z06 (z0o l)
 | [],_=>List.Pairwise.nil
 | c::r,h=>by
  rw [z24,zY1q] at h;have hh:z1n (z0o r) c.p=false:=by
   rw [zdf (z2v r)];unfold z1n;rw [zY3k];intro x hx;have:=h.1 x hx;simp only [decide_eq_true_eq];exact fun e=>this e.symm
  exact z7m (z4l h.2) hh
theorem zae {l m:List Coin} (hp:l.Perm m) (hl:z06 l) (hm:z06 m):l=m :=
 hp.eq_of_pairwise (fun a b _ _ h1 h2=>absurd h2 (zra h1)) hl hm
theorem z0gr {l m:List Coin} (h:l.Perm m) (hd:z24 l):z24 m:=(h.pairwise_iff (R:=fun c d:Coin=>c.p≠d.p) (fun hab=>Ne.symm hab)).1 hd
theorem zaf {l:List Coin} (h:z06 l):z24 l:=by
 unfold z06 at h;unfold z24;refine List.Pairwise.imp ?_ h;intro c d hab e;rw [e] at hab;exact z5u _ hab
abbrev CC:Type:=Coin × Option Addr × Nat × Nat
instance:Inhabited CC:=⟨(z5x,none,0,0)⟩
def z1u (x:CC):List Value:=[.int .i64 x.1.p.tx,.int .i64 x.1.p.at_,.int .i64 x.1.o.coin,.slice x.2.1 x.2.2.1 x.2.2.2,.int .i64 x.1.height,.bool x.1.reward]
def ltCC (x y:CC):Bool:=decide (ltP x.1.p y.1.p)
theorem z0qa:SWO ltCC where
 irrefl:=fun x=>decide_eq_false (z5u _)
 trans:=fun x y z h1 h2=>decide_eq_true (z6v (of_decide_eq_true h1) (of_decide_eq_true h2))
 ntrans:=fun x y z h1 h2=>by
  have h1:=of_decide_eq_false h1;have h2:=of_decide_eq_false h2;refine decide_eq_false ?_;unfold ltP at *;omega
theorem zdg (x:CC):(z1u x).length=6:=rfl
theorem z0gs (x:CC):∀ v ∈ z1u x,v.oneCell'=true:=by
 intro v hv;simp only [z1u,zY0i,zY1i,or_false] at hv;rcases hv with rfl|rfl|rfl|rfl|rfl|rfl <;> rfl
theorem z0qb {w:World} {F:Nat→Prop} {x:Coin} {cs:List Value} (h:shCoin.rep w F x cs):∃ y:CC,z1u y=cs∧y.1=x:=by
 obtain ⟨A,n,c,rfl,-⟩:=z0i2 h;exact ⟨(x,A,n,c),rfl,rfl⟩
theorem z0gt {w:World} {F:Nat→Prop}:∀ {zs:List (Coin × List Value)},(∀ z ∈ zs,shCoin.rep w F z.1 z.2)→∃ ys:List CC,ys.map (fun y=>(y.1,z1u y))=zs
 | [],_=>⟨[],rfl⟩
 | z::zs,h=>by
  obtain ⟨y,h1,h2⟩:=z0qb (h z (zY0h ..));obtain ⟨ys,hys⟩:=z0gt fun z hz=>h z (zY0d _ hz)
  refine ⟨y::ys,?_⟩;rw [zY1t,hys,h1,h2]
theorem zn0 {k:Nat} (hk:0<k):∀ (l:List (List Value)),(∀ x ∈ l,x.length=k)→∀ t,l.flatten[t]? = (l[t / k]?).bind (·[t % k]?)
 | [],_,t=>by simp
 | x::r,h,t=>by
  have hx:=h x (zY0h ..);rw [zY1k]
  by_cases ht:t<k
  ·rw [zY0l (by omega),Nat.div_eq_of_lt ht,Nat.mod_eq_of_lt ht];rfl
  ·rw [zY0n (by omega),hx,zn0 hk r (fun y hy=>h y (zY0d _ hy))]
   obtain ⟨q,rfl⟩:∃ q,t=q+k:=⟨t - k,by omega⟩
   rw [zY2s,Nat.add_div_right q hk,Nat.add_mod_right];rfl
theorem zkm (ys:List CC):(flatK z1u 6 ys.toArray).toList=(ys.map z1u).flatten:=by
 apply zY2w;intro t;rw [zn0 (k:=6) (by omega) _ (fun x hx=>by obtain ⟨y,_,rfl⟩:=zY2q.1 hx;rfl)]
 by_cases ht:t<ys.length * 6
 ·have h1:t<(flatK z1u 6 ys.toArray).size:=by simpa using ht
  have h2:=get_flatK z1u 6 ys.toArray t (by simpa using ht);have h3:t / 6<ys.length:=by omega
  rw [zY1n,zY12 h1,← getElem!_pos _ t h1,h2,zY0j,zY03 h3];have h4:(ys.toArray)[t / 6]! = ys[t / 6]:=by simp [h3]
  rw [h4];have h5:t % 6<(z1u ys[t / 6]).length:=by rw [zdg];omega
  rw [zY10,zY05,zY03 h5,getElem!_pos (z1u ys[t / 6]) (t % 6) h5]
 ·rw [zY3j (by simpa using ht),zY3j (by simp;omega)]
  rfl
theorem z0gu {ys:List CC} {d:Array CC} (hp:PermIn 0 ys.toArray.size ys.toArray d) (hs:SortedIn ltCC 0 ys.toArray.size d) (hd:z24 (ys.map (·.1))):d.toList.map (·.1)=z0o (ys.map (·.1))∧d.toList.Perm ys:=by
 have hsz:d.size=ys.length:=by rw [hp.1];simp
 have h1:d.toList.Perm ys:=by
  have:=hp.2.2;simp only [zY2i] at this;rw [Array.extract_eq_self_of_le (by omega),Array.extract_eq_self_of_le (by simp)] at this;exact this
 refine ⟨zae ((h1.map _).trans (z2v _).symm) ?_ (z4l hd),h1⟩;have hdd:z24 (d.toList.map (·.1)):=z0gr (h1.map _).symm hd;unfold z06;rw [List.pairwise_iff_getElem];intro i j hi hj hij;rw [zY0w,zY2e] at hi hj;have h2:=hs i j (Nat.zero_le _) hij (by simp;omega);have h3:=(List.pairwise_iff_getElem.1 hdd) i j (by simpa using hi) (by simpa using hj) hij;rw [List.getElem_map,List.getElem_map,Array.getElem_toList,Array.getElem_toList] at h3 ⊢;rw [getElem!_pos d i hi,getElem!_pos d j hj] at h2;have h2:=of_decide_eq_false h2;rcases zo0 d[i].1.p d[j].1.p with h|h|h
 ·exact h
 ·exact absurd h h3
 ·exact absurd h h2
end
section
open Go.RowKit Go.Sort Go.Shelf
set_option maxRecDepth 100000
set_option maxHeartbeats 4000000
theorem z035 {P:Program} {α β:Type} {S:Sh β} {eS:β→List Dt} (hE:ShE S eS) {e:α→List Dt} {xs:α→List β} {pk:List PK} {t sz:Nat} {f:Nat} (hpk:z41 pk=false) (hsz:S.size=sz) (hpos:0<S.size) (hen:En P f)
  (h:∀ x W F us,zaw F W→PKRs W F pk (e x) us→Calls P f us.toArray W fun r W'=>∃ n,z63 S t W F (xs x) n r W') :
  Meets P (z00 e fun x=>[.l sz ((xs x).map eS)]) f ⟨pk,[(false,[.fresh t sz])],false⟩:=by
 refine .mk hpk ?_;intro W F ds args rs hF hargs hsp;obtain ⟨x,rfl,rfl⟩:=z2p hsp;refine .inl ⟨hen.run _ _,(h x W F args hF hargs).mono ?_⟩;rintro r W' ⟨n,v,zs,rfl,hz,hr,ho,hb⟩;subst hsz;have hag:Agree F W W':=fun b hb'=>hb.block b (hF.1 b hb')
 have hzl:zs.length=n:=by
  have h1:=ho.1;rw [z31 fun z hz=>S.len (hr z hz)] at h1;exact Nat.eq_of_mul_eq_mul_right hpos h1
 refine ⟨v,rfl,hb,[v],F,⟨⟨rfl,rfl⟩,rfl,rfl,fun j c d u hf hd hu=>?_,fun b hb=>.inl hb,fun j e' sz' u b hf hu hbl hFb=>?_,fun j j' e sz e' sz' u u' b hf hu hf' hu' _ _=>?_⟩⟩
 ·cases j with
  | succ j=>simp [zn] at hf
  | zero =>
   simp only [zn,zY1u,zY34,zY23,zY04,zY00] at hf hd hu;subst hf;subst hd;subst hu;refine ⟨_,flat zs,rfl,fun y hy=>?_,?_,?_⟩
   ·obtain ⟨z,_,rfl⟩:=zY2q.1 hy
    exact hE.len z
   ·rw [zY0w,← hz,zY0w,hzl];exact ho
   ·rw [← hz]
    clear ho hz hzl
    induction zs with
    | nil=>exact trivial
    | cons z zs ih =>
     simp only [flat,zY1t,zY1k];exact (hE.to (S.keep hag (hr z (zY0h ..)))).append (ih fun z hz=>hr z (zY0d _ hz))
 ·cases j with
  | succ j=>simp [zn] at hf
  | zero =>
   simp only [zY04,zY00] at hu;subst hu;have h1:=ze5 ho hbl;have h2:=hF.1 b hFb;omega
 ·cases j <;> cases j' <;> simp [zn] at hf hf' ⊢
def z25 (l:List Coin) (i:Int):Coin:=(l[i.toNat]?).getD z5x
noncomputable def zje:z9:=spD (fun x:Int × Int × List Coin=>(0≤x.1∧x.1<x.2.2.length)∧0≤x.2.1∧x.2.1<x.2.2.length) fun x=>decide (ltP (z25 x.2.2 x.1).p (z25 x.2.2 x.2.1).p)
theorem zp1 (i j:Int) (l:List Coin) (h:(0≤i∧i<l.length)∧0≤j∧j<l.length):zje [I i,I j,.l 6 (l.map zd)]=some [.b (decide (ltP (z25 l i).p (z25 l j).p))]:=zg (f:=fun x:Int × Int × List Coin=>decide (ltP (z25 x.2.2 x.1).p (z25 x.2.2 x.2.1).p)) (i,j,l) h
theorem zrs {l:List Coin} {i:Int} (h0:0≤i) (h1:i<l.length):l[i.toNat]? = some (z25 l i):=by
 unfold z25;have h:i.toNat<l.length:=by omega
 rw [zY03 h];rfl
def z036:T :=
 .lets [.idx 2 0 0,.idx 2 0 1] [] (.lets [] [.inr 6 2 1] (.lets [.idx 2 1 0,.idx 2 1 1] [] (.lets [.call 24 [3,4,5,.v
 6] 0] [] (.ret [7]))))
def zfv:T :=
 .lets [] [.inr 6 2 0] z036
theorem z0cy:Meets Tryz.prog zje 137 ⟨[.one,.one,.ptr 1],[(false,[.scal])],true⟩:=by
 refine zj (sp:=(z07 [(24,z7o)])) (sigs:=z0i) (cut:=[]) (hints:=[]) (fn:=Tryz.f137) (t:=zfv) (by kernel_rfl) (by kernel_rfl) (by kernel_rfl) ?_ ?_
 ·exact (z01 (L:=[(24,z7o)]) ⟨za rfl zrp,trivial⟩)
 ·rintro ds rs hok h
  obtain ⟨⟨i,j,l⟩,⟨⟨h1,h2⟩,h3,h4⟩,rfl,rfl⟩:=zi h;clear h hok;simp only at h1 h2 h3 h4;refine ⟨⟨1,?_⟩,zy rfl⟩
  show den _ _ zfv [I i,I j,.l 6 (l.map zd)] []=ret (decide (ltP (z25 l i).p (z25 l j).p))
  have hi:=zrs h1 h2;have hj:=zrs h3 h4;generalize z25 l i=x at *;generalize z25 l j=y at *;unfold zfv
  repeat' (first|refine dqc ?_|refine dqm ?_|refine dqk rfl (zg8 x.p y.p) ?_|exact z5 rfl rfl|fail)
noncomputable def srT:TypeInfo:=((Tryz.prog).info? 25).get (by kernel_rfl)
noncomputable def srE:TypeInfo:=((Tryz.prog).info? 101).get (by kernel_rfl)
theorem srK (n:Nat) (h2:2≤n):Lib.swapperK n srE 25=9:=by
 have a:srE.hasPointers=true:=by kernel_rfl
 have b:srE.bytes=64:=by kernel_rfl
 unfold Lib.swapperK;rw [a,b,if_neg (by simp;omega),if_neg (by simp;omega)];rfl
theorem z0mx {w0 W:World} {F:Nat→Prop} {g b0 n cap:Nat} {dk:Array CC} (hF:∀ b,F b→W.heap[b]? = w0.heap[b]? ∧ b<W.heap.size) (hn:dk.size=n) (hcap:n≤cap) (hcm:cap≤9223372036854775807) (hH:HoldsK z1u 6 W g 0 dk) (hg:g<W.heap.size)
  (hb:W.cell? ⟨b0,0,none⟩=some (.slice (some ⟨g,0,none⟩) n cap)) (hb0:b0<W.heap.size) (hp:∀ i,i<n→shCoin.rep w0 F dk[i]!.1 (z1u dk[i]!)) {i j:Nat} (hi:i<n) (hj:j<n) (hbig:n<4611686018427387904) (hG:Glob W) :
  Calls Tryz.prog 137 (#[.int .i64 i,.int .i64 j]++#[.pointer (some ⟨b0,0,none⟩)]) W fun e W'=>e = .returned (.bool (ltCC dk[i]! dk[j]!))∧Below W.heap.size W W':=by
 have hl:(dk.toList.map (·.1)).length=n:=by simp [hn]
 have at_:∀ k,k<n→z25 (dk.toList.map (·.1)) (k:Int)=dk[k]!.1:=fun k hk=>by
  unfold z25;rw [zY2x,zY0j,zY1n,getElem!_pos dk k (by omega),zY12 (by omega)];rfl
 have hs:=zp1 (i:Int) (j:Int) (dk.toList.map (·.1)) ⟨⟨by omega,by rw [hl];omega⟩,by omega,by rw [hl];omega⟩;rw [at_ i hi,at_ j hj] at hs;refine zdl (F:=Lt W.heap.size) (us:=[.int .i64 i,.int .i64 j,.pointer (some ⟨b0,0,none⟩)]) rfl (z23 (fn:=Tryz.f137) (by kernel_rfl) (by kernel_rfl) (by kernel_rfl)) z0cy ⟨fun _ h=>h,hG⟩ hs ?_;refine ⟨[I i],_,_,_,rfl,rfl,⟨_,rfl,.i _ _ (wrap_i64 ⟨by omega,by omega⟩)⟩,[I j],_,_,_,rfl,rfl,⟨_,rfl,.i _ _ (wrap_i64 ⟨by omega,by omega⟩)⟩,[.l 6 ((dk.toList.map (·.1)).map zd)],_,_,_,rfl,rfl,⟨rfl,b0,0,[.slice (some ⟨g,0,none⟩) n cap],rfl,hb0,fun k v hk=>?_,?_,trivial⟩,rfl,rfl⟩
 ·cases k with
  | zero=>simp only [zY04,zY00] at hk;subst hk;exact hb
  | succ k=>simp at hk
 ·refine .l 6 _ _ n cap g 0 (fun i j=>(z1u dk[i]!)[j]!) (by simp [hn]) (by simp [hn];omega) hcm (fun x hx=>?_) (fun _=>⟨rfl,hg⟩) (fun i j x d hx hd=>?_) (fun i j x d hx hd=>?_)
  ·obtain ⟨c,_,rfl⟩:=zY2q.1 hx
   rfl
  ·have hi:i<n:=by have:=(zY02.1 hx).1;simpa [hn] using this
   have hxe:x=zd dk[i]!.1:=by
    rw [zY0j,zY0j,zY1n,zY12 (by omega)] at hx;rw [getElem!_pos dk i (by omega)];simpa using hx.symm
   subst hxe;have hj:j<6:=(zY02.1 hd).1;exact (hH.cell (by omega) hj).1
  ·have hi:i<n:=by have:=(zY02.1 hx).1;simpa [hn] using this
   have hxe:x=zd dk[i]!.1:=by
    rw [zY0j,zY0j,zY1n,zY12 (by omega)] at hx;rw [getElem!_pos dk i (by omega)];simpa using hx.symm
   subst hxe;obtain ⟨u,hu,hr⟩:=(she_coin.to (hp i hi)).get hd;have hj:j<6:=(zY02.1 hd).1;have:(z1u dk[i]!)[j]! = u:=by rw [getElem!_pos _ _ (by rw [zdg];exact hj)];rw [zY03 (by rw [zdg];exact hj)] at hu;exact Option.some.inj hu
   rw [this];exact hr.mono (F':=Lt W.heap.size) (fun b hb=>(hF b hb).1) fun b hb=>(hF b hb).2
theorem z096 {l:List Coin} (h:l.length≤1):z0o l=l:=by
 match l,h with
 | [],_=>rfl
 | [x],_=>rfl
theorem z0cz (W:World) (os:Array Obj):Below W.heap.size W (grow W os) :=
 ⟨rfl,rfl,rfl,by show _≤(W.heap++os).size;rw [zY2p];omega,fun b hb=>Go.Sort.heap_grow_old _ _ hb⟩
theorem z0gv {w0 W:World} {F:Nat→Prop} {b0 base n:Nat} {v:Value} {zs:List (Coin × List Value)} (hrow:W.ownsRow base 101 6 v n (flat zs)) (hzn:zs.length=n) (hrep:∀ z ∈ zs,shCoin.rep w0 F z.1 z.2)
  (hF:∀ b,F b→b<base∧W.heap[b]? = w0.heap[b]?) (hb0:b0<base) (hbox:W.cell? ⟨b0,0,none⟩=some v) (hbase:base≤W.heap.size) (hd:z24 (zs.map (·.1))) (hbig:n<4611686018427387904) {wg:World} (hG:Glob wg) (hbg:Below wg.heap.size wg W) (hgs:wg.heap.size≤base) :
  Calls Tryz.prog 136 #[.iface 25 v,.func (.func 137) #[] #[.pointer (some ⟨b0,0,none⟩)]] W fun e W'=>e = .returned (.tuple #[]) ∧
   ∃ zs':List (Coin × List Value),zs'.map (·.1)=z0o (zs.map (·.1))∧(∀ z ∈ zs',shCoin.rep w0 F z.1 z.2)∧W'.ownsRow base 101 6 v n (flat zs')∧Below base W W':=by
 obtain ⟨hlen,hv⟩:=hrow
 by_cases h1:n≤1
 ·have hs:z0o (zs.map (·.1))=zs.map (·.1):=z096 (by rw [zY0w];omega)
  obtain ⟨p,c,hvp⟩:∃ p c,v = .slice p n c:=by
   rcases hv with ⟨rfl,rfl⟩|⟨g,cap,cur,rfl,-⟩
   ·exact ⟨none,0,rfl⟩
   ·exact ⟨_,_,rfl⟩
  have ht:Calls Tryz.prog 136 #[.iface 25 v,.func (.func 137) #[] #[.pointer (some ⟨b0,0,none⟩)]] W fun e w'=>e = .returned (.tuple #[])∧∃ os,w'=grow W os:=by
   rw [hvp];rcases zY1c n with h0|h0
   ·subst h0
    exact Any.sort_Slice_tiny Tryz.lays6 25 101 srT srE (by kernel_rfl) (by kernel_rfl) (by kernel_rfl) (by kernel_rfl) 25 (fun _=>by kernel_rfl) p 0 c h1 172 (by kernel_rfl) (.func 137) #[] #[.pointer (some ⟨b0,0,none⟩)] W
   ·obtain rfl:n=1:=by omega
    exact Any.sort_Slice_tiny Tryz.lays6 25 101 srT srE (by kernel_rfl) (by kernel_rfl) (by kernel_rfl) (by kernel_rfl) 25 (fun _=>by kernel_rfl) p 1 c h1 173 (by kernel_rfl) (.func 137) #[] #[.pointer (some ⟨b0,0,none⟩)] W
  refine ht.mono ?_;rintro e W' ⟨he,os,rfl⟩;have hg:=z0cz W os;refine ⟨he,zs,hs.symm,hrep,⟨hlen,?_⟩,hg.mono hbase⟩;rcases hv with h|⟨g,cap,cur,h2,h3,h4,h5⟩
  ·exact .inl h
  ·exact .inr ⟨g,cap,cur,h2,h3,(hg.block g (by rw [zY17] at h4;exact h4.1)).trans h4,h5⟩
 ·rcases hv with ⟨-,h0⟩|⟨g,cap,cur,rfl,hgb,hh,hnc,hcm,hcs,ht⟩
  ·omega
  obtain ⟨ys,hys⟩:=z0gt hrep;have hyn:ys.length=n:=by rw [← hzn,← hys,zY0w]
  have hfl:flat zs=(flatK z1u 6 ys.toArray).toList:=by
   rw [zkm,← hys];unfold flat;rw [zY3o];rfl
  have hgl:g<W.heap.size:=by rw [zY17] at hh;exact hh.1
  have hH:HoldsK z1u 6 W g 0 ys.toArray:=by
   intro j hj;rw [size_flatK] at hj;have hj:j<n * 6:=by rw [← hyn];simpa using hj
   refine ⟨?_,by rw [zY0q];exact zxh hh⟩;rw [zY0q,cell_of_row W g j cur _ (0,0) hh];have e1:(cur.toList.take (n * 6))[j]? = (flatK z1u 6 ys.toArray).toList[j]?:=by rw [ht,hfl]
   rw [zY18,if_pos hj,zY1n,zY1n] at e1;rw [e1];have h2:j<(flatK z1u 6 ys.toArray).size:=by rw [size_flatK];simp;omega
   rw [zY12 h2,getElem!_pos (flatK z1u 6 ys.toArray) j h2];rfl
  have hsz:ys.toArray.size=n:=by simpa using hyn
  have hsl:=z034 (α:=CC) Tryz.lays6 rfl rfl 25 101 srT srE (by kernel_rfl) (by kernel_rfl) (by kernel_rfl) (by kernel_rfl) 25 (fun _=>by kernel_rfl) z1u 6 zdg (by kernel_rfl) (fun _=>by kernel_rfl) z0gs ltCC z0qa 137 #[.pointer (some ⟨b0,0,none⟩)]
   (enters_of Tryz.func137 (by kernel_rfl) rfl) g 0 cap ys.toArray (by rw [hsz];omega) (by rw [hsz];exact hbig) 180 (by rw [srK _ (by rw [hsz];omega)];kernel_rfl) false
   (fun args W=>run_callFunc_extern Tryz.func180 (by kernel_rfl) (by kernel_rfl) (by kernel_rfl) (e:=Extern.ReflectliteSwapper.swap false) (by kernel_rfl) args W) W hH hgl (fun y=>shCoin.rep w0 F y.1 (z1u y))
   (fun i hi=>by
    rw [getElem!_pos ys.toArray i hi];have hi':i<ys.length:=by simpa using hi
    have:=hrep (ys[i].1,z1u ys[i]) (by rw [← hys];exact zY26 (zY1l hi'));simpa using this)
   (fun dk X i j hdn hdp hbl hi hj=>by
    rw [hsz] at hdn hdp hi hj;have hXs:W.heap.size≤X.heap.size:=by have:=hbl.size;rwa [z7r] at this
    have hoth:∀ b,b<W.heap.size→b≠g→X.heap[b]? = W.heap[b]?:=fun b hb hne=>(hbl.block b hb).trans (by
     unfold putRowK putRow mapBlock;rw [zY2g,if_neg (by omega)])
    have hHX:HoldsK z1u 6 X g 0 dk:=StK.holds (p:=fun _:CC=>True) (w0:=W) (n:=n) hgl hH hsz ⟨hdn,hbl,fun _ _=>trivial⟩;have hbX:X.cell? ⟨b0,0,none⟩=some (.slice (some ⟨g,0,none⟩) n cap):=by
     rw [← hbox];unfold World.cell?;rw [hoth b0 (by omega) (by omega)]
    exact z0mx (w0:=w0) (F:=F) (fun b hb=>⟨(hoth b (by have:=(hF b hb).1;omega) (by have:=(hF b hb).1;omega)).trans (hF b hb).2,by have:=(hF b hb).1;omega⟩) hdn hnc hcm hHX (by omega) hbX (by omega) hdp hi hj hbig (hG.on ⟨hbl.os.trans hbg.os,hbl.tape.trans hbg.tape,hbl.output.trans hbg.output,by have:=hbg.size;omega,fun b hb'=>(hoth b (by omega) (by omega)).trans (hbg.block b hb')⟩))
  rw [hsz] at hsl;refine hsl.mono ?_;rintro e W' ⟨he,d,hp,hs,hb⟩;have hdy:z24 (ys.map (·.1)):=by
   have:ys.map (·.1)=zs.map (·.1):=by rw [← hys,zY3o];rfl
   rw [this];exact hd
  obtain ⟨q1,q2⟩:=z0gu (ys:=ys) (by rw [hsz];exact hp) (by rw [hsz];exact hs) hdy;have hdn:d.size=n:=hp.1.trans hsz;have hWs:W.heap.size≤W'.heap.size:=by have:=hb.size;rwa [z7r] at this
  refine ⟨he,d.toList.map (fun y=>(y.1,z1u y)),?_,?_,⟨?_,.inr ⟨g,cap,putCells id 0 (flatK z1u 6 d) cur,rfl,hgb,?_,hnc,hcm,?_,?_⟩⟩,?_⟩
  ·rw [zY3o,← hys,zY3o]
   exact q1
  ·intro z hz
   obtain ⟨y,hy,rfl⟩:=zY2q.1 hz;exact hrep _ (by rw [← hys];exact zY26 (q2.mem_iff.1 hy))
  ·have:flat (d.toList.map (fun y=>(y.1,z1u y)))=(flatK z1u 6 d).toList:=by
    have:=zkm d.toList;rw [zY1m] at this;rw [this];unfold flat;rw [zY3o];rfl
   rw [this,zY2e,size_flatK,hdn]
  ·refine (hb.block g hgl).trans ?_
   unfold putRowK putRow mapBlock;rw [zY2g,if_pos rfl,hh];rfl
  ·unfold putCells
   rw [Array.size_mapIdx];exact hcs
  ·have:flat (d.toList.map (fun y=>(y.1,z1u y)))=(flatK z1u 6 d).toList:=by
    have:=zkm d.toList;rw [zY1m] at this;rw [this];unfold flat;rw [zY3o];rfl
   rw [this];apply zY2w;intro t;rw [zY18]
   by_cases h:t<n * 6
   ·have hn6:n * 6≤cur.size:=by rw [hcs];omega
    have h2:t<(flatK z1u 6 d).size:=by rw [size_flatK,hdn];exact h
    rw [if_pos h,zY1n,zY1n,zY12 h2];unfold putCells;rw [Array.getElem?_mapIdx,zY12 (by omega),zY10,if_pos ⟨by omega,by omega⟩,Nat.sub_zero,getElem!_pos (flatK z1u 6 d) t h2];rfl
   ·rw [if_neg h,zY3j (by rw [zY2e,size_flatK,hdn];omega)]
  ·refine ⟨hb.os,hb.tape,hb.output,hWs,fun b hb'=>(hb.block b (by omega)).trans ?_⟩
   unfold putRowK putRow mapBlock;rw [zY2g,if_neg (by omega)]
theorem z0d0 {W:World} {base e sz n:Nat} {v:Value} {xs:List Value} (h:W.ownsRow base e sz v n xs):∃ B c,v = .slice B n c:=by
 rcases h.2 with ⟨rfl,rfl⟩|⟨g,cap,cur,rfl,_⟩
 ·exact ⟨none,0,rfl⟩
 ·exact ⟨_,_,rfl⟩
noncomputable def z7s:z9:=spD (fun l:List Coin=>l.length≤1000000∧z24 l) fun l=>z0o l
theorem zgb (l:List Coin) (h:l.length≤1000000∧z24 l):z7s [.l 6 (l.map zd)]=some [.l 6 ((z0o l).map zd)]:=zg (f:=fun l:List Coin=>z0o l) l h
theorem z097 {W:World} {base base' e sz n:Nat} {v:Value} {xs:List Value} (h:W.ownsRow base e sz v n xs) (hb:base'≤base):W.ownsRow base' e sz v n xs:=by
 refine ⟨h.1,?_⟩;rcases h.2 with h|⟨g,cap,cur,h1,h2,h3⟩
 ·exact .inl h
 ·exact .inr ⟨g,cap,cur,h1,by omega,h3⟩
theorem z0jz (xs:List Coin) (A:Option Addr) (n c:Nat) (w:World) (F:Nat→Prop) (h:Rds shCoin w F xs A n c) (hF:∀ b,F b→b<w.heap.size) (hn:n * 64≤140737488355328) (hd:z24 xs) (hG:Glob w) :
  Calls Tryz.prog 110 #[.slice A n c] w (z63 shCoin 101 w F (z0o xs) n):=by
 obtain ⟨w1,hw1⟩:∃ w1,w1=w.alloc (.cells #[.slice A n c] 25):=⟨_,rfl⟩
 have hs1:w1.heap.size=w.heap.size+1:=by rw [hw1,z4k]
 have hb1:Below w.heap.size w w1:=by rw [hw1];exact (Below.refl _ _).alloc (zY0m _) _
 have hbx:w1.heap[w.heap.size]? = some (.cells #[.slice A n c] 25 (0,0)):=by rw [hw1,z9w]
 have hag:Agree F w w1:=fun b hb=>hb1.block b (hF b hb)
 have hcl:=zlc xs A n c w1 F (h.keep hag) (fun b hb=>by have:=hF b hb;omega) hn;have hxn:=h.1;have HQ:Hid (∀ (v:Value) (zs:List (Coin × List Value)) (w2:World),zs.map (·.1)=xs→(∀ z ∈ zs,shCoin.rep w1 F z.1 z.2)→w2.ownsRow w1.heap.size 101 shCoin.size v n (flat zs)→Below w1.heap.size w1 w2 →
   Calls Tryz.prog 136 #[.iface 25 v,.func (.func 137) #[] #[.pointer (some ⟨w.heap.size,0,none⟩)]] (w2.setCell ⟨w.heap.size,0,none⟩ v) fun e W'=>e = .returned (.tuple #[])∧W'.cell? ⟨w.heap.size,0,none⟩=some v∧z63 shCoin 101 w F (z0o xs) n (.returned v) W'):=by
  intro v zs w2 hz1 hz2 hz3 hz4;have hb2:w2.heap[w.heap.size]? = some (.cells #[.slice A n c] 25 (0,0)):=(hz4.block _ (by omega)).trans hbx;have hst:=heap_setCell_same w2 w.heap.size 0 _ _ v hb2;have hbox:(w2.setCell ⟨w.heap.size,0,none⟩ v).cell? ⟨w.heap.size,0,none⟩=some v:=by
   unfold World.cell?;rw [hst];rfl
  have hsz:(w2.setCell ⟨w.heap.size,0,none⟩ v).heap.size=w2.heap.size:=by simp [World.setCell]
  have hoth:∀ b,b≠w.heap.size→(w2.setCell ⟨w.heap.size,0,none⟩ v).heap[b]? = w2.heap[b]?:=fun b hb=>heap_setCell_other w2 _ b _ hb
  have hzl:zs.length=n:=by rw [← hxn,← hz1,zY0w]
  have hs2:=hz4.size;refine (z0gv (w0:=w1) (F:=F) (base:=w1.heap.size) (z067 hz3 (p:=⟨w.heap.size,0,none⟩) (by show w.heap.size<_;omega) v) hzl hz2 (fun b hb=>⟨by have:=hF b hb;omega,(hoth b (by have:=hF b hb;omega)).trans (hz4.block b (by have:=hF b hb;omega))⟩) (by omega) hbox (by rw [hsz];exact hs2) (by rw [hz1];exact hd) (by omega) hG ⟨hz4.os.trans hb1.os,hz4.tape.trans hb1.tape,hz4.output.trans hb1.output,by rw [hsz];omega,fun b hb=>(hoth b (by omega)).trans ((hz4.block b (by omega)).trans (hb1.block b hb))⟩ (by omega)).mono ?_;rintro e W' ⟨he,zs',h1,h2,h3,h4⟩;refine ⟨he,?_,v,zs',rfl,by rw [h1,hz1],fun z hz=>shCoin.keep (fun b hb=>(hag b hb).symm) (h2 z hz),z097 h3 (by omega),?_⟩
  ·rw [← hbox]
   unfold World.cell?;rw [h4.block w.heap.size (by omega)]
  ·refine ⟨h4.os.trans (hz4.os.trans hb1.os),h4.tape.trans (hz4.tape.trans hb1.tape),h4.output.trans (hz4.output.trans hb1.output),by have:=h4.size;omega,fun b hb=>(h4.block b (by omega)).trans ((hoth b (by omega)).trans ((hz4.block b (by omega)).trans (hb1.block b hb)))⟩
 have HX:=Lib.hid hbx;clear hbx hag h hd hG;rw [hw1] at hcl;go_enter Tryz.func110,Tryz.ntmps110;go_wp2_with (first|(go_at_call 93;refine hcl.mono ?_;rintro e w2 ⟨v,zs,rfl,hz1,hz2,hz3,hz4⟩;rw [← hw1] at hz2 hz3 hz4;have hb2:w2.heap[w.heap.size]? = some (.cells #[.slice A n c] 25 (0,0)):=(hz4.block _ (by omega)).trans HX.out;have hcc:w2.cell? ⟨w.heap.size,0,none⟩=some (.slice A n c):=(by unfold World.cell?;rw [hb2];rfl);have hff:w2.frozen? ⟨w.heap.size,0,none⟩=false:=zxh hb2;obtain ⟨vB,vc,rfl⟩:=z0d0 hz3;have hq:=HQ.out _ zs w2 hz1 hz2 hz3 hz4;clear hcl hz1 hz2 hz3 hz4;simp only [])|(go_at_call 136;refine hq.mono ?_;rintro e w3 ⟨rfl,hv,hC⟩;clear hq;simp only []));go_ret;exact hC
theorem z0gw:Meets Tryz.prog z7s 110 ⟨[.one],[(false,[.fresh 101 6])],false⟩ :=
 z035 (e:=fun x:{ l:List Coin // l.length≤1000000∧z24 l }=>Enc.e x.1) (xs:=fun x=>z0o x.1) she_coin rfl rfl (by decide) (z23 (fn:=Tryz.f110) (by kernel_rfl) (by kernel_rfl) (by kernel_rfl)) fun x W F us hF h=>by
  obtain ⟨v,us,rfl,h1,h⟩:=z1f h;obtain rfl:=z2a h;obtain ⟨A,n,c,rfl,k1⟩:=z3t she_coin h1;have:=x.2.1;have:=k1.1;exact (z0jz x.1 A n c W F k1 hF.1 (by omega) x.2.2 hF.2).mono fun r W' h=>⟨n,h⟩
end
section
open Go.RowKit
set_option maxRecDepth 100000
set_option maxHeartbeats 4000000
theorem zn1 (p:Point):∀ (r:List Coin) (k:Nat),(zhv p r k = -1∧z1n r p=false)∨∃ j,∃ (hj:j<r.length),zhv p r k=((k+j:Nat):Int)∧r[j].p=p
 | [],k=>.inl ⟨rfl,rfl⟩
 | c::r,k=>by
  rw [zhv]
  by_cases h:c.p=p
  ·rw [if_pos h]
   exact .inr ⟨0,by simp,by simp,h⟩
  ·rw [if_neg h]
   rcases zn1 p r (k+1) with ⟨h1,h2⟩|⟨j,hj,h1,h2⟩
   ·refine .inl ⟨h1,?_⟩
    unfold z1n at h2 ⊢;rw [zY37,h2,decide_eq_false h];rfl
   ·exact .inr ⟨j+1,by simpa using hj,by rw [h1];omega,by simpa using h2⟩
theorem z88 (r:List Coin) (p:Point):(z0j r p = -1∧z1n r p=false)∨∃ j,∃ (hj:j<r.length),z0j r p=(j:Int)∧r[j].p=p:=by
 rcases zn1 p r 0 with h|⟨j,hj,h1,h2⟩
 ·exact .inl h
 ·exact .inr ⟨j,hj,by unfold z0j;rw [h1];simp,h2⟩
theorem z037 {r:List Coin} (h:z24 r) (k:Nat):z24 (r.take k++r.drop (k+1)):=by
 have:(r.take k++r.drop (k+1))=r.eraseIdx k:=(List.eraseIdx_eq_take_drop_succ r k).symm;rw [this];exact h.sublist (List.eraseIdx_sublist r k)
theorem zkn {r:List Coin} {c:Coin} (h:z24 r) (hc:z1n r c.p=false):z24 (r++[c]):=by
 unfold z24 at *;rw [zY2k];refine ⟨h,List.pairwise_singleton _ _,fun a ha b hb=>?_⟩;rw [zY19.1 hb];intro e;unfold z1n at hc;rw [zY3k] at hc;exact hc a ha (by simpa using e)
def z0kr (nm:Int) (K:List Coin→List Coin × Int):List Coin→Nat→List Out→List Coin × Int
 | r,_,[]=>K r
 | r,i,o::os=>if z0j r ⟨nm,i⟩<0 then zcs 7 else if decide ((z25 r (z0j r ⟨nm,i⟩)).o=o)=true then z0kr nm K (r.take (z0j r ⟨nm,i⟩).toNat++r.drop (z0j r ⟨nm,i⟩+1).toNat) (i+1) os else zcs 7
def z0ks (ins:List In):List Coin→Nat→List Coin→List Coin × Int
 | r,_,[]=>endR (z0o r)
 | r,i,c::cs=>if z0j r c.p ≥ 0 then zcs 6 else if c.p≠((ins[i]?).getD ⟨⟨0,0⟩,[]⟩).p then zcs 6 else z0ks ins (r++[c]) (i+1) cs
def zrt (l:List Coin) (t:Tx) (nm:Int) (u:List Coin):List Coin × Int :=
 if (u.length:Int)≠t.ins.length then zcs 4 else z0kr nm (fun r=>z0ks t.ins r 0 u) l 0 t.outs
attribute [local irreducible] z00 spD z1e zb zf z7 z0o
attribute [local irreducible] den denX z0f z0k
noncomputable def z038:z9:=spD (fun x:List Coin × Tx × Int × List Coin=>z24 x.1∧x.1.length≤1000∧x.2.1.ins.length≤1000∧x.2.1.outs.length≤1000) fun x=>zrt x.1 x.2.1 x.2.2.1 x.2.2.2
attribute [local irreducible] z5s z99 z1h z8p z49 z7s
end
section
open Go.RowKit
theorem z0my {r:List Coin} {i:Nat} {c:Coin} (h:r[i]? = some c):(r.take i++c::r.drop (i+1))=r:=by
 obtain ⟨hi,rfl⟩:=zY02.1 h;rw [← zY14 hi,zY0v]
theorem z039 {r:List Coin} {i:Nat} {c:Coin} (h:r[i]? = some c):(c::(r.take i++r.drop (i+1))).Perm r:=by
 have hp:=(List.perm_middle (a:=c) (l₁:=r.take i) (l₂:=r.drop (i+1))).symm;rw [z0my h] at hp;exact hp
theorem zn2 {r:List Coin} (h:z24 r) {p:Point}:(z0j r p<0∧z1n (z0o r) p=false) ∨
  ∃ c,0≤z0j r p∧z1n (z0o r) p=true∧c ∈ r∧c.p=p∧z25 r (z0j r p)=c∧((z0o r)[zo (z0o r) p]?).getD z5x=c∧(z0o r)[zo (z0o r) p]? = some c∧z24 (r.take (z0j r p).toNat++r.drop (z0j r p+1).toNat)∧(r.take (z0j r p).toNat++r.drop (z0j r p+1).toNat).length≤r.length ∧
   (z0o r).take (zo (z0o r) p)++(z0o r).drop (zo (z0o r) p+1)=z0o (r.take (z0j r p).toNat++r.drop (z0j r p+1).toNat):=by
 rcases z88 r p with ⟨h1,h2⟩|⟨j,hj,h1,h2⟩
 ·exact .inl ⟨by omega,(zdf (z2v r) p).trans h2⟩
 ·refine .inr ⟨r[j],?_⟩
  have hs:=z4l h;have hm:r[j] ∈ r:=zY1l hj;have hm':r[j] ∈ z0o r:=(z2v r).mem_iff.2 hm;have hp:=z025 hs hm';have e1:((j:Int)).toNat=j:=by omega
  have e2:((j:Int)+1).toNat=j+1:=by omega
  have hc:r[j]? = some r[j]:=zY03 hj;have hd:=z037 h j;rw [h2] at hp;rw [h1,e1,e2];refine ⟨by omega,hasP_mem.2 ⟨_,hm',h2⟩,hm,h2,?_,?_,hp,hd,?_,?_⟩
  ·unfold z25;rw [e1,hc];rfl
  ·rw [hp];rfl
  ·simp only [zY06,zY0b,zY0y];omega
  ·refine zae (List.Perm.cons_inv (a:=r[j]) ?_) (z98 hs _) (z4l hd)
   exact (z039 hp).trans ((z2v r).trans ((z039 hc).symm.trans ((z2v _).symm.cons _)))
theorem z0k0 {r:List Coin} (h:z24 r) {c:Coin} (hc:z1n r c.p=false):z24 (r++[c])∧(z0o r).take (zo (z0o r) c.p)++[c]++(z0o r).drop (zo (z0o r) c.p)=z0o (r++[c]):=by
 have hd:=zkn h hc;refine ⟨hd,zae ?_ (z7m (z4l h) ((zdf (z2v r) _).trans hc)) (z4l hd)⟩;rw [zY1b,zY31];refine List.perm_middle.trans ?_;rw [zY0v];exact ((z2v r).cons c).trans ((List.perm_append_singleton c r).symm.trans (z2v _).symm)
theorem z0k1 {r:List Coin} (h:z06 r):z0o r=r:=zae (z2v r) (z4l (zaf h)) h
end
section
open Go.RowKit
theorem z0gx {l seen:List In} (h:z13 l seen=0):∀ x ∈ l,z7 x.key=0:=by
 induction l generalizing seen with
 | nil=>intro x hx;cases hx
 | cons y l ih =>
  rw [z13] at h
  by_cases hb:z2k y≠0
  ·rw [if_pos hb] at h;exact absurd h hb
  ·rw [if_neg hb] at h
   by_cases hi:0≤z44 seen y.p 0
   ·rw [if_pos hi] at h;cases h
   ·rw [if_neg hi] at h
    intro x hx;rcases zY0i.1 hx with rfl|hx
    ·have hb':z2k x=0:=zY0s.1 hb
     unfold z2k at hb'
     split at hb'
     ·cases hb'
     ·exact hb'
    ·exact ih h x hx
section
variable {ρ:Type}
def z67 (h:Int) (bad:Int→ρ) (K:List Coin→List Coin→ρ):List Coin→List Coin→List In→ρ
 | r,s,[]=>K r s
 | r,s,x::xs=>if z0j r x.p<0 then bad 7 else
   if (z25 r (z0j r x.p)).reward=true then
    if (z25 r (z0j r x.p)).height+2 > h then bad 10
    else if (z1z (z25 r (z0j r x.p)).o.lock x.key h).1=true then z67 h bad K (r.take (z0j r x.p).toNat++r.drop (z0j r x.p+1).toNat) (s++[z25 r (z0j r x.p)]) xs else bad 8
   else if (z1z (z25 r (z0j r x.p)).o.lock x.key h).1=true then z67 h bad K (r.take (z0j r x.p).toNat++r.drop (z0j r x.p+1).toNat) (s++[z25 r (z0j r x.p)]) xs else bad 8
def z54 (nm h:Int) (rw:Bool) (bad:Int→ρ) (K:List Coin→ρ):List Coin→Nat→List Out→ρ
 | r,_,[]=>K r
 | r,i,o::os=>if z0j r ⟨nm,i⟩ ≥ 0 then bad 6 else z54 nm h rw bad K (r++[⟨⟨nm,i⟩,o,h,rw⟩]) (i+1) os
theorem zfw (h:Int) (bad:Int→ρ) {K K':List Coin→List Coin→ρ} (hK:∀ r s,z24 r→K r s=K' (z0o r) s):∀ (xs:List In) (r s:List Coin),z24 r→z67 h bad K r s xs=z2x h bad K' (z0o r) s xs
 | [],r,s,hd=>by rw [z67,z2x,hK r s hd]
 | x::xs,r,s,hd=>by
  rw [z67,z2x];rcases zn2 hd (p:=x.p) with ⟨h1,h2⟩|⟨d,h1,h2,h3,h4,h5,h6,_,h7,_,h8⟩
  ·rw [if_pos h1,if_neg (by rw [h2];decide)]
  ·have hn:¬ z0j r x.p<0:=by omega
   rw [if_neg hn,if_pos h2,h5,h6,h8,zfw h bad hK xs _ _ h7]
theorem zfx (nm h:Int) (rw_:Bool) (bad:Int→ρ) {K K':List Coin→ρ} (hK:∀ r,z24 r→K r=K' (z0o r)):∀ (os:List Out) (r:List Coin) (k:Nat),z24 r→z54 nm h rw_ bad K r k os=z2r nm h rw_ bad K' (z0o r) k os
 | [],r,k,hd=>by rw [z54,z2r,hK r hd]
 | o::os,r,k,hd=>by
  rw [z54,z2r];rcases zn2 hd (p:=⟨nm,k⟩) with ⟨h1,h2⟩|⟨d,h1,h2,_⟩
  ·have hn:¬ z0j r ⟨nm,k⟩ ≥ 0:=by omega
   obtain ⟨hd',he⟩:=z0k0 hd (c:=⟨⟨nm,k⟩,o,h,rw_⟩) ((zdf (z2v r) _).symm.trans h2);simp only at he;rw [if_neg hn,if_neg (by rw [h2];decide),he,zfx nm h rw_ bad hK os _ _ hd']
  ·rw [if_pos h1,if_pos h2]
end
def z4m (l:List Coin) (t:Tx) (nm h:Int):List Coin × List Coin × Int :=
 if nm<1 then z1d 3 else if nm > 120 then z1d 3 else if h<1 then z1d 3 else if h > 1000 then z1d 3 else
 if (t.ins.length:Int)=0 then
  if t.height≠h then z1d 4 else z67 h z1d (fun r s=>z54 nm h (decide ((t.ins.length:Int)=0)) z1d (fun r=>z4p s (z0o r)) r 0 t.outs) l [] t.ins
 else z67 h z1d (fun r s=>if z16 t s<0 then z1d 9 else z54 nm h (decide ((t.ins.length:Int)=0)) z1d (fun r=>z4p s (z0o r)) r 0 t.outs) l [] t.ins
theorem zn3 {l:List Coin} {t:Tx} {nm h:Int} (hl:zb l=0) (ht:zf t=0):z4m l t nm h=zp l t nm h:=by
 have ok:=(z1r l).1 hl;unfold z4m zp;rw [if_neg (show ¬ zb l≠0 by rw [hl];decide),if_neg (show ¬ zf t≠0 by rw [ht];decide)]
 by_cases a1:nm<1
 ·rw [if_pos a1,if_pos (show nm<1∨120<nm∨h<1∨1000<h by omega)]
 rw [if_neg a1]
 by_cases a2:nm > 120
 ·rw [if_pos a2,if_pos (show nm<1∨120<nm∨h<1∨1000<h by omega)]
 rw [if_neg a2]
 by_cases a3:h<1
 ·rw [if_pos a3,if_pos (show nm<1∨120<nm∨h<1∨1000<h by omega)]
 rw [if_neg a3]
 by_cases a4:h > 1000
 ·rw [if_pos a4,if_pos (show nm<1∨120<nm∨h<1∨1000<h by omega)]
 rw [if_neg a4,if_neg (show ¬ (nm<1∨120<nm∨h<1∨1000<h) by omega)];have hs:=z0k1 ok.sorted;have hd:=zaf ok.sorted
 by_cases e:(t.ins.length:Int)=0
 ·rw [if_pos e,if_pos e]
  by_cases e2:t.height≠h
  ·rw [if_pos e2,if_pos e2]
  ·rw [if_neg e2,if_neg e2,zfw h z1d (K':=fun r s=>z2r nm h (decide ((t.ins.length:Int)=0)) z1d (z4p s) r 0 t.outs) (fun r s hr=>zfx nm h _ z1d (fun r _=>rfl) t.outs r 0 hr) t.ins l [] hd,hs]
 ·rw [if_neg e,if_neg e,zfw h z1d (K':=fun r s=>if z16 t s<0 then z1d 9 else z2r nm h (decide ((t.ins.length:Int)=0)) z1d (z4p s) r 0 t.outs) (fun r s hr=>by
   by_cases f:z16 t s<0
   ·rw [if_pos f,if_pos f]
   ·rw [if_neg f,if_neg f];exact zfx nm h _ z1d (fun r _=>rfl) t.outs r 0 hr) t.ins l [] hd,hs]
end
section
open Go.RowKit
open Go.Lib (itoa)
set_option maxRecDepth 100000
set_option maxHeartbeats 4000000
theorem z098 {l:List Coin} {t:Tx} {nm h:Int} (h0:(zp l t nm h).2.2=0):zb (zp l t nm h).1=0:=(z1r _).2 (zfq h0).choose_spec.end_
def idxL (i n:Nat):List Int:=(List.range' i n).map fun j:Nat=>(j:Int)
def z0kt:Nat→List Int
 | 0=>[]
 | i+1=>((i:Int)+1)::z0kt i
end
section
open Go.RowKit
set_option maxRecDepth 100000
set_option maxHeartbeats 8000000
attribute [local irreducible] z00 spD z1e
def zdt (r:Option (List Int)):List Int × Bool:=match r with
 | none=>([],false)
 | some s=>(s,true)
noncomputable def z62:z9:=spD (fun _:Int=>True) fun n=>decide (-1000000≤n∧n≤1000000)
theorem z0n (n:Int):z62 [I n]=some [.b (decide (-1000000≤n∧n≤1000000))]:=zg (f:=fun n:Int=>decide (-1000000≤n∧n≤1000000)) n trivial
def zp2:T :=
 .lets [.bin .geq 0 (.c (.i .i64 (-1000000)))] [] (.ite 1 (.lets [.bin .leq 0 (zI 1000000)] [] (.ret [2])) (.ret [.c (.b false)]))
def z099:T :=
 .ite 53 (.ret [.c (.nil 1),.c (.b false)]) (.lets [.mk 1 [[49]]] [] (.lets [.app 1 46 54] [] (.lets [.bin .add 47 (zI 1)] [] (.again 1 [44,.v
 45,55,56]))))
def z09a:T :=
 .lets [.bin .geq 50 (zI 16)] [] (.ite 51 (.ret [.c (.nil 1),.c (.b false)]) (.lets [.call 42 [49] 0] [] (.lets [.not 52] [] z099)))
def z83:T :=
 .ite 48 (.lets [] [.inr 1 42 47] (.lets [.idx 42 47 0] [] (.lets [.len 46] [] z09a))) (.lets [.bin .add 20 (zI 1)] [] (.again 0
 [44,45,46,49]))
def z09b:T :=
 .ite 54 (.ret [.c (.nil 1),.c (.b false)]) (.lets [.mk 1 [[50]]] [] (.lets [.app 1 47 55] [] (.lets [.bin .add 48 (zI 1)] [] (.again 1 [45,.v
 46,56,57]))))
def zjf:T :=
 .lets [.bin .geq 51 (zI 16)] [] (.ite 52 (.ret [.c (.nil 1),.c (.b false)]) (.lets [.call 42 [50] 0] [] (.lets [.not 53] [] z09b)))
def z84:T :=
 .ite 49 (.lets [] [.inr 1 43 48] (.lets [.idx 43 48 0] [] (.lets [.len 47] [] zjf))) (.lets [.bin .add 20 (zI 1)] [] (.again 0
 [45,46,47,50]))
def z09c:T :=
 .ite 55 (.ret [.c (.nil 1),.c (.b false)]) (.lets [.mk 1 [[51]]] [] (.lets [.app 1 48 56] [] (.lets [.bin .add 49 (zI 1)] [] (.again 1 [46,.v
 47,57,58]))))
def z09d:T :=
 .lets [.bin .geq 52 (zI 16)] [] (.ite 53 (.ret [.c (.nil 1),.c (.b false)]) (.lets [.call 42 [51] 0] [] (.lets [.not 54] [] z09c)))
def zjg:T :=
 .ite 50 (.lets [] [.inr 1 44 49] (.lets [.idx 44 49 0] [] (.lets [.len 48] [] z09d))) (.lets [.bin .add 20 (zI 1)] [] (.again 0
 [46,47,48,51]))
def z09e:T :=
 .ite 57 (.ret [.c (.nil 1),.c (.b false)]) (.lets [.mk 1 [[53]]] [] (.lets [.app 1 50 58] [] (.lets [.bin .add 51 (zI 1)] [] (.again 1 [48,.v
 49,59,60]))))
def zhy:T :=
 .lets [.bin .geq 54 (zI 16)] [] (.ite 55 (.ret [.c (.nil 1),.c (.b false)]) (.lets [.call 42 [53] 0] [] (.lets [.not 56] [] z09e)))
def z9c:T :=
 .ite 52 (.lets [] [.inr 1 46 51] (.lets [.idx 46 51 0] [] (.lets [.len 50] [] zhy))) (.lets [.bin .add 20 (zI 1)] [] (.again 0
 [48,49,50,53]))
def z03a:T :=
 .lets [.bin .add 34 37] [] (.lets [.mk 1 [[45]]] [] (.lets [.len 46] [] (.loop [17,18,40,zI 0] (.lets [.bin .lss 51 47] []
 z9c))))
def z03b:T :=
 .ite 58 (.ret [.c (.nil 1),.c (.b false)]) (.lets [.mk 1 [[54]]] [] (.lets [.app 1 51 59] [] (.lets [.bin .add 52 (zI 1)] [] (.again 1 [49,.v
 50,60,61]))))
def z03c:T :=
 .lets [.bin .geq 55 (zI 16)] [] (.ite 56 (.ret [.c (.nil 1),.c (.b false)]) (.lets [.call 42 [54] 0] [] (.lets [.not 57] [] z03b)))
def z03d:T :=
 .ite 53 (.lets [] [.inr 1 47 52] (.lets [.idx 47 52 0] [] (.lets [.len 51] [] z03c))) (.lets [.bin .add 20 (zI 1)] [] (.again 0
 [49,50,51,54]))
def z03e:T :=
 .lets [.bin .sub 34 37] [] (.lets [.mk 1 [[46]]] [] (.lets [.len 47] [] (.loop [17,18,40,zI 0] (.lets [.bin .lss 52 48] []
 z03d))))
def z03f:T :=
 .ite 59 (.ret [.c (.nil 1),.c (.b false)]) (.lets [.mk 1 [[55]]] [] (.lets [.app 1 52 60] [] (.lets [.bin .add 53 (zI 1)] [] (.again 1 [50,.v
 51,61,62]))))
def zhz:T :=
 .lets [.bin .geq 56 (zI 16)] [] (.ite 57 (.ret [.c (.nil 1),.c (.b false)]) (.lets [.call 42 [55] 0] [] (.lets [.not 58] [] z03f)))
def z9d:T :=
 .ite 54 (.lets [] [.inr 1 48 53] (.lets [.idx 48 53 0] [] (.lets [.len 52] [] zhz))) (.lets [.bin .add 20 (zI 1)] [] (.again 0
 [50,51,52,55]))
def z03g:T :=
 .ite 47 (.lets [.mk 1 [[zI 1]]] [] (.lets [.len 48] [] (.loop [17,18,40,zI 0] (.lets [.bin .lss 53 49] [] z9d)))) (.lets
 [.mk 1 [[zI 0]]] [] (.lets [.len 48] [] (.loop [17,18,40,zI 0] (.lets [.bin .lss 53 49] [] z9d))))
def z03h:T :=
 .ite 60 (.ret [.c (.nil 1),.c (.b false)]) (.lets [.mk 1 [[56]]] [] (.lets [.app 1 53 61] [] (.lets [.bin .add 54 (zI 1)] [] (.again 1 [51,.v
 52,62,63]))))
def zi0:T :=
 .lets [.bin .geq 57 (zI 16)] [] (.ite 58 (.ret [.c (.nil 1),.c (.b false)]) (.lets [.call 42 [56] 0] [] (.lets [.not 59] [] z03h)))
def zcx:T :=
 .ite 55 (.lets [] [.inr 1 49 54] (.lets [.idx 49 54 0] [] (.lets [.len 53] [] zi0))) (.lets [.bin .add 20 (zI 1)] [] (.again 0
 [51,52,53,56]))
def z03i:T :=
 .ite 48 (.lets [.mk 1 [[zI 1]]] [] (.lets [.len 49] [] (.loop [17,18,40,zI 0] (.lets [.bin .lss 54 50] [] zcx)))) (.lets
 [.mk 1 [[zI 0]]] [] (.lets [.len 49] [] (.loop [17,18,40,zI 0] (.lets [.bin .lss 54 50] [] zcx))))
def z03j:T :=
 .ite 62 (.ret [.c (.nil 1),.c (.b false)]) (.lets [.mk 1 [[58]]] [] (.lets [.app 1 55 63] [] (.lets [.bin .add 56 (zI 1)] [] (.again 1 [53,.v
 54,64,65]))))
def zi1:T :=
 .lets [.bin .geq 59 (zI 16)] [] (.ite 60 (.ret [.c (.nil 1),.c (.b false)]) (.lets [.call 42 [58] 0] [] (.lets [.not 61] [] z03j)))
def zi2:T :=
 .ite 57 (.lets [] [.inr 1 51 56] (.lets [.idx 51 56 0] [] (.lets [.len 55] [] zi1))) (.lets [.bin .add 20 (zI 1)] [] (.again 0
 [53,54,55,58]))
def zi3:T :=
 .ite 50 (.lets [.mk 1 [[zI 1]]] [] (.lets [.len 51] [] (.loop [17,18,40,zI 0] (.lets [.bin .lss 56 52] [] zi2)))) (.lets
 [.mk 1 [[zI 0]]] [] (.lets [.len 51] [] (.loop [17,18,40,zI 0] (.lets [.bin .lss 56 52] [] zi2))))
def z03k:T :=
 .ite 57 (.lets [] [.inr 1 (.c (.nil 1)) 56] (.lets [.idx (.c (.nil 1)) 56 0] [] (.lets [.len 55] [] zi1))) (.lets [.bin .add 20 (zI 1)]
 [] (.again 0 [53,54,55,58]))
def z03l:T :=
 .ite 51 (.ret [.c (.nil 1),.c (.b false)]) (.lets [.len (.c (.nil 1))] [] (.loop [17,18,40,zI 0] (.lets [.bin .lss 56 52] [] z03k)))
def z03m:T :=
 .ite 63 (.ret [.c (.nil 1),.c (.b false)]) (.lets [.mk 1 [[59]]] [] (.lets [.app 1 56 64] [] (.lets [.bin .add 57 (zI 1)] [] (.again 1 [54,.v
 55,65,66]))))
def zi4:T :=
 .lets [.bin .geq 60 (zI 16)] [] (.ite 61 (.ret [.c (.nil 1),.c (.b false)]) (.lets [.call 42 [59] 0] [] (.lets [.not 62] [] z03m)))
def z03n:T :=
 .ite 58 (.lets [] [.inr 1 52 57] (.lets [.idx 52 57 0] [] (.lets [.len 56] [] zi4))) (.lets [.bin .add 20 (zI 1)] [] (.again 0
 [54,55,56,59]))
def z03o:T :=
 .lets [.bin .add 57 (zI 104729)] [] (.lets [.bin .rem 58 (zI 1000003)] [] (.lets [.bin .add 55 (zI 1)] [] (.again 1 [59,60])))
def z03p:T :=
 .ite 69 (.ret [.c (.nil 1),.c (.b false)]) (.lets [.mk 1 [[65]]] [] (.lets [.app 1 62 70] [] (.lets [.bin .add 63 (zI 1)] [] (.again 2 [60,.v
 61,71,72]))))
def z03q:T :=
 .lets [.bin .geq 66 (zI 16)] [] (.ite 67 (.ret [.c (.nil 1),.c (.b false)]) (.lets [.call 42 [65] 0] [] (.lets [.not 68] [] z03p)))
def z03r:T :=
 .ite 64 (.lets [] [.inr 1 58 63] (.lets [.idx 58 63 0] [] (.lets [.len 62] [] z03q))) (.lets [.bin .add 20 (zI 1)] [] (.again 0
 [60,61,62,65]))
def z03s:T :=
 .lets [.bin .rem 54 (zI 1000001)] [] (.lets [.mk 1 [[57]]] [] (.lets [.len 58] [] (.loop [17,18,40,zI 0] (.lets [.bin .lss 63 (.v
 59)] [] z03r))))
def z03t:T :=
 .loop [53,zI 0] (.lets [.bin .lss 55 (zI 3)] [] (.ite 56 (.lets [.bin .mul 54 (zI 7919)] [] z03o) z03s))
def z03u:T :=
 .ite 58 (.lets [] [.inr 1 (.c (.nil 1)) 57] (.lets [.idx (.c (.nil 1)) 57 0] [] (.lets [.len 56] [] zi4))) (.lets [.bin .add 20 (zI 1)]
 [] (.again 0 [54,55,56,59]))
def z03v:T :=
 .ite 52 (.lets [.bin .add 34 (zI 1000000)] [] z03t) (.lets [.len (.c (.nil 1))] [] (.loop [17,18,40,zI 0] (.lets [.bin .lss 57
 53] [] z03u)))
def z03w:T :=
 .ite 51 (.lets [.mk 1 [[2]]] [] (.lets [.len 52] [] (.loop [17,18,40,zI 0] (.lets [.bin .lss 57 53] [] z03n)))) (.lets [.bin
 .eql 22 (zI 13)] [] z03v)
def z03x:T :=
 .lets [.bin .eql 22 (zI 11)] [] (.ite 50 (.lets [.bin .eql 34 (zI 0)] [] z03l) (.lets [.bin .eql 22 (zI 12)] []
 z03w))
def z03y:T :=
 .ite 48 (.lets [.bin .mul 34 37] [] (.lets [.bin .neq 49 (zI 0)] [] zi3)) (.lets [.bin .eql 22 (zI 9)] [] (.ite 49 (.lets
 [.bin .eql 34 (zI 0)] [] zi3) z03x))
def z03z:T :=
 .lets [.bin .eql 22 (zI 8)] [] (.ite 47 (.lets [.bin .lss 34 37] [] z03i) (.lets [.bin .eql 22 (zI 10)] [] z03y))
def z040:T :=
 .lets [.bin .eql 22 (zI 6)] [] (.ite 45 z03e (.lets [.bin .eql 22 (zI 7)] [] (.ite 46 (.lets [.bin .eql 34 37] []
 z03g) z03z)))
def z041:T :=
 .ite 43 (.lets [.mk 1 [[37],[34]]] [] (.lets [.len 44] [] (.loop [17,18,40,zI 0] (.lets [.bin .lss 49 45] [] zjg)))) (.lets
 [.bin .eql 22 (zI 5)] [] (.ite 44 z03a z040))
def z042:T :=
 .ite 42 (.lets [.mk 1 [[34],[34]]] [] (.lets [.len 43] [] (.loop [17,18,40,zI 0] (.lets [.bin .lss 48 44] [] z84)))) (.lets
 [.bin .eql 22 (zI 3)] [] z041)
def z043:T :=
 .ite 41 (.lets [.mk 1 [[23]]] [] (.lets [.len 42] [] (.loop [17,18,40,zI 0] (.lets [.bin .lss 47 43] [] z83)))) (.lets [.bin
 .eql 22 (zI 2)] [] z042)
def z044:T :=
 .lets [.len 19] [] (.lets [.bin .sub 38 24] [] (.lets [.sub 1 19 none (some 39)] [] (.lets [.bin .eql 22 (zI 1)] [] z043)))
def z045:T :=
 .lets [.idx 19 33 0] [] (.lets [.len 19] [] (.lets [.bin .sub 35 (zI 1)] [] (.lets [] [.inr 1 19 36] (.lets [.idx 19 36 0] []
 z044))))
def z046:T :=
 .ite 47 (.ret [.c (.nil 1),.c (.b false)]) (.lets [.mk 1 [[43]]] [] (.lets [.app 1 40 48] [] (.lets [.bin .add 41 (zI 1)] [] (.again 1 [38,.v
 39,49,50]))))
def z047:T :=
 .lets [.bin .geq 44 (zI 16)] [] (.ite 45 (.ret [.c (.nil 1),.c (.b false)]) (.lets [.call 42 [43] 0] [] (.lets [.not 46] [] z046)))
def z048:T :=
 .ite 42 (.lets [] [.inr 1 36 41] (.lets [.idx 36 41 0] [] (.lets [.len 40] [] z047))) (.lets [.bin .add 20 (zI 1)] [] (.again 0
 [38,39,40,43]))
def z049:T :=
 .ite 48 (.ret [.c (.nil 1),.c (.b false)]) (.lets [.mk 1 [[44]]] [] (.lets [.app 1 41 49] [] (.lets [.bin .add 42 (zI 1)] [] (.again 1 [39,.v
 40,50,51]))))
def z04a:T :=
 .lets [.bin .geq 45 (zI 16)] [] (.ite 46 (.ret [.c (.nil 1),.c (.b false)]) (.lets [.call 42 [44] 0] [] (.lets [.not 47] [] z049)))
def zi5:T :=
 .ite 43 (.lets [] [.inr 1 37 42] (.lets [.idx 37 42 0] [] (.lets [.len 41] [] z04a))) (.lets [.bin .add 20 (zI 1)] [] (.again 0
 [39,40,41,44]))
def z04b:T :=
 .ite 49 (.ret [.c (.nil 1),.c (.b false)]) (.lets [.mk 1 [[45]]] [] (.lets [.app 1 42 50] [] (.lets [.bin .add 43 (zI 1)] [] (.again 1 [40,.v
 41,51,52]))))
def z04c:T :=
 .lets [.bin .geq 46 (zI 16)] [] (.ite 47 (.ret [.c (.nil 1),.c (.b false)]) (.lets [.call 42 [45] 0] [] (.lets [.not 48] [] z04b)))
def zcy:T :=
 .ite 44 (.lets [] [.inr 1 38 43] (.lets [.idx 38 43 0] [] (.lets [.len 42] [] z04c))) (.lets [.bin .add 20 (zI 1)] [] (.again 0
 [40,41,42,45]))
def z04d:T :=
 .lets [.mk 1 [[zI 0],[30]]] [] (.lets [.len 38] [] (.loop [17,18,34,zI 0] (.lets [.bin .lss 43 39] [] zcy)))
def z04e:T :=
 .ite 51 (.ret [.c (.nil 1),.c (.b false)]) (.lets [.mk 1 [[47]]] [] (.lets [.app 1 44 52] [] (.lets [.bin .add 45 (zI 1)] [] (.again 1 [42,.v
 43,53,54]))))
def z04f:T :=
 .lets [.bin .geq 48 (zI 16)] [] (.ite 49 (.ret [.c (.nil 1),.c (.b false)]) (.lets [.call 42 [47] 0] [] (.lets [.not 50] [] z04e)))
def z9e:T :=
 .ite 46 (.lets [] [.inr 1 40 45] (.lets [.idx 40 45 0] [] (.lets [.len 44] [] z04f))) (.lets [.bin .add 20 (zI 1)] [] (.again 0
 [42,43,44,47]))
def z04g:T :=
 .lets [.bin .add 30 (zI 0)] [] (.lets [.mk 1 [[39]]] [] (.lets [.len 40] [] (.loop [17,18,34,zI 0] (.lets [.bin .lss 45 41] []
 z9e))))
def z04h:T :=
 .ite 52 (.ret [.c (.nil 1),.c (.b false)]) (.lets [.mk 1 [[48]]] [] (.lets [.app 1 45 53] [] (.lets [.bin .add 46 (zI 1)] [] (.again 1 [43,.v
 44,54,55]))))
def z04i:T :=
 .lets [.bin .geq 49 (zI 16)] [] (.ite 50 (.ret [.c (.nil 1),.c (.b false)]) (.lets [.call 42 [48] 0] [] (.lets [.not 51] [] z04h)))
def zcz:T :=
 .ite 47 (.lets [] [.inr 1 41 46] (.lets [.idx 41 46 0] [] (.lets [.len 45] [] z04i))) (.lets [.bin .add 20 (zI 1)] [] (.again 0
 [43,44,45,48]))
def z04j:T :=
 .lets [.bin .sub 30 (zI 0)] [] (.lets [.mk 1 [[40]]] [] (.lets [.len 41] [] (.loop [17,18,34,zI 0] (.lets [.bin .lss 46 42] []
 zcz))))
def z04k:T :=
 .ite 41 (.lets [.mk 1 [[zI 1]]] [] (.lets [.len 42] [] (.loop [17,18,34,zI 0] (.lets [.bin .lss 47 43] [] z83)))) (.lets
 [.mk 1 [[zI 0]]] [] (.lets [.len 42] [] (.loop [17,18,34,zI 0] (.lets [.bin .lss 47 43] [] z83))))
def z04l:T :=
 .ite 42 (.lets [.mk 1 [[zI 1]]] [] (.lets [.len 43] [] (.loop [17,18,34,zI 0] (.lets [.bin .lss 48 44] [] z84)))) (.lets
 [.mk 1 [[zI 0]]] [] (.lets [.len 43] [] (.loop [17,18,34,zI 0] (.lets [.bin .lss 48 44] [] z84))))
def z04m:T :=
 .ite 56 (.ret [.c (.nil 1),.c (.b false)]) (.lets [.mk 1 [[52]]] [] (.lets [.app 1 49 57] [] (.lets [.bin .add 50 (zI 1)] [] (.again 1 [47,.v
 48,58,59]))))
def zi6:T :=
 .lets [.bin .geq 53 (zI 16)] [] (.ite 54 (.ret [.c (.nil 1),.c (.b false)]) (.lets [.call 42 [52] 0] [] (.lets [.not 55] [] z04m)))
def z9f:T :=
 .ite 51 (.lets [] [.inr 1 45 50] (.lets [.idx 45 50 0] [] (.lets [.len 49] [] zi6))) (.lets [.bin .add 20 (zI 1)] [] (.again 0
 [47,48,49,52]))
def zi7:T :=
 .ite 44 (.lets [.mk 1 [[zI 1]]] [] (.lets [.len 45] [] (.loop [17,18,34,zI 0] (.lets [.bin .lss 50 46] [] z9f)))) (.lets
 [.mk 1 [[zI 0]]] [] (.lets [.len 45] [] (.loop [17,18,34,zI 0] (.lets [.bin .lss 50 46] [] z9f))))
def z04n:T :=
 .ite 51 (.lets [] [.inr 1 (.c (.nil 1)) 50] (.lets [.idx (.c (.nil 1)) 50 0] [] (.lets [.len 49] [] zi6))) (.lets [.bin .add 20 (zI 1)]
 [] (.again 0 [47,48,49,52]))
def z04o:T :=
 .ite 45 (.ret [.c (.nil 1),.c (.b false)]) (.lets [.len (.c (.nil 1))] [] (.loop [17,18,34,zI 0] (.lets [.bin .lss 50 46] [] z04n)))
def z04p:T :=
 .lets [.bin .add 51 (zI 104729)] [] (.lets [.bin .rem 52 (zI 1000003)] [] (.lets [.bin .add 49 (zI 1)] [] (.again 1 [53,54])))
def z04q:T :=
 .ite 63 (.ret [.c (.nil 1),.c (.b false)]) (.lets [.mk 1 [[59]]] [] (.lets [.app 1 56 64] [] (.lets [.bin .add 57 (zI 1)] [] (.again 2 [54,.v
 55,65,66]))))
def z04r:T :=
 .lets [.bin .geq 60 (zI 16)] [] (.ite 61 (.ret [.c (.nil 1),.c (.b false)]) (.lets [.call 42 [59] 0] [] (.lets [.not 62] [] z04q)))
def z04s:T :=
 .ite 58 (.lets [] [.inr 1 52 57] (.lets [.idx 52 57 0] [] (.lets [.len 56] [] z04r))) (.lets [.bin .add 20 (zI 1)] [] (.again 0
 [54,55,56,59]))
def z04t:T :=
 .lets [.bin .rem 48 (zI 1000001)] [] (.lets [.mk 1 [[51]]] [] (.lets [.len 52] [] (.loop [17,18,34,zI 0] (.lets [.bin .lss 57 (.v
 53)] [] z04s))))
def z04u:T :=
 .loop [47,zI 0] (.lets [.bin .lss 49 (zI 3)] [] (.ite 50 (.lets [.bin .mul 48 (zI 7919)] [] z04p) z04t))
def z04v:T :=
 .ite 52 (.lets [] [.inr 1 (.c (.nil 1)) 51] (.lets [.idx (.c (.nil 1)) 51 0] [] (.lets [.len 50] [] zhy))) (.lets [.bin .add 20 (zI 1)]
 [] (.again 0 [48,49,50,53]))
def z04w:T :=
 .ite 46 (.lets [.bin .add 30 (zI 1000000)] [] z04u) (.lets [.len (.c (.nil 1))] [] (.loop [17,18,34,zI 0] (.lets [.bin .lss 51
 47] [] z04v)))
def z04x:T :=
 .ite 45 (.lets [.mk 1 [[2]]] [] (.lets [.len 46] [] (.loop [17,18,34,zI 0] (.lets [.bin .lss 51 47] [] z9c)))) (.lets [.bin
 .eql 22 (zI 13)] [] z04w)
def z04y:T :=
 .lets [.bin .eql 22 (zI 11)] [] (.ite 44 (.lets [.bin .eql 30 (zI 0)] [] z04o) (.lets [.bin .eql 22 (zI 12)] []
 z04x))
def z04z:T :=
 .ite 42 (.lets [.bin .mul 30 (zI 0)] [] (.lets [.bin .neq 43 (zI 0)] [] zi7)) (.lets [.bin .eql 22 (zI 9)] [] (.ite (.v
 43) (.lets [.bin .eql 30 (zI 0)] [] zi7) z04y))
def z050:T :=
 .lets [.bin .eql 22 (zI 8)] [] (.ite 41 (.lets [.bin .lss 30 (zI 0)] [] z04l) (.lets [.bin .eql 22 (zI 10)] []
 z04z))
def z051:T :=
 .ite 39 z04j (.lets [.bin .eql 22 (zI 7)] [] (.ite 40 (.lets [.bin .eql 30 (zI 0)] [] z04k) z050))
def z052:T :=
 .ite 37 z04d (.lets [.bin .eql 22 (zI 5)] [] (.ite 38 z04g (.lets [.bin .eql 22 (zI 6)] [] z051)))
def z053:T :=
 .ite 36 (.lets [.mk 1 [[30],[30]]] [] (.lets [.len 37] [] (.loop [17,18,34,zI 0] (.lets [.bin .lss 42 38] [] zi5)))) (.lets
 [.bin .eql 22 (zI 3)] [] z052)
def z054:T :=
 .ite 35 (.lets [.mk 1 [[23]]] [] (.lets [.len 36] [] (.loop [17,18,34,zI 0] (.lets [.bin .lss 41 37] [] z048)))) (.lets [.bin
 .eql 22 (zI 2)] [] z053)
def z055:T :=
 .lets [.len 19] [] (.lets [.bin .sub 32 24] [] (.lets [.sub 1 19 none (some 33)] [] (.lets [.bin .eql 22 (zI 1)] [] z054)))
def z056:T :=
 .lets [.bin .eql 24 (zI 2)] [] (.ite 31 (.lets [.len 19] [] (.lets [.bin .sub 32 (zI 2)] [] (.lets [] [.inr 1 19 33]
 z045))) z055)
def z057:T :=
 .ite 50 (.ret [.c (.nil 1),.c (.b false)]) (.lets [.mk 1 [[46]]] [] (.lets [.app 1 43 51] [] (.lets [.bin .add 44 (zI 1)] [] (.again 1 [41,.v
 42,52,53]))))
def z058:T :=
 .lets [.bin .geq 47 (zI 16)] [] (.ite 48 (.ret [.c (.nil 1),.c (.b false)]) (.lets [.call 42 [46] 0] [] (.lets [.not 49] [] z057)))
def z059:T :=
 .ite 45 (.lets [] [.inr 1 39 44] (.lets [.idx 39 44 0] [] (.lets [.len 43] [] z058))) (.lets [.bin .add 20 (zI 1)] [] (.again 0
 [41,42,43,46]))
def z05a:T :=
 .lets [.bin .add 31 34] [] (.lets [.mk 1 [[42]]] [] (.lets [.len 43] [] (.loop [17,18,37,zI 0] (.lets [.bin .lss 48 44] []
 z84))))
def ztg:T :=
 .lets [.bin .sub 31 34] [] (.lets [.mk 1 [[43]]] [] (.lets [.len 44] [] (.loop [17,18,37,zI 0] (.lets [.bin .lss 49 45] []
 zjg))))
def zth:T :=
 .ite 44 (.lets [.mk 1 [[zI 1]]] [] (.lets [.len 45] [] (.loop [17,18,37,zI 0] (.lets [.bin .lss 50 46] [] z9f)))) (.lets
 [.mk 1 [[zI 0]]] [] (.lets [.len 45] [] (.loop [17,18,37,zI 0] (.lets [.bin .lss 50 46] [] z9f))))
def zti:T :=
 .ite 45 (.lets [.mk 1 [[zI 1]]] [] (.lets [.len 46] [] (.loop [17,18,37,zI 0] (.lets [.bin .lss 51 47] [] z9c)))) (.lets
 [.mk 1 [[zI 0]]] [] (.lets [.len 46] [] (.loop [17,18,37,zI 0] (.lets [.bin .lss 51 47] [] z9c))))
def zgc:T :=
 .ite 47 (.lets [.mk 1 [[zI 1]]] [] (.lets [.len 48] [] (.loop [17,18,37,zI 0] (.lets [.bin .lss 53 49] [] z9d)))) (.lets
 [.mk 1 [[zI 0]]] [] (.lets [.len 48] [] (.loop [17,18,37,zI 0] (.lets [.bin .lss 53 49] [] z9d))))
def ztj:T :=
 .ite 54 (.lets [] [.inr 1 (.c (.nil 1)) 53] (.lets [.idx (.c (.nil 1)) 53 0] [] (.lets [.len 52] [] zhz))) (.lets [.bin .add 20 (zI 1)]
 [] (.again 0 [50,51,52,55]))
def ztk:T :=
 .ite 48 (.ret [.c (.nil 1),.c (.b false)]) (.lets [.len (.c (.nil 1))] [] (.loop [17,18,37,zI 0] (.lets [.bin .lss 53 49] [] ztj)))
def ztl:T :=
 .lets [.bin .add 54 (zI 104729)] [] (.lets [.bin .rem 55 (zI 1000003)] [] (.lets [.bin .add 52 (zI 1)] [] (.again 1 [56,57])))
def ztm:T :=
 .ite 66 (.ret [.c (.nil 1),.c (.b false)]) (.lets [.mk 1 [[62]]] [] (.lets [.app 1 59 67] [] (.lets [.bin .add 60 (zI 1)] [] (.again 2 [57,.v
 58,68,69]))))
def ztn:T :=
 .lets [.bin .geq 63 (zI 16)] [] (.ite 64 (.ret [.c (.nil 1),.c (.b false)]) (.lets [.call 42 [62] 0] [] (.lets [.not 65] [] ztm)))
def zto:T :=
 .ite 61 (.lets [] [.inr 1 55 60] (.lets [.idx 55 60 0] [] (.lets [.len 59] [] ztn))) (.lets [.bin .add 20 (zI 1)] [] (.again 0
 [57,58,59,62]))
def ztp:T :=
 .lets [.bin .rem 51 (zI 1000001)] [] (.lets [.mk 1 [[54]]] [] (.lets [.len 55] [] (.loop [17,18,37,zI 0] (.lets [.bin .lss 60 (.v
 56)] [] zto))))
def ztq:T :=
 .loop [50,zI 0] (.lets [.bin .lss 52 (zI 3)] [] (.ite 53 (.lets [.bin .mul 51 (zI 7919)] [] ztl) ztp))
def ztr:T :=
 .ite 55 (.lets [] [.inr 1 (.c (.nil 1)) 54] (.lets [.idx (.c (.nil 1)) 54 0] [] (.lets [.len 53] [] zi0))) (.lets [.bin .add 20 (zI 1)]
 [] (.again 0 [51,52,53,56]))
def zts:T :=
 .ite 49 (.lets [.bin .add 31 (zI 1000000)] [] ztq) (.lets [.len (.c (.nil 1))] [] (.loop [17,18,37,zI 0] (.lets [.bin .lss (.v
 54) 50] [] ztr)))
def ztt:T :=
 .ite 48 (.lets [.mk 1 [[2]]] [] (.lets [.len 49] [] (.loop [17,18,37,zI 0] (.lets [.bin .lss 54 50] [] zcx)))) (.lets [.bin
 .eql 22 (zI 13)] [] zts)
def ztu:T :=
 .lets [.bin .eql 22 (zI 11)] [] (.ite 47 (.lets [.bin .eql 31 (zI 0)] [] ztk) (.lets [.bin .eql 22 (zI 12)] []
 ztt))
def ztv:T :=
 .ite 45 (.lets [.bin .mul 31 34] [] (.lets [.bin .neq 46 (zI 0)] [] zgc)) (.lets [.bin .eql 22 (zI 9)] [] (.ite 46 (.lets
 [.bin .eql 31 (zI 0)] [] zgc) ztu))
def ztw:T :=
 .lets [.bin .eql 22 (zI 8)] [] (.ite 44 (.lets [.bin .lss 31 34] [] zti) (.lets [.bin .eql 22 (zI 10)] [] ztv))
def zty:T :=
 .lets [.bin .eql 22 (zI 6)] [] (.ite 42 ztg (.lets [.bin .eql 22 (zI 7)] [] (.ite 43 (.lets [.bin .eql 31 34] []
 zth) ztw)))
def ztz:T :=
 .ite 40 (.lets [.mk 1 [[34],[31]]] [] (.lets [.len 41] [] (.loop [17,18,37,zI 0] (.lets [.bin .lss 46 42] [] zcz)))) (.lets
 [.bin .eql 22 (zI 5)] [] (.ite 41 z05a zty))
def zu0:T :=
 .ite 39 (.lets [.mk 1 [[31],[31]]] [] (.lets [.len 40] [] (.loop [17,18,37,zI 0] (.lets [.bin .lss 45 41] [] z9e)))) (.lets
 [.bin .eql 22 (zI 3)] [] ztz)
def zu1:T :=
 .ite 38 (.lets [.mk 1 [[23]]] [] (.lets [.len 39] [] (.loop [17,18,37,zI 0] (.lets [.bin .lss 44 40] [] z059)))) (.lets [.bin
 .eql 22 (zI 2)] [] zu0)
def zu2:T :=
 .lets [.len 19] [] (.lets [.bin .sub 35 24] [] (.lets [.sub 1 19 none (some 36)] [] (.lets [.bin .eql 22 (zI 1)] [] zu1)))
def zu3:T :=
 .lets [.idx 19 30 0] [] (.lets [.len 19] [] (.lets [.bin .sub 32 (zI 1)] [] (.lets [] [.inr 1 19 33] (.lets [.idx 19 33 0] []
 zu2))))
def zu4:T :=
 .ite 44 (.ret [.c (.nil 1),.c (.b false)]) (.lets [.mk 1 [[40]]] [] (.lets [.app 1 37 45] [] (.lets [.bin .add 38 (zI 1)] [] (.again 1 [35,.v
 36,46,47]))))
def zu5:T :=
 .lets [.bin .geq 41 (zI 16)] [] (.ite 42 (.ret [.c (.nil 1),.c (.b false)]) (.lets [.call 42 [40] 0] [] (.lets [.not 43] [] zu4)))
def zu6:T :=
 .ite 39 (.lets [] [.inr 1 33 38] (.lets [.idx 33 38 0] [] (.lets [.len 37] [] zu5))) (.lets [.bin .add 20 (zI 1)] [] (.again 0
 [35,36,37,40]))
def zu7:T :=
 .ite 45 (.ret [.c (.nil 1),.c (.b false)]) (.lets [.mk 1 [[41]]] [] (.lets [.app 1 38 46] [] (.lets [.bin .add 39 (zI 1)] [] (.again 1 [36,.v
 37,47,48]))))
def zu8:T :=
 .lets [.bin .geq 42 (zI 16)] [] (.ite 43 (.ret [.c (.nil 1),.c (.b false)]) (.lets [.call 42 [41] 0] [] (.lets [.not 44] [] zu7)))
def zu9:T :=
 .ite 40 (.lets [] [.inr 1 34 39] (.lets [.idx 34 39 0] [] (.lets [.len 38] [] zu8))) (.lets [.bin .add 20 (zI 1)] [] (.again 0
 [36,37,38,41]))
def zua:T :=
 .lets [.mk 1 [[zI 0],[zI 0]]] [] (.lets [.len 34] [] (.loop [17,18,31,zI 0] (.lets [.bin .lss 39 35] [] zu9)))
def zub:T :=
 .ite 46 (.ret [.c (.nil 1),.c (.b false)]) (.lets [.mk 1 [[42]]] [] (.lets [.app 1 39 47] [] (.lets [.bin .add 40 (zI 1)] [] (.again 1 [37,.v
 38,48,49]))))
def zuc:T :=
 .lets [.bin .geq 43 (zI 16)] [] (.ite 44 (.ret [.c (.nil 1),.c (.b false)]) (.lets [.call 42 [42] 0] [] (.lets [.not 45] [] zub)))
def zud:T :=
 .ite 41 (.lets [] [.inr 1 35 40] (.lets [.idx 35 40 0] [] (.lets [.len 39] [] zuc))) (.lets [.bin .add 20 (zI 1)] [] (.again 0
 [37,38,39,42]))
def zue:T :=
 .lets [.mk 1 [[zI 0],[zI 0]]] [] (.lets [.len 35] [] (.loop [17,18,31,zI 0] (.lets [.bin .lss 40 36] [] zud)))
def zuf:T :=
 .lets [.bin .add (zI 0) (zI 0)] [] (.lets [.mk 1 [[36]]] [] (.lets [.len 37] [] (.loop [17,18,31,zI 0] (.lets [.bin .lss 42
 38] [] zi5))))
def zug:T :=
 .lets [.bin .sub (zI 0) (zI 0)] [] (.lets [.mk 1 [[37]]] [] (.lets [.len 38] [] (.loop [17,18,31,zI 0] (.lets [.bin .lss 43
 39] [] zcy))))
def zuh:T :=
 .ite 39 (.lets [.mk 1 [[zI 1]]] [] (.lets [.len 40] [] (.loop [17,18,31,zI 0] (.lets [.bin .lss 45 41] [] z9e)))) (.lets
 [.mk 1 [[zI 0]]] [] (.lets [.len 40] [] (.loop [17,18,31,zI 0] (.lets [.bin .lss 45 41] [] z9e))))
def zui:T :=
 .ite 41 (.lets [.mk 1 [[zI 1]]] [] (.lets [.len 42] [] (.loop [17,18,31,zI 0] (.lets [.bin .lss 47 43] [] z83)))) (.lets
 [.mk 1 [[zI 0]]] [] (.lets [.len 42] [] (.loop [17,18,31,zI 0] (.lets [.bin .lss 47 43] [] z83))))
def zuj:T :=
 .lets [.bin .add 48 (zI 104729)] [] (.lets [.bin .rem 49 (zI 1000003)] [] (.lets [.bin .add 46 (zI 1)] [] (.again 1 [50,51])))
def zuk:T :=
 .ite 60 (.ret [.c (.nil 1),.c (.b false)]) (.lets [.mk 1 [[56]]] [] (.lets [.app 1 53 61] [] (.lets [.bin .add 54 (zI 1)] [] (.again 2 [51,.v
 52,62,63]))))
def zul:T :=
 .lets [.bin .geq 57 (zI 16)] [] (.ite 58 (.ret [.c (.nil 1),.c (.b false)]) (.lets [.call 42 [56] 0] [] (.lets [.not 59] [] zuk)))
def zum:T :=
 .ite 55 (.lets [] [.inr 1 49 54] (.lets [.idx 49 54 0] [] (.lets [.len 53] [] zul))) (.lets [.bin .add 20 (zI 1)] [] (.again 0
 [51,52,53,56]))
def zun:T :=
 .lets [.bin .rem 45 (zI 1000001)] [] (.lets [.mk 1 [[48]]] [] (.lets [.len 49] [] (.loop [17,18,31,zI 0] (.lets [.bin .lss 54 (.v
 50)] [] zum))))
def zuo:T :=
 .loop [44,zI 0] (.lets [.bin .lss 46 (zI 3)] [] (.ite 47 (.lets [.bin .mul 45 (zI 7919)] [] zuj) zun))
def zup:T :=
 .ite 49 (.lets [] [.inr 1 (.c (.nil 1)) 48] (.lets [.idx (.c (.nil 1)) 48 0] [] (.lets [.len 47] [] zjf))) (.lets [.bin .add 20 (zI 1)] []
 (.again 0 [45,46,47,50]))
def zuq:T :=
 .ite 43 (.lets [.bin .add (zI 0) (zI 1000000)] [] zuo) (.lets [.len (.c (.nil 1))] [] (.loop [17,18,31,zI 0] (.lets [.bin
 .lss 48 44] [] zup)))
def zur:T :=
 .ite 42 (.lets [.mk 1 [[2]]] [] (.lets [.len 43] [] (.loop [17,18,31,zI 0] (.lets [.bin .lss 48 44] [] z84)))) (.lets [.bin .eql
 22 (zI 13)] [] zuq)
def zus:T :=
 .ite 40 (.lets [.mk 1 [[zI 1]]] [] (.lets [.len 41] [] (.loop [17,18,31,zI 0] (.lets [.bin .lss 46 42] [] zcz)))) (.lets
 [.bin .eql 22 (zI 11)] [] (.ite 41 (.ret [.c (.nil 1),.c (.b false)]) (.lets [.bin .eql 22 (zI 12)] [] zur)))
def zut:T :=
 .ite 39 (.lets [.bin .mul (zI 0) (zI 0)] [] (.lets [.bin .neq 40 (zI 0)] [] zui)) (.lets [.bin .eql 22 (zI 9)] []
 zus)
def zuu:T :=
 .lets [.bin .eql 22 (zI 8)] [] (.ite 38 (.lets [.bin .lss (zI 0) (zI 0)] [] zuh) (.lets [.bin .eql 22 (zI 10)] []
 zut))
def zuv:T :=
 .ite 37 (.lets [.mk 1 [[zI 1]]] [] (.lets [.len 38] [] (.loop [17,18,31,zI 0] (.lets [.bin .lss 43 39] [] zcy))))
 zuu
def zuw:T :=
 .ite 35 zuf (.lets [.bin .eql 22 (zI 6)] [] (.ite 36 zug (.lets [.bin .eql 22 (zI 7)] [] zuv)))
def zux:T :=
 .ite 33 zua (.lets [.bin .eql 22 (zI 3)] [] (.ite 34 zue (.lets [.bin .eql 22 (zI 5)] [] zuw)))
def zuy:T :=
 .ite 32 (.lets [.mk 1 [[23]]] [] (.lets [.len 33] [] (.loop [17,18,31,zI 0] (.lets [.bin .lss 38 34] [] zu6)))) (.lets [.bin
 .eql 22 (zI 2)] [] zux)
def zuz:T :=
 .lets [.len 19] [] (.lets [.bin .sub 29 24] [] (.lets [.sub 1 19 none (some 30)] [] (.lets [.bin .eql 22 (zI 1)] [] zuy)))
def zv0:T :=
 .lets [.bin .eql 24 (zI 2)] [] (.ite 28 (.lets [.len 19] [] (.lets [.bin .sub 29 (zI 2)] [] (.lets [] [.inr 1 19 30]
 zu3))) zuz)
def zv1:T :=
 .ite 27 (.lets [.len 19] [] (.lets [.bin .sub 28 (zI 1)] [] (.lets [] [.inr 1 19 29] (.lets [.idx 19 29 0] [] z056))))
 zv0
def zv2:T :=
 .lets [.len 19] [] (.lets [.bin .lss 25 24] [] (.ite 26 (.ret [.c (.nil 1),.c (.b false)]) (.lets [.bin .eql 24 (zI 1)] [] zv1)))
def zv3:T :=
 .ite 21 (.lets [] [.inr 2 0 20] (.lets [.idx 0 20 0,.idx 0 20 1] [] (.lets [.mget [.i .i64 0] 15 22 0] [] zv2))) (.ret [.v
 19,.c (.b true)])
def zv4:T :=
 .lets [.mput 1 14 (zI 13) [zI 1]] [] (.lets [.len 0] [] (.loop [.c (.nil 1),.c (.b false),4,zI 0] (.lets [.bin .lss 20 16] []
 zv3)))
def zv5:T :=
 .lets [.mput 1 11 (zI 9) [zI 1]] [] (.lets [.mput 1 12 (zI 10) [zI 2]] [] (.lets [.mput 1 13 (zI 11) [.c (.i .i64
 1)]] [] zv4))
def zv6:T :=
 .lets [.mput 1 8 (zI 6) [zI 2]] [] (.lets [.mput 1 9 (zI 7) [zI 2]] [] (.lets [.mput 1 10 (zI 8) [zI 2]]
 [] zv5))
def zv7:T :=
 .lets [.mput 1 5 (zI 3) [zI 2]] [] (.lets [.mput 1 6 (zI 4) [zI 1]] [] (.lets [.mput 1 7 (zI 5) [zI 2]] []
 zv6))
def z0c:T :=
 .lets [.mk 1 []] [] (.lets [.app 1 3 1] [] (.lets [.mput 1 (.c (.nil 2)) (zI 2) [zI 1]] [] zv7))
def z09f:T :=
 .ite 8 (.lets [] [.inr 1 5 (zI 0)] (.lets [.idx 5 (zI 0) 0] [] (.lets [.bin .neq 9 (zI 0)] [] (.ret [10])))) (.ret [.c (.b
 false)])
def z09g:T :=
 .lets [.call 43 [0,3,2] 0,.call 43 [0,3,2] 1] [] (.ite 6 (.lets [.len 5] [] (.lets [.bin .eql 7 (zI 1)] [] z09f)) (.ret [.c
 (.b false)]))
def zi8:T :=
 .lets [.call 43 [1,.c (.nil 1),2] 0,.call 43 [1,.c (.nil 1),2] 1] [] (.ite 4 z09g (.ret [.c (.b false)]))
theorem z0mz:Meets Tryz.prog z62 155 ⟨[.one],[(false,[.scal])],true⟩:=by
 refine zj (sp:=(z07 [])) (sigs:=z0i) (cut:=[]) (hints:=[]) (fn:=Tryz.f155) (t:=zp2) (by kernel_rfl) (by kernel_rfl) (by kernel_rfl) ?_ ?_
 ·exact (z01 (L:=[]) trivial)
 ·rintro ds rs - h
  obtain ⟨n,-,rfl,rfl⟩:=zi h;clear h;refine ⟨⟨1,?_⟩,zy rfl⟩
  show den _ _ zp2 [I n] []=ret (decide (-1000000≤n∧n≤1000000))
  rw [zY3r];unfold zp2
  repeat' (first|refine dq1 ?_|exact z5 rfl rfl|refine tU (fun h=>?_) fun h=>?_|fail)
noncomputable def zbt:z9:=spD (fun x:List Op × List Int × Int=>z7 x.1=0∧z1g x.2.1) fun x=>zdt (z2q x.2.2 x.2.1 x.1)
theorem zgd (l:List Op) (s:List Int) (h:Int) (hl:z7 l=0) (hs:z1g s):zbt [.l 2 (l.map eOp),.l 1 (s.map z19),I h]=some [.l 1 ((zdt (z2q h s l)).1.map z19),.b (zdt (z2q h s l)).2]:=zg (p:=fun x:List Op × List Int × Int=>z7 x.1=0∧z1g x.2.1) (f:=fun x:List Op × List Int × Int=>zdt (z2q x.2.2 x.2.1 x.1)) (l,s,h) ⟨hl,hs⟩
theorem z0k2 {sp:Nat→z9} {E:Env} {a b:Atom} {m n y:Int} (ha:a.val E=some (I m)) (hb:b.val E=some (I n)) (h:n≠0) (hy:m.tmod n=y):denX sp E (.bin .rem a b)=some (I y):=by
 rw [znt ha hb h,hy]
theorem z0gy {o:Op} (h:z3w o=0):1≤o.kind∧o.kind≤13:=by
 unfold z3w at h
 split at h
 ·cases h
 ·split at h
  ·cases h
  ·omega
theorem z0pg {l:List Op} (h:z7 l=0):l.length≤16∧∀ o ∈ l,z3w o=0:=by
 have key:∀ l:List Op,z4z l=0→∀ o ∈ l,z3w o=0:=by
  intro l
  induction l with
  | nil=>intro _ o ho;cases ho
  | cons x l ih =>
   intro h;rw [z4z] at h
   split at h
   ·rename_i hx;exact absurd h hx
   ·rename_i hx
    intro o ho;rcases zY0i.1 ho with rfl|ho
    ·exact zY0s.1 hx
    ·exact ih h o ho
 unfold z7 at h
 split at h
 ·cases h
 ·exact ⟨by omega,key l h⟩
noncomputable def z55:Nat→z9:=z07 [(42,z62)]
def z1l:T→T
 | .lets _ _ k=>z1l k
 | .loop _ b=>b
 | t=>t
def z9g (l:List Op) (s0:List Int) (ht:Int):Env:=[.l 2 (l.map eOp),.l 1 (s0.map z19),I ht,.l 1 [],.l 1 (s0.map z19),.l 2 [[I 2,I 1]],.l 2 [[I 2,I 1],[I 3,I 2]],.l 2 [[I 2,I 1],[I 3,I 2],[I 4,I 1]],.l 2 [[I 2,I 1],[I 3,I 2],[I 4,I 1],[I 5,I 2]],.l 2 [[I 2,I 1],[I 3,I 2],[I 4,I 1],[I 5,I 2],[I 6,I 2]],.l 2 [[I 2,I 1],[I 3,I 2],[I 4,I 1],[I 5,I 2],[I 6,I 2],[I 7,I 2]],.l 2 [[I 2,I 1],[I 3,I 2],[I 4,I 1],[I 5,I 2],[I 6,I 2],[I 7,I 2],[I 8,I 2]],.l 2 [[I 2,I 1],[I 3,I 2],[I 4,I 1],[I 5,I 2],[I 6,I 2],[I 7,I 2],[I 8,I 2],[I 9,I 1]],.l 2 [[I 2,I 1],[I 3,I 2],[I 4,I 1],[I 5,I 2],[I 6,I 2],[I 7,I 2],[I 8,I 2],[I 9,I 1],[I 10,I 2]],.l 2 [[I 2,I 1],[I 3,I 2],[I 4,I 1],[I 5,I 2],[I 6,I 2],[I 7,I 2],[I 8,I 2],[I 9,I 1],[I 10,I 2],[I 11,I 1]],.l 2 [[I 2,I 1],[I 3,I 2],[I 4,I 1],[I 5,I 2],[I 6,I 2],[I 7,I 2],[I 8,I 2],[I 9,I 1],[I 10,I 2],[I 11,I 1],[I 13,I 1]],I l.length]
def z6i (kd:Int):Prop:=∀ (l:List Op) (s0 s:List Int) (ht nn:Int) (k:Nat) (R:List Int × Bool) (again:List Dt→Option (List Dt)),l.length≤16→s.length≤16→z1g s→k<l.length→l[k]? = some ⟨kd,nn⟩ →
 (z2s ht s ⟨kd,nn⟩=none→R=([],false))→(∀ s',z2s ht s ⟨kd,nn⟩=some s'→again [.l 1 (([]:List Int).map z19),.b false,.l 1 (s'.map z19),I ((k:Int)+1)]=ret R) →
 den z55 (l.length+6) (z1l z0c) (z9g l s0 ht++[.l 1 (([]:List Int).map z19),.b false,.l 1 (s.map z19),I k]) [again]=ret R
theorem z2y {s:List Int} (hfit:z1g s):(s.length=0∧z4o s=none)∨(∃ a t,z3k a∧z4o s=some (a,t)∧(s.length:Int)=t.length+1∧s[((s.length:Int) - 1).toNat]? = some a∧s.take ((s.length:Int) - 1).toNat=t∧((t.length=0∧z4o t=none)∨∃ b u,z3k b∧z4o t=some (b,u)∧(t.length:Int)=u.length+1∧s[((s.length:Int) - 2).toNat]? = some b∧s.take ((s.length:Int) - 2).toNat=u)):=by
 by_cases h0:s.length=0
 ·exact .inl ⟨h0,zda h0⟩
 ·obtain ⟨a,t,p1,p2,p3,p4,p5⟩:=zdb h0
  have f1:=z4s hfit p1;refine .inr ⟨a,t,f1.1,p1,p3,p4,p5,?_⟩
  by_cases h1:t.length=0
  ·exact .inl ⟨h1,zda h1⟩
  ·obtain ⟨b,u,q1,q2,q3,q4,q5⟩:=zdb h1
   have e1:((s.length:Int) - 2).toNat=u.length:=by omega
   refine .inr ⟨b,u,(z4s f1.2 q1).1,q1,q3,?_,?_⟩
   ·rw [e1,p2,q2];simp
   ·rw [e1,p2,q2];simp
theorem zr {sp:Nat→z9} {E:Env} {z:List Lit} {a ka:Atom} {j:Nat} {l:Nat} {rows:List (List Dt)} {n:Int} {d:Dt} (ha:a.val E=some (.l l rows)) (hk:ka.val E=some (I n)) (h:(match z85 n rows with|some v=>v[j]? | none=>(z[j]?).map Lit.dt)=some d):denX sp E (.mget z a ka j)=some d:=by
 simp only [denX,ha,hk,asI];exact h
end
section
open Go.RowKit
set_option maxRecDepth 100000
set_option maxHeartbeats 8000000
attribute [local irreducible] z00 spD z1e z91 z18 z62
attribute [local irreducible] den denX z0f z0k
theorem z0n0:z6i 1:=by
 intro l s0 s ht nn k R again' hl16 hsl hfit hk hx hF hO;have hcase:=z2y hfit;have hs0t:s.take (((s.length:Nat):Int) - 0).toNat=s:=(by rw [show (((s.length:Nat):Int) - 0).toNat=s.length by omega];exact zY1a);simp only [z2s,Int.reduceEq,if_true,if_false] at hF hO;unfold z9g;with_unfolding_all show den z55 _ (z1l z0c) [_,_,_,_,_,_,_,_,_,_,_,_,_,_,_,_,_,_,_,_,_] _=_;simp only [z0c,z1l]
 rcases hcase with ⟨c1,c2⟩|⟨a,t,fa,p1,p3,p4,p5,⟨c1,c2⟩|⟨b,u,fb,q1,q3,q4,q5⟩⟩
 ·try simp only [c2,z1c,z1k,zY09] at hF hO
  repeat' (first|refine dq1 ?_|refine dqc ?_|refine dqm ?_|refine dqk rfl (z0n _) ?_|refine dqT ?_|refine dqF ?_|refine z0h rfl ?_|refine z0m rfl ?_|refine z4 (zr (d:=I 0) rfl rfl rfl) ?_|refine z1w (z0z rfl rfl (by omega) (by simp)) ?_|refine z4 (z0w rfl rfl (by omega) rfl rfl) ?_|refine z4 (z20 rfl rfl) ?_|exact z5 rfl (by rw [hF (by (repeat' (first|rw [z29 (by omega)]|fail)))];rfl)|exact z6 rfl rfl (hO _ (by (repeat' (first|rw [z0b (by omega) (by omega) (by omega)]|fail))))|(refine z0r rfl ?_;rw [z04])|(refine z6 rfl rfl ?_;rw [z04])|refine tZn (fun h=>?_) (fun h=>?_)|fail)
 ·try simp only [p1,c2,z1c,z1k,zY09,zY05] at hF hO
  obtain ⟨fa1,fa2⟩:=id fa
  repeat' (first|refine dq1 ?_|refine dqc ?_|refine dqm ?_|refine dqk rfl (z0n _) ?_|refine dqT ?_|refine dqF ?_|refine z0h rfl ?_|refine z0m rfl ?_|refine z4 (zr (d:=I 0) rfl rfl rfl) ?_|refine z1w (z0z rfl rfl (by omega) (by simp)) ?_|refine z4 (z0w rfl rfl (by omega) rfl rfl) ?_|refine z4 (z20 rfl rfl) ?_|exact z5 rfl (by rw [hF (by (repeat' (first|rw [z29 (by omega)]|fail)))];rfl)|exact z6 rfl rfl (hO _ (by (repeat' (first|rw [z0b (by omega) (by omega) (by omega)]|fail))))|(refine z0r rfl ?_;rw [z04])|(refine z6 rfl rfl ?_;rw [z04])|refine tZn (fun h=>?_) (fun h=>?_)|fail)
 ·try simp only [p1,q1,z1c,z1k,zY09,zY05] at hF hO
  obtain ⟨fa1,fa2⟩:=id fa;obtain ⟨fb1,fb2⟩:=id fb
  repeat' (first|refine dq1 ?_|refine dqc ?_|refine dqm ?_|refine dqk rfl (z0n _) ?_|refine dqT ?_|refine dqF ?_|refine z0h rfl ?_|refine z0m rfl ?_|refine z4 (zr (d:=I 0) rfl rfl rfl) ?_|refine z1w (z0z rfl rfl (by omega) (by simp)) ?_|refine z4 (z0w rfl rfl (by omega) rfl rfl) ?_|refine z4 (z20 rfl rfl) ?_|exact z5 rfl (by rw [hF (by (repeat' (first|rw [z29 (by omega)]|fail)))];rfl)|exact z6 rfl rfl (hO _ (by (repeat' (first|rw [z0b (by omega) (by omega) (by omega)]|fail))))|(refine z0r rfl ?_;rw [z04])|(refine z6 rfl rfl ?_;rw [z04])|refine z36 rfl (fun h=>?_) (fun h=>?_)|refine tZn (fun h=>?_) (fun h=>?_)|fail)
theorem z0n1:z6i 2:=by
 intro l s0 s ht nn k R again' hl16 hsl hfit hk hx hF hO;have hcase:=z2y hfit;have hs0t:s.take (((s.length:Nat):Int) - 0).toNat=s:=(by rw [show (((s.length:Nat):Int) - 0).toNat=s.length by omega];exact zY1a);simp only [z2s,Int.reduceEq,if_true,if_false] at hF hO;unfold z9g;with_unfolding_all show den z55 _ (z1l z0c) [_,_,_,_,_,_,_,_,_,_,_,_,_,_,_,_,_,_,_,_,_] _=_;simp only [z0c,z1l]
 rcases hcase with ⟨c1,c2⟩|⟨a,t,fa,p1,p3,p4,p5,⟨c1,c2⟩|⟨b,u,fb,q1,q3,q4,q5⟩⟩
 ·try simp only [c2,z1c,z1k,zY09] at hF hO
  repeat' (first|refine dq1 ?_|refine dqc ?_|refine dqm ?_|refine dqT ?_|refine z4 (zr (d:=I 1) rfl rfl rfl) ?_|exact z5 rfl (by rw [hF (by (repeat' (first|simp only [zY05,zY09]|fail)))];rfl)|fail)
 ·try simp only [p1,c2,z1c,z1k,zY09,zY05] at hF hO
  obtain ⟨fa1,fa2⟩:=id fa
  repeat' (first|refine dq1 ?_|refine dqc ?_|refine dqm ?_|refine dqk rfl (z0n _) ?_|refine dqT ?_|refine dqF ?_|refine z0h rfl ?_|refine z0m rfl ?_|refine z8d ?_|refine z4 (zr (d:=I 1) rfl rfl rfl) ?_|refine z1w (z0z rfl rfl (by omega) (by simp)) ?_|refine z4 (z0w rfl rfl (by omega) rfl rfl) ?_|refine z4 (z28 rfl rfl (by simp)) ?_|refine z4 (z20 rfl rfl) ?_|exact z5 rfl (by rw [hF (by (repeat' (first|rfl|rw [z29 (by (simp only [zY06,zY0g,zY13] at *;omega))]|fail)))];rfl)|exact z6 rfl rfl (hO _ (by (repeat' (first|rw [z0b (by first|omega|(simp only [zY06,zY0g,zY13] at *;omega)) (by omega) (by omega)]|simp only [zY05,zY09]|fail))))|(refine z0r rfl ?_;rw [z04])|(refine z6 rfl rfl ?_;rw [z04])|refine z36 rfl (fun h=>?_) (fun h=>?_)|fail)
 ·try simp only [p1,q1,z1c,z1k,zY09,zY05] at hF hO
  obtain ⟨fa1,fa2⟩:=id fa;obtain ⟨fb1,fb2⟩:=id fb
  repeat' (first|refine dq1 ?_|refine dqc ?_|refine dqm ?_|refine dqk rfl (z0n _) ?_|refine dqT ?_|refine dqF ?_|refine z0h rfl ?_|refine z0m rfl ?_|refine z8d ?_|refine z4 (zr (d:=I 1) rfl rfl rfl) ?_|refine z1w (z0z rfl rfl (by omega) (by simp)) ?_|refine z4 (z0w rfl rfl (by omega) rfl rfl) ?_|refine z4 (z28 rfl rfl (by simp)) ?_|refine z4 (z20 rfl rfl) ?_|exact z5 rfl (by rw [hF (by (repeat' (first|rw [z29 (by (simp only [zY06,zY0g,zY13] at *;omega))]|rw [z0b (by omega) (by omega) (by omega)]|simp only [zY05,zY09]|fail)))];rfl)|exact z6 rfl rfl (hO _ (by (repeat' (first|rw [z0b (by omega) (by omega) (by omega)]|simp only [zY05,zY09]|fail))))|(refine z0r rfl ?_;rw [z04])|(refine z6 rfl rfl ?_;rw [z04])|refine z36 rfl (fun h=>?_) (fun h=>?_)|fail)
theorem z0n2:z6i 3:=by
 intro l s0 s ht nn k R again' hl16 hsl hfit hk hx hF hO;have hcase:=z2y hfit;have hs0t:s.take (((s.length:Nat):Int) - 0).toNat=s:=(by rw [show (((s.length:Nat):Int) - 0).toNat=s.length by omega];exact zY1a);simp only [z2s,Int.reduceEq,if_true,if_false] at hF hO;unfold z9g;with_unfolding_all show den z55 _ (z1l z0c) [_,_,_,_,_,_,_,_,_,_,_,_,_,_,_,_,_,_,_,_,_] _=_;simp only [z0c,z1l]
 rcases hcase with ⟨c1,c2⟩|⟨a,t,fa,p1,p3,p4,p5,⟨c1,c2⟩|⟨b,u,fb,q1,q3,q4,q5⟩⟩
 ·try simp only [c2,z1c,z1k,zY09] at hF hO
  repeat' (first|refine dq1 ?_|refine dqc ?_|refine dqm ?_|refine dqT ?_|refine z4 (zr (d:=I 2) rfl rfl rfl) ?_|exact z5 rfl (by rw [hF (by (repeat' (first|simp only [zY05,zY09]|fail)))];rfl)|fail)
 ·try simp only [p1,c2,z1c,z1k,zY09,zY05] at hF hO
  obtain ⟨fa1,fa2⟩:=id fa
  repeat' (first|refine dq1 ?_|refine dqc ?_|refine dqm ?_|refine dqT ?_|refine z4 (zr (d:=I 2) rfl rfl rfl) ?_|exact z5 rfl (by rw [hF (by (repeat' (first|simp only [zY05,zY09]|fail)))];rfl)|fail)
 ·try simp only [p1,q1,z1c,z1k,zY09,zY05] at hF hO
  obtain ⟨fa1,fa2⟩:=id fa;obtain ⟨fb1,fb2⟩:=id fb
  repeat' (first|refine dq1 ?_|refine dqc ?_|refine dqm ?_|refine dqk rfl (z0n _) ?_|refine dqT ?_|refine dqF ?_|refine z0h rfl ?_|refine z0m rfl ?_|refine z8d ?_|refine z4 (zr (d:=I 2) rfl rfl rfl) ?_|refine z1w (z0z rfl rfl (by omega) (by simp)) ?_|refine z4 (z0w rfl rfl (by omega) rfl rfl) ?_|refine z4 (z28 rfl rfl (by simp)) ?_|refine z4 (z20 rfl rfl) ?_|exact z5 rfl (by rw [hF (by (repeat' (first|rfl|rw [z29 (by (simp only [zY06,zY0g,zY13] at *;omega))]|fail)))];rfl)|exact z6 rfl rfl (hO _ (by (repeat' (first|rw [z0b (by first|omega|(simp only [zY06,zY0g,zY13] at *;omega)) (by omega) (by omega)]|simp only [zY05,zY09]|fail))))|(refine z0r rfl ?_;rw [z04])|(refine z6 rfl rfl ?_;rw [z04])|refine z36 rfl (fun h=>?_) (fun h=>?_)|fail)
theorem z0n3:z6i 4:=by
 intro l s0 s ht nn k R again' hl16 hsl hfit hk hx hF hO;have hcase:=z2y hfit;have hs0t:s.take (((s.length:Nat):Int) - 0).toNat=s:=(by rw [show (((s.length:Nat):Int) - 0).toNat=s.length by omega];exact zY1a);simp only [z2s,Int.reduceEq,if_true,if_false] at hF hO;unfold z9g;with_unfolding_all show den z55 _ (z1l z0c) [_,_,_,_,_,_,_,_,_,_,_,_,_,_,_,_,_,_,_,_,_] _=_;simp only [z0c,z1l]
 rcases hcase with ⟨c1,c2⟩|⟨a,t,fa,p1,p3,p4,p5,⟨c1,c2⟩|⟨b,u,fb,q1,q3,q4,q5⟩⟩
 ·try simp only [c2,z1c,z1k,zY09] at hF hO
  repeat' (first|refine dq1 ?_|refine dqc ?_|refine dqm ?_|refine dqT ?_|refine z4 (zr (d:=I 1) rfl rfl rfl) ?_|exact z5 rfl (by rw [hF (by (repeat' (first|simp only [zY05,zY09]|fail)))];rfl)|fail)
 ·try simp only [p1,c2,z1c,z1k,zY09,zY05] at hF hO
  obtain ⟨fa1,fa2⟩:=id fa
  repeat' (first|refine dq1 ?_|refine dqc ?_|refine dqm ?_|refine dqT ?_|refine dqF ?_|refine z0h rfl ?_|refine z4 (zr (d:=I 1) rfl rfl rfl) ?_|exact z6 rfl rfl (hO _ (by (repeat' (first|rfl|fail))))|(refine z0r rfl ?_;rw [z04])|fail)
 ·try simp only [p1,q1,z1c,z1k,zY09,zY05] at hF hO
  obtain ⟨fa1,fa2⟩:=id fa;obtain ⟨fb1,fb2⟩:=id fb
  repeat' (first|refine dq1 ?_|refine dqc ?_|refine dqm ?_|refine dqT ?_|refine dqF ?_|refine z0h rfl ?_|refine z4 (zr (d:=I 1) rfl rfl rfl) ?_|exact z6 rfl rfl (hO _ (by (repeat' (first|rfl|fail))))|(refine z0r rfl ?_;rw [z04])|fail)
end
section
open Go.RowKit
set_option maxRecDepth 100000
set_option maxHeartbeats 8000000
attribute [local irreducible] z00 spD z1e z91 z18 z62
attribute [local irreducible] den denX z0f z0k
theorem z0n4:z6i 5:=by
 intro l s0 s ht nn k R again' hl16 hsl hfit hk hx hF hO;have hcase:=z2y hfit;have hs0t:s.take (((s.length:Nat):Int) - 0).toNat=s:=(by rw [show (((s.length:Nat):Int) - 0).toNat=s.length by omega];exact zY1a);simp only [z2s,Int.reduceEq,if_true,if_false] at hF hO;unfold z9g;with_unfolding_all show den z55 _ (z1l z0c) [_,_,_,_,_,_,_,_,_,_,_,_,_,_,_,_,_,_,_,_,_] _=_;simp only [z0c,z1l]
 rcases hcase with ⟨c1,c2⟩|⟨a,t,fa,p1,p3,p4,p5,⟨c1,c2⟩|⟨b,u,fb,q1,q3,q4,q5⟩⟩
 ·try simp only [c2,z1c,z1k,zY09] at hF hO
  repeat' (first|refine dq1 ?_|refine dqc ?_|refine dqm ?_|refine dqT ?_|refine z4 (zr (d:=I 2) rfl rfl rfl) ?_|exact z5 rfl (by rw [hF (by (repeat' (first|simp only [zY05,zY09]|fail)))];rfl)|fail)
 ·try simp only [p1,c2,z1c,z1k,zY09,zY05] at hF hO
  obtain ⟨fa1,fa2⟩:=id fa
  repeat' (first|refine dq1 ?_|refine dqc ?_|refine dqm ?_|refine dqT ?_|refine z4 (zr (d:=I 2) rfl rfl rfl) ?_|exact z5 rfl (by rw [hF (by (repeat' (first|simp only [zY05,zY09]|fail)))];rfl)|fail)
 ·try simp only [p1,q1,z1c,z1k,zY09,zY05] at hF hO
  obtain ⟨fa1,fa2⟩:=id fa;obtain ⟨fb1,fb2⟩:=id fb
  repeat' (first|refine dq1 ?_|refine dqc ?_|refine dqm ?_|refine dqk rfl (z0n _) ?_|refine dqT ?_|refine dqF ?_|refine z0h rfl ?_|refine z0m rfl ?_|refine z4 (zr (d:=I 2) rfl rfl rfl) ?_|refine z1w (z0z rfl rfl (by omega) (by simp)) ?_|refine z4 (z0w rfl rfl (by omega) rfl rfl) ?_|refine z4 (z20 rfl rfl) ?_|exact z5 rfl (by rw [hF (by (repeat' (first|rw [z29 (by omega)]|fail)))];rfl)|exact z6 rfl rfl (hO _ (by (repeat' (first|rw [z0b (by omega) (by omega) (by omega)]|fail))))|(refine z0r rfl ?_;rw [z04])|(refine z6 rfl rfl ?_;rw [z04])|refine tZn (fun h=>?_) (fun h=>?_)|fail)
theorem z0n5:z6i 6:=by
 intro l s0 s ht nn k R again' hl16 hsl hfit hk hx hF hO;have hcase:=z2y hfit;have hs0t:s.take (((s.length:Nat):Int) - 0).toNat=s:=(by rw [show (((s.length:Nat):Int) - 0).toNat=s.length by omega];exact zY1a);simp only [z2s,Int.reduceEq,if_true,if_false] at hF hO;unfold z9g;with_unfolding_all show den z55 _ (z1l z0c) [_,_,_,_,_,_,_,_,_,_,_,_,_,_,_,_,_,_,_,_,_] _=_;simp only [z0c,z1l]
 rcases hcase with ⟨c1,c2⟩|⟨a,t,fa,p1,p3,p4,p5,⟨c1,c2⟩|⟨b,u,fb,q1,q3,q4,q5⟩⟩
 ·try simp only [c2,z1c,z1k,zY09] at hF hO
  repeat' (first|refine dq1 ?_|refine dqc ?_|refine dqm ?_|refine dqT ?_|refine z4 (zr (d:=I 2) rfl rfl rfl) ?_|exact z5 rfl (by rw [hF (by (repeat' (first|simp only [zY05,zY09]|fail)))];rfl)|fail)
 ·try simp only [p1,c2,z1c,z1k,zY09,zY05] at hF hO
  obtain ⟨fa1,fa2⟩:=id fa
  repeat' (first|refine dq1 ?_|refine dqc ?_|refine dqm ?_|refine dqT ?_|refine z4 (zr (d:=I 2) rfl rfl rfl) ?_|exact z5 rfl (by rw [hF (by (repeat' (first|simp only [zY05,zY09]|fail)))];rfl)|fail)
 ·try simp only [p1,q1,z1c,z1k,zY09,zY05] at hF hO
  obtain ⟨fa1,fa2⟩:=id fa;obtain ⟨fb1,fb2⟩:=id fb
  repeat' (first|refine dq1 ?_|refine dqc ?_|refine dqm ?_|refine dqk rfl (z0n _) ?_|refine dqT ?_|refine dqF ?_|refine z0h rfl ?_|refine z0m rfl ?_|refine z4 (zr (d:=I 2) rfl rfl rfl) ?_|refine z1w (z0z rfl rfl (by omega) (by simp)) ?_|refine z4 (z0w rfl rfl (by omega) rfl rfl) ?_|refine z4 (z20 rfl rfl) ?_|exact z5 rfl (by rw [hF (by (repeat' (first|rw [z29 (by omega)]|fail)))];rfl)|exact z6 rfl rfl (hO _ (by (repeat' (first|rw [z0b (by omega) (by omega) (by omega)]|fail))))|(refine z0r rfl ?_;rw [z04])|(refine z6 rfl rfl ?_;rw [z04])|refine tZn (fun h=>?_) (fun h=>?_)|fail)
theorem z0n6:z6i 7:=by
 intro l s0 s ht nn k R again' hl16 hsl hfit hk hx hF hO;have hcase:=z2y hfit;have hs0t:s.take (((s.length:Nat):Int) - 0).toNat=s:=(by rw [show (((s.length:Nat):Int) - 0).toNat=s.length by omega];exact zY1a);simp only [z2s,Int.reduceEq,if_true,if_false] at hF hO;unfold z9g;with_unfolding_all show den z55 _ (z1l z0c) [_,_,_,_,_,_,_,_,_,_,_,_,_,_,_,_,_,_,_,_,_] _=_;simp only [z0c,z1l]
 rcases hcase with ⟨c1,c2⟩|⟨a,t,fa,p1,p3,p4,p5,⟨c1,c2⟩|⟨b,u,fb,q1,q3,q4,q5⟩⟩
 ·try simp only [c2,z1c,z1k,zY09] at hF hO
  repeat' (first|refine dq1 ?_|refine dqc ?_|refine dqm ?_|refine dqT ?_|refine z4 (zr (d:=I 2) rfl rfl rfl) ?_|exact z5 rfl (by rw [hF (by (repeat' (first|simp only [zY05,zY09]|fail)))];rfl)|fail)
 ·try simp only [p1,c2,z1c,z1k,zY09,zY05] at hF hO
  obtain ⟨fa1,fa2⟩:=id fa
  repeat' (first|refine dq1 ?_|refine dqc ?_|refine dqm ?_|refine dqT ?_|refine z4 (zr (d:=I 2) rfl rfl rfl) ?_|exact z5 rfl (by rw [hF (by (repeat' (first|simp only [zY05,zY09]|fail)))];rfl)|fail)
 ·try simp only [p1,q1,z1c,z1k,zY09,zY05] at hF hO
  obtain ⟨fa1,fa2⟩:=id fa;obtain ⟨fb1,fb2⟩:=id fb
  by_cases hab:b=a
  ·have e7:z18 (decide (b=a))=1:=by with_unfolding_all simp [z18,hab]
   rw [e7] at hF hO
   repeat' (first|refine dq1 ?_|refine dqc ?_|refine dqm ?_|refine dqk rfl (z0n _) ?_|refine dqT ?_|refine dqF ?_|refine z0h rfl ?_|refine z0m rfl ?_|refine z4 (zr (d:=I 2) rfl rfl rfl) ?_|refine z1w (z0z rfl rfl (by omega) (by simp)) ?_|refine z4 (z0w rfl rfl (by omega) rfl rfl) ?_|refine z4 (z20 rfl rfl) ?_|exact z6 rfl rfl (hO _ (by (repeat' (first|rw [z0b (by omega) (by omega) (by omega)]|fail))))|(refine z0r rfl ?_;rw [z04])|(refine z6 rfl rfl ?_;rw [z04])|fail)
  ·have e7:z18 (decide (b=a))=0:=by with_unfolding_all simp [z18,hab]
   rw [e7] at hF hO
   repeat' (first|refine dq1 ?_|refine dqc ?_|refine dqm ?_|refine dqk rfl (z0n _) ?_|refine dqT ?_|refine dqF ?_|refine z0h rfl ?_|refine z0m rfl ?_|refine z4 (zr (d:=I 2) rfl rfl rfl) ?_|refine z1w (z0z rfl rfl (by omega) (by simp)) ?_|refine z4 (z0w rfl rfl (by omega) rfl rfl) ?_|refine z4 (z20 rfl rfl) ?_|exact z6 rfl rfl (hO _ (by (repeat' (first|rw [z0b (by omega) (by omega) (by omega)]|fail))))|(refine z0r rfl ?_;rw [z04])|(refine z6 rfl rfl ?_;rw [z04])|fail)
theorem z0n7:z6i 8:=by
 intro l s0 s ht nn k R again' hl16 hsl hfit hk hx hF hO;have hcase:=z2y hfit;have hs0t:s.take (((s.length:Nat):Int) - 0).toNat=s:=(by rw [show (((s.length:Nat):Int) - 0).toNat=s.length by omega];exact zY1a);simp only [z2s,Int.reduceEq,if_true,if_false] at hF hO;unfold z9g;with_unfolding_all show den z55 _ (z1l z0c) [_,_,_,_,_,_,_,_,_,_,_,_,_,_,_,_,_,_,_,_,_] _=_;simp only [z0c,z1l]
 rcases hcase with ⟨c1,c2⟩|⟨a,t,fa,p1,p3,p4,p5,⟨c1,c2⟩|⟨b,u,fb,q1,q3,q4,q5⟩⟩
 ·try simp only [c2,z1c,z1k,zY09] at hF hO
  repeat' (first|refine dq1 ?_|refine dqc ?_|refine dqm ?_|refine dqT ?_|refine z4 (zr (d:=I 2) rfl rfl rfl) ?_|exact z5 rfl (by rw [hF (by (repeat' (first|simp only [zY05,zY09]|fail)))];rfl)|fail)
 ·try simp only [p1,c2,z1c,z1k,zY09,zY05] at hF hO
  obtain ⟨fa1,fa2⟩:=id fa
  repeat' (first|refine dq1 ?_|refine dqc ?_|refine dqm ?_|refine dqT ?_|refine z4 (zr (d:=I 2) rfl rfl rfl) ?_|exact z5 rfl (by rw [hF (by (repeat' (first|simp only [zY05,zY09]|fail)))];rfl)|fail)
 ·try simp only [p1,q1,z1c,z1k,zY09,zY05] at hF hO
  obtain ⟨fa1,fa2⟩:=id fa;obtain ⟨fb1,fb2⟩:=id fb
  by_cases hab:b<a
  ·have e7:z18 (decide (b<a))=1:=by with_unfolding_all simp [z18,hab]
   rw [e7] at hF hO
   repeat' (first|refine dq1 ?_|refine dqc ?_|refine dqm ?_|refine dqk rfl (z0n _) ?_|refine dqT ?_|refine dqF ?_|refine z0h rfl ?_|refine z0m rfl ?_|refine z4 (zr (d:=I 2) rfl rfl rfl) ?_|refine z1w (z0z rfl rfl (by omega) (by simp)) ?_|refine z4 (z0w rfl rfl (by omega) rfl rfl) ?_|refine z4 (z20 rfl rfl) ?_|exact z6 rfl rfl (hO _ (by (repeat' (first|rw [z0b (by omega) (by omega) (by omega)]|fail))))|(refine z0r rfl ?_;rw [z04])|(refine z6 rfl rfl ?_;rw [z04])|fail)
  ·have e7:z18 (decide (b<a))=0:=by with_unfolding_all simp [z18,hab]
   rw [e7] at hF hO
   repeat' (first|refine dq1 ?_|refine dqc ?_|refine dqm ?_|refine dqk rfl (z0n _) ?_|refine dqT ?_|refine dqF ?_|refine z0h rfl ?_|refine z0m rfl ?_|refine z4 (zr (d:=I 2) rfl rfl rfl) ?_|refine z1w (z0z rfl rfl (by omega) (by simp)) ?_|refine z4 (z0w rfl rfl (by omega) rfl rfl) ?_|refine z4 (z20 rfl rfl) ?_|exact z6 rfl rfl (hO _ (by (repeat' (first|rw [z0b (by omega) (by omega) (by omega)]|fail))))|(refine z0r rfl ?_;rw [z04])|(refine z6 rfl rfl ?_;rw [z04])|fail)
end
section
open Go.RowKit
set_option maxRecDepth 100000
set_option maxHeartbeats 8000000
attribute [local irreducible] z00 spD z1e z91 z18 z62
attribute [local irreducible] den denX z0f z0k
theorem z0n8:z6i 9:=by
 intro l s0 s ht nn k R again' hl16 hsl hfit hk hx hF hO;have hcase:=z2y hfit;have hs0t:s.take (((s.length:Nat):Int) - 0).toNat=s:=(by rw [show (((s.length:Nat):Int) - 0).toNat=s.length by omega];exact zY1a);simp only [z2s,Int.reduceEq,if_true,if_false] at hF hO;unfold z9g;with_unfolding_all show den z55 _ (z1l z0c) [_,_,_,_,_,_,_,_,_,_,_,_,_,_,_,_,_,_,_,_,_] _=_;simp only [z0c,z1l]
 rcases hcase with ⟨c1,c2⟩|⟨a,t,fa,p1,p3,p4,p5,-⟩
 ·try simp only [c2,z1c,z1k,zY09] at hF hO
  repeat' (first|refine dq1 ?_|refine dqc ?_|refine dqm ?_|refine dqT ?_|refine z4 (zr (d:=I 1) rfl rfl rfl) ?_|exact z5 rfl (by rw [hF (by (repeat' (first|simp only [zY05,zY09]|fail)))];rfl)|fail)
 ·try simp only [p1,z1c,z1k,zY09,zY05] at hF hO
  obtain ⟨fa1,fa2⟩:=id fa
  by_cases ha0:a=0
  ·have e7:z18 (decide (a=0))=1:=by with_unfolding_all simp [z18,ha0]
   rw [e7] at hF hO
   repeat' (first|refine dq1 ?_|refine dqc ?_|refine dqm ?_|refine dqk rfl (z0n _) ?_|refine dqT ?_|refine dqF ?_|refine z0h rfl ?_|refine z0m rfl ?_|refine z4 (zr (d:=I 1) rfl rfl rfl) ?_|refine z1w (z0z rfl rfl (by omega) (by simp)) ?_|refine z4 (z0w rfl rfl (by omega) rfl rfl) ?_|refine z4 (z20 rfl rfl) ?_|exact z6 rfl rfl (hO _ (by (repeat' (first|rw [z0b (by omega) (by omega) (by omega)]|fail))))|(refine z0r rfl ?_;rw [z04])|(refine z6 rfl rfl ?_;rw [z04])|fail)
  ·have e7:z18 (decide (a=0))=0:=by with_unfolding_all simp [z18,ha0]
   rw [e7] at hF hO
   repeat' (first|refine dq1 ?_|refine dqc ?_|refine dqm ?_|refine dqk rfl (z0n _) ?_|refine dqT ?_|refine dqF ?_|refine z0h rfl ?_|refine z0m rfl ?_|refine z4 (zr (d:=I 1) rfl rfl rfl) ?_|refine z1w (z0z rfl rfl (by omega) (by simp)) ?_|refine z4 (z0w rfl rfl (by omega) rfl rfl) ?_|refine z4 (z20 rfl rfl) ?_|exact z6 rfl rfl (hO _ (by (repeat' (first|rw [z0b (by omega) (by omega) (by omega)]|fail))))|(refine z0r rfl ?_;rw [z04])|(refine z6 rfl rfl ?_;rw [z04])|fail)
theorem z0k3:z6i 10:=by
 intro l s0 s ht nn k R again' hl16 hsl hfit hk hx hF hO;have hcase:=z2y hfit;have hs0t:s.take (((s.length:Nat):Int) - 0).toNat=s:=(by rw [show (((s.length:Nat):Int) - 0).toNat=s.length by omega];exact zY1a);simp only [z2s,Int.reduceEq,if_true,if_false] at hF hO;unfold z9g;with_unfolding_all show den z55 _ (z1l z0c) [_,_,_,_,_,_,_,_,_,_,_,_,_,_,_,_,_,_,_,_,_] _=_;simp only [z0c,z1l]
 rcases hcase with ⟨c1,c2⟩|⟨a,t,fa,p1,p3,p4,p5,⟨c1,c2⟩|⟨b,u,fb,q1,q3,q4,q5⟩⟩
 ·try simp only [c2,z1c,z1k,zY09] at hF hO
  repeat' (first|refine dq1 ?_|refine dqc ?_|refine dqm ?_|refine dqT ?_|refine z4 (zr (d:=I 2) rfl rfl rfl) ?_|exact z5 rfl (by rw [hF (by (repeat' (first|simp only [zY05,zY09]|fail)))];rfl)|fail)
 ·try simp only [p1,c2,z1c,z1k,zY09,zY05] at hF hO
  obtain ⟨fa1,fa2⟩:=id fa
  repeat' (first|refine dq1 ?_|refine dqc ?_|refine dqm ?_|refine dqT ?_|refine z4 (zr (d:=I 2) rfl rfl rfl) ?_|exact z5 rfl (by rw [hF (by (repeat' (first|simp only [zY05,zY09]|fail)))];rfl)|fail)
 ·try simp only [p1,q1,z1c,z1k,zY09,zY05] at hF hO
  obtain ⟨fa1,fa2⟩:=id fa;obtain ⟨fb1,fb2⟩:=id fb;have hm0 : -9223372036854775808≤b * a∧b * a≤9223372036854775807:=by
   have h1:(b * a).natAbs≤1000000 * 1000000:=by rw [Int.natAbs_mul];exact Nat.mul_le_mul (by omega) (by omega)
   omega
  by_cases hb0:b=0
  ·have e7:z18 (decide (b≠0) && decide (a≠0))=0:=by with_unfolding_all simp [z18,hb0]
   rw [e7] at hF hO;have hz:¬ b * a≠0:=by rw [hb0];simp
   repeat' (first|refine dq1 ?_|refine dqc ?_|refine dqm ?_|refine dqk rfl (z0n _) ?_|refine dqT ?_|refine dqF ?_|refine z0h rfl ?_|refine z0m rfl ?_|refine z4 (zr (d:=I 2) rfl rfl rfl) ?_|refine z1w (z0z rfl rfl (by omega) (by simp)) ?_|refine z4 (z0w rfl rfl (by omega) rfl rfl) ?_|refine z4 (z20 rfl rfl) ?_|refine z4 (ze6 rfl rfl (by omega)) ?_|exact z6 rfl rfl (hO _ (by (repeat' (first|rw [z0b (by omega) (by omega) (by omega)]|fail))))|(refine z0r rfl ?_;rw [z04])|(refine z6 rfl rfl ?_;rw [z04])|fail)
  ·by_cases ha0:a=0
   ·have e7:z18 (decide (b≠0) && decide (a≠0))=0:=by with_unfolding_all simp [z18,ha0]
    rw [e7] at hF hO;have hz:¬ b * a≠0:=by rw [ha0];simp
    repeat' (first|refine dq1 ?_|refine dqc ?_|refine dqm ?_|refine dqk rfl (z0n _) ?_|refine dqT ?_|refine dqF ?_|refine z0h rfl ?_|refine z0m rfl ?_|refine z4 (zr (d:=I 2) rfl rfl rfl) ?_|refine z1w (z0z rfl rfl (by omega) (by simp)) ?_|refine z4 (z0w rfl rfl (by omega) rfl rfl) ?_|refine z4 (z20 rfl rfl) ?_|refine z4 (ze6 rfl rfl (by omega)) ?_|exact z6 rfl rfl (hO _ (by (repeat' (first|rw [z0b (by omega) (by omega) (by omega)]|fail))))|(refine z0r rfl ?_;rw [z04])|(refine z6 rfl rfl ?_;rw [z04])|fail)
   ·have e7:z18 (decide (b≠0) && decide (a≠0))=1:=by with_unfolding_all simp [z18,hb0,ha0]
    rw [e7] at hF hO;have hz:b * a≠0:=Int.mul_ne_zero hb0 ha0
    repeat' (first|refine dq1 ?_|refine dqc ?_|refine dqm ?_|refine dqk rfl (z0n _) ?_|refine dqT ?_|refine dqF ?_|refine z0h rfl ?_|refine z0m rfl ?_|refine z4 (zr (d:=I 2) rfl rfl rfl) ?_|refine z1w (z0z rfl rfl (by omega) (by simp)) ?_|refine z4 (z0w rfl rfl (by omega) rfl rfl) ?_|refine z4 (z20 rfl rfl) ?_|refine z4 (ze6 rfl rfl (by omega)) ?_|exact z6 rfl rfl (hO _ (by (repeat' (first|rw [z0b (by omega) (by omega) (by omega)]|fail))))|(refine z0r rfl ?_;rw [z04])|(refine z6 rfl rfl ?_;rw [z04])|fail)
theorem z0k4:z6i 11:=by
 intro l s0 s ht nn k R again' hl16 hsl hfit hk hx hF hO;have hcase:=z2y hfit;have hs0t:s.take (((s.length:Nat):Int) - 0).toNat=s:=(by rw [show (((s.length:Nat):Int) - 0).toNat=s.length by omega];exact zY1a);simp only [z2s,Int.reduceEq,if_true,if_false] at hF hO;unfold z9g;with_unfolding_all show den z55 _ (z1l z0c) [_,_,_,_,_,_,_,_,_,_,_,_,_,_,_,_,_,_,_,_,_] _=_;simp only [z0c,z1l]
 rcases hcase with ⟨c1,c2⟩|⟨a,t,fa,p1,p3,p4,p5,⟨c1,c2⟩|⟨b,u,fb,q1,q3,q4,q5⟩⟩
 ·try simp only [c2,z1c,z1k,zY09] at hF hO
  repeat' (first|refine dq1 ?_|refine dqc ?_|refine dqm ?_|refine dqT ?_|refine z4 (zr (d:=I 1) rfl rfl rfl) ?_|exact z5 rfl (by rw [hF (by (repeat' (first|simp only [zY05,zY09]|fail)))];rfl)|fail)
 ·try simp only [p1,c2,z1c,z1k,zY09,zY05] at hF hO
  obtain ⟨fa1,fa2⟩:=id fa
  repeat' (first|refine dq1 ?_|refine dqc ?_|refine dqm ?_|refine dqT ?_|refine dqF ?_|refine z0h rfl ?_|refine z4 (zr (d:=I 1) rfl rfl rfl) ?_|exact z5 rfl (by rw [hF (by (repeat' (first|rw [if_pos (by omega)]|fail)))];rfl)|exact z6 rfl rfl (hO _ (by (repeat' (first|rw [if_neg (by omega)]|fail))))|(refine z0r rfl ?_;rw [z04])|refine z36 rfl (fun h=>?_) (fun h=>?_)|fail)
 ·try simp only [p1,q1,z1c,z1k,zY09,zY05] at hF hO
  obtain ⟨fa1,fa2⟩:=id fa;obtain ⟨fb1,fb2⟩:=id fb
  repeat' (first|refine dq1 ?_|refine dqc ?_|refine dqm ?_|refine dqT ?_|refine dqF ?_|refine z0h rfl ?_|refine z4 (zr (d:=I 1) rfl rfl rfl) ?_|exact z5 rfl (by rw [hF (by (repeat' (first|rw [if_pos (by omega)]|fail)))];rfl)|exact z6 rfl rfl (hO _ (by (repeat' (first|rw [if_neg (by omega)]|fail))))|(refine z0r rfl ?_;rw [z04])|refine z36 rfl (fun h=>?_) (fun h=>?_)|fail)
theorem z0k5:z6i 12:=by
 intro l s0 s ht nn k R again' hl16 hsl hfit hk hx hF hO;have hcase:=z2y hfit;have hs0t:s.take (((s.length:Nat):Int) - 0).toNat=s:=(by rw [show (((s.length:Nat):Int) - 0).toNat=s.length by omega];exact zY1a);simp only [z2s,Int.reduceEq,if_true,if_false] at hF hO;unfold z9g;with_unfolding_all show den z55 _ (z1l z0c) [_,_,_,_,_,_,_,_,_,_,_,_,_,_,_,_,_,_,_,_,_] _=_;simp only [z0c,z1l]
 rcases hcase with ⟨c1,c2⟩|⟨a,t,fa,p1,p3,p4,p5,⟨c1,c2⟩|⟨b,u,fb,q1,q3,q4,q5⟩⟩
 ·try simp only [c2,z1c,z1k,zY09] at hF hO
  repeat' (first|refine dq1 ?_|refine dqc ?_|refine dqm ?_|refine dqk rfl (z0n _) ?_|refine dqT ?_|refine dqF ?_|refine z0h rfl ?_|refine z0m rfl ?_|refine z4 (zr (d:=I 0) rfl rfl rfl) ?_|refine z1w (z0z rfl rfl (by omega) (by simp)) ?_|refine z4 (z0w rfl rfl (by omega) rfl rfl) ?_|refine z4 (z20 rfl rfl) ?_|exact z5 rfl (by rw [hF (by (repeat' (first|rw [z29 (by omega)]|fail)))];rfl)|exact z6 rfl rfl (hO _ (by (repeat' (first|rw [z0b (by omega) (by omega) (by omega)]|fail))))|(refine z0r rfl ?_;rw [z04])|(refine z6 rfl rfl ?_;rw [z04])|refine tZn (fun h=>?_) (fun h=>?_)|fail)
 ·try simp only [p1,c2,z1c,z1k,zY09,zY05] at hF hO
  obtain ⟨fa1,fa2⟩:=id fa
  repeat' (first|refine dq1 ?_|refine dqc ?_|refine dqm ?_|refine dqk rfl (z0n _) ?_|refine dqT ?_|refine dqF ?_|refine z0h rfl ?_|refine z0m rfl ?_|refine z4 (zr (d:=I 0) rfl rfl rfl) ?_|refine z1w (z0z rfl rfl (by omega) (by simp)) ?_|refine z4 (z0w rfl rfl (by omega) rfl rfl) ?_|refine z4 (z20 rfl rfl) ?_|exact z5 rfl (by rw [hF (by (repeat' (first|rw [z29 (by omega)]|fail)))];rfl)|exact z6 rfl rfl (hO _ (by (repeat' (first|rw [z0b (by omega) (by omega) (by omega)]|fail))))|(refine z0r rfl ?_;rw [z04])|(refine z6 rfl rfl ?_;rw [z04])|refine tZn (fun h=>?_) (fun h=>?_)|fail)
 ·try simp only [p1,q1,z1c,z1k,zY09,zY05] at hF hO
  obtain ⟨fa1,fa2⟩:=id fa;obtain ⟨fb1,fb2⟩:=id fb
  repeat' (first|refine dq1 ?_|refine dqc ?_|refine dqm ?_|refine dqk rfl (z0n _) ?_|refine dqT ?_|refine dqF ?_|refine z0h rfl ?_|refine z0m rfl ?_|refine z4 (zr (d:=I 0) rfl rfl rfl) ?_|refine z1w (z0z rfl rfl (by omega) (by simp)) ?_|refine z4 (z0w rfl rfl (by omega) rfl rfl) ?_|refine z4 (z20 rfl rfl) ?_|exact z5 rfl (by rw [hF (by (repeat' (first|rw [z29 (by omega)]|fail)))];rfl)|exact z6 rfl rfl (hO _ (by (repeat' (first|rw [z0b (by omega) (by omega) (by omega)]|fail))))|(refine z0r rfl ?_;rw [z04])|(refine z6 rfl rfl ?_;rw [z04])|refine z36 rfl (fun h=>?_) (fun h=>?_)|refine tZn (fun h=>?_) (fun h=>?_)|fail)
theorem zdu {x:Int} (h0:0≤x):0≤z15 x∧z15 x<1000003:=by
 unfold z15;exact ⟨zY3p _ (by omega),Int.tmod_lt_of_pos _ (by omega)⟩
theorem z0k6:z6i 13:=by
 intro l s0 s ht nn k R again' hl16 hsl hfit hk hx hF hO;have hcase:=z2y hfit;have hs0t:s.take (((s.length:Nat):Int) - 0).toNat=s:=(by rw [show (((s.length:Nat):Int) - 0).toNat=s.length by omega];exact zY1a);simp only [z2s,Int.reduceEq,if_true,if_false] at hF hO;unfold z9g;with_unfolding_all show den z55 _ (z1l z0c) [_,_,_,_,_,_,_,_,_,_,_,_,_,_,_,_,_,_,_,_,_] _=_;simp only [z0c,z1l]
 rcases hcase with ⟨c1,c2⟩|⟨a,t,fa,p1,p3,p4,p5,-⟩
 ·try simp only [c2,z1c,z1k,zY09] at hF hO
  repeat' (first|refine dq1 ?_|refine dqc ?_|refine dqm ?_|refine dqT ?_|refine z4 (zr (d:=I 1) rfl rfl rfl) ?_|exact z5 rfl (by rw [hF (by (repeat' (first|simp only [zY05,zY09]|fail)))];rfl)|fail)
 ·try simp only [p1,z1c,z1k,zY09,zY05] at hF hO
  obtain ⟨fa1,fa2⟩:=id fa;obtain ⟨x1,hx1⟩:∃ x,x=z15 (a+1000000):=⟨_,rfl⟩
  obtain ⟨x2,hx2⟩:∃ x,x=z15 x1:=⟨_,rfl⟩
  obtain ⟨x3,hx3⟩:∃ x,x=z15 x2:=⟨_,rfl⟩
  obtain ⟨x4,hx4⟩:∃ x,x=x3.tmod 1000001:=⟨_,rfl⟩
  have b1:=zdu (x:=a+1000000) (by omega);rw [← hx1] at b1;have b2:=zdu b1.1;rw [← hx2] at b2;have b3:=zdu b2.1;rw [← hx3] at b3;have em:z91 a=x4:=by
   with_unfolding_all show (z15 (z15 (z15 (a+1000000)))).tmod 1000001=x4
   rw [← hx1,← hx2,← hx3,← hx4]
  have b4:=zY3p (1000001:Int) b3.1;have b5:=Int.tmod_lt_of_pos x3 (b:=1000001) (by omega);rw [← hx4] at b4 b5;have r1:((a+1000000) * 7919+104729).tmod 1000003=x1:=hx1.symm;have r2:(x1 * 7919+104729).tmod 1000003=x2:=hx2.symm;have r3:(x2 * 7919+104729).tmod 1000003=x3:=hx3.symm;have r4:x3.tmod 1000001=x4:=hx4.symm;rw [em] at hF hO;clear hx1 hx2 hx3 hx4 em
  repeat' (first|refine dq1 ?_|refine dqc ?_|refine dqm ?_|refine dqk rfl (z0n _) ?_|refine dqT ?_|refine dqF ?_|refine z0h rfl ?_|refine z0m rfl ?_|refine z8d ?_|refine z4 (zr (d:=I 1) rfl rfl rfl) ?_|refine z1w (z0z rfl rfl (by omega) (by simp)) ?_|refine z4 (z0w rfl rfl (by omega) rfl rfl) ?_|refine z4 (z20 rfl rfl) ?_|refine z4 (ze6 rfl rfl (by omega)) ?_|refine z4 (z0k2 rfl rfl (by decide) (by assumption)) ?_|exact z6 rfl rfl (hO _ (by (repeat' (first|rw [z0b (by omega) (by omega) (by omega)]|fail))))|(refine z0r rfl ?_;rw [z04])|(refine z6 rfl rfl ?_;rw [z04])|fail)
end
end Go.Proofs.YtaddehddalnliaaGreatDoor
