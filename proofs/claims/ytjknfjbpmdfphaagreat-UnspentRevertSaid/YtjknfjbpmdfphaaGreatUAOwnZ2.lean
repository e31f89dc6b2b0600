/- Own texts, put together by wip/bundle.py: VQ6, VQ7, VQ8, VQ9, VQ10, VL1, VL2, VL3, VRow, VDel, VIns, VU8, VUB, VPU, VUD, VUE, VL5, VL5a, VT0, VT1, VLP, VL5b. -/
import Derived.Sort.AssemblyPlain
import Derived.Shelf.SlSortFuncK.BreakPatternsK
import Derived.Shelf.GgSortFunc.SmallK
import Derived.Shelf.GgSortFunc.Slice
import Derived.Shelf.GgSortFunc.Tiny
import Derived.Test.YtjknfjbpmdfphaaGreatShelf4
import Derived.Laws.IdiomCopy
import Derived.Lib.AppendZerosOnto
import Derived.Deep.RegionLaw
import Derived.Lib.Hide
import Derived.Laws.Externs
import Derived.Laws.NewBlocks
import Derived.Lib.ItoaNum
import Derived.Lib.AtoiAll
import Derived.Lib.Join
import Derived.Lib.Split
import Derived.Test.YtjknfjbpmdfphaaGreatUAOwnB
import Derived.Test.YtjknfjbpmdfphaaGreatUAOwnC
import Derived.Test.YtjknfjbpmdfphaaGreatUAOwnR
import Derived.Test.YtjknfjbpmdfphaaGreatUAOwnV2
import Derived.Test.YtjknfjbpmdfphaaGreatUAOwnZ1
set_option linter.unusedVariables false
set_option linter.unusedSimpArgs false
namespace Go.Proofs.YtjknfjbpmdfphaaGreat
section
open Go.RowKit Go.Sort
set_option maxRecDepth 100000
set_option maxHeartbeats 8000000
section
variable {α:Type} [Inhabited α] {lt:α→α→Bool} {n B lf sf:Nat} {lb sb:Array Value} {St:Array α→World→Prop}
theorem z59 {a b:Nat} {d d1 d2:Array α} (h:PermIn a b d d1) (k:PermIn a b d1 d2):PermIn a b d d2 :=
 ⟨k.1.trans h.1,fun i hi=>(k.2.1 i hi).trans (h.2.1 i hi),k.2.2.trans h.2.2⟩
theorem z03a (a b:Nat) (d:Array α):PermIn a b d d:=⟨rfl,fun _ _=>rfl,List.Perm.refl _⟩
theorem z05h {h:Go.Sort.Hint} (e:¬ h = .decreasing):¬ z58 h=2:=by cases h <;> simp_all [z58]
theorem z0aj (S:Srt lt n B lf lb sf sb St) (hO:SWO lt)
  (hbrk:∀ (w:World) (d:Array α) (a b:Nat),St d w→a≤b→b≤n→Calls Tryz.prog 87 #[.agg #[.func (.func lf) #[] lb,.func (.func sf) #[] sb],.int .i64 a,.int .i64 b] w fun e w'=>e = .returned (.tuple #[])∧St (breakPatterns d a b) w'∧Fwd B w w') :
  ∀ (N:Nat) (w:World) (d:Array α) (a b limit:Nat),b - a<N→St d w→a≤b→b≤n→limit<4611686018427387904→Below lt a b d →
  Calls Tryz.prog 71 #[.agg #[.func (.func lf) #[] lb,.func (.func sf) #[] sb],.int .i64 a,.int .i64 b,.int .i64 limit] w fun e w'=>e = .returned (.tuple #[])∧(∃ d',PermIn a b d d'∧SortedIn lt a b d'∧St d' w')∧Fwd B w w':=by
 intro N
 induction N with
 | zero=>intro w d a b limit h;exact absurd h (Nat.not_lt_zero _)
 | succ N ih =>
  intro w d a b limit hN h hab hb hlim hBel;have hw:=S.base h;have hOn:=On.start S h;have hbig:=S.big;have eg:=S.enters;have IH:=Lib.hid ih;have HB:=Lib.hid hbrk;clear ih hbrk;go_enter Tryz.func71,Tryz.ntmps71;go_wp2;go_loopg [1,2,3,8,9] (b - a+1) (fun kx s1 s2 s3 s8 s9 wr=>∃ (a1 b1 lim:Nat) (wb wp:Bool) (dk:Array α),s1 = .int .i64 a1∧s2 = .int .i64 b1∧s3 = .int .i64 lim∧s8 = .bool wb∧s9 = .bool wp ∧
   a1≤b1∧b1≤n∧b1 - a1<kx∧b1 - a1≤b - a∧lim≤limit∧Below lt a1 b1 dk∧On B lf lb sf sb St w dk wr∧Hid (∀ R,PermIn a1 b1 dk R→SortedIn lt a1 b1 R→PermIn a b d R∧SortedIn lt a b R))
  case atStart=>exact ⟨a,b,limit,true,true,d,rfl,rfl,rfl,rfl,rfl,hab,hb,by omega,zY0t _,zY0t _,hBel,hOn,fun R h1 h2=>⟨h1,h2⟩⟩
  case round =>
   obtain ⟨a1,b1,lim,wb,wp,dk,rfl,rfl,rfl,rfl,rfl,hab1,hb1,hkx,hle,hl1,hBk,hW,HR⟩:=hrel;clear hOn;have hsz:=S.size hW.st;have c0:=hW.c0;have c1:=hW.c1;have HBk:=Lib.hid hBk;clear hBk
   by_cases h12:b1 - a1≤12
   ·have h12z:(b1:Int) - (a1:Int)≤12:=by omega
    have hc:=z02z S hW.st hab1 hb1;go_wp2_with (go_at_call 85;refine hc.mono ?_;rintro e w1 ⟨rfl,hU⟩;simp only [];clear hc)
    ((try simp only [Exit.inBlock,Exit.then]);refine bodyPost_ret (results_none rfl _ _ _) rfl ?_)
    have hp:=insertionSort_holds hO dk a1 b1 hab1 (by omega);have hr:=HR.out _ hp.1 hp.2;exact ⟨rfl,⟨_,hr.1,hr.2,hU.1⟩,(hW.call hw hU).fwd⟩
   have h12z:¬ (b1:Int) - (a1:Int)≤12:=by omega
   by_cases hl0:lim=0
   ·have hl0z:(lim:Int)=0:=by omega
    have hl0b:((lim:Int) == 0)=true:=by rw [hl0z];rfl
    have hc:=z09q S hW.st (a:=a1) (b:=b1) (by omega) hb1;go_wp2_with (go_at_call 86;refine hc.mono ?_;rintro e w1 ⟨rfl,hU⟩;simp only [];clear hc)
    ((try simp only [Exit.inBlock,Exit.then]);refine bodyPost_ret (results_none rfl _ _ _) rfl ?_)
    have hp:=heapSort_holds hO dk a1 b1 hab1 (by omega);have hr:=HR.out _ hp.1 hp.2;exact ⟨rfl,⟨_,hr.1,hr.2,hU.1⟩,(hW.call hw hU).fwd⟩
   have hl0z:¬ (lim:Int)=0:=by omega
   have hl0b:((lim:Int) == 0)=false:=by simp;omega
   go_upto_if 35 with fail
   go_cut [3] (fun s3 wx=>∃ (lim1:Nat) (d1:Array α),s3 = .int .i64 lim1∧lim1≤lim∧PermIn a1 b1 dk d1∧On B lf lb sf sb St w d1 wx)
   case first =>
    cases wb with
    | false =>
     have hc:=HB.out _ _ _ _ hW.st hab1 hb1;go_wp2_with (go_at_call 87;refine hc.mono ?_;rintro e w1 ⟨rfl,hU⟩;simp only [];clear hc);go_meet;exact ⟨lim - 1,_,by go_num,by omega,breakPatterns_holds dk a1 b1 hab1 (by omega),hW.call hw hU⟩
    | true =>
     go_wp2_with fail;go_meet;exact ⟨lim,dk,rfl,zY0t _,z03a _ _ _,hW⟩
   case rest =>
    obtain ⟨lim1,d1,rfl,hl2,hp1,hW1⟩:=hcut;clear hW c0 c1;have c0:=hW1.c0;have c1:=hW1.c1;have hs1:=S.size hW1.st;have hc:=z05c S hW1.st (a:=a1) (b:=b1) (by omega) hb1;have hcr:=choosePivot_holds lt d1 a1 b1 (by omega);generalize choosePivot lt d1 a1 b1=C at hc hcr;obtain ⟨p,hh⟩:=C;simp only at hc hcr;have HP1:=Lib.hid hp1;clear hp1;go_upto_if 50 with fail
    refine hc.mono ?_;rintro e w2 ⟨rfl,hU⟩;simp only [];clear hc;go_upto_if 50 with fail
    have hW2:=hW1.call hw hU;clear hW1 c0 c1 hU;have c0:=hW2.c0;have c1:=hW2.c1;go_cut [11,12] (fun s11 s12 wx=>∃ (q:Nat) (z:Int) (d2:Array α),s11 = .int .i64 q∧s12 = .int .i64 z∧a1≤q∧q<b1∧PermIn a1 b1 dk d2∧On B lf lb sf sb St w d2 wx)
    case first =>
     by_cases hd:hh = .decreasing
     ·subst hd
      have hc:=z007 S hW2.st (a:=a1) (b:=b1) (by omega) hb1;go_wp2_with (go_at_call 89;refine hc.mono ?_;rintro e w3 ⟨rfl,hU⟩;simp only [];clear hc);go_meet;exact ⟨(b1 - 1) - (p - a1),1,_,by congr 1;omega,rfl,by omega,by omega,z59 HP1.out (reverseRange_holds d1 a1 b1 hab1 (by omega)),hW2.call hw hU⟩
     ·have hz:¬ z58 hh=2:=z05h hd
      have hzb:(z58 hh == 2)=false:=beq_eq_false_iff_ne.2 hz;go_wp2_with fail;go_meet;exact ⟨p,_,d1,rfl,rfl,hcr.1,hcr.2,HP1.out,hW2⟩
    case rest =>
     obtain ⟨q,z,d2,rfl,rfl,hq1,hq2,hp2,hW3⟩:=hcut;clear hW2 c0 c1;have c0:=hW3.c0;have c1:=hW3.c1;have HP2:=Lib.hid hp2;clear hp2 hcr HP1 hs1;go_upto_region 16 with fail
     go_cut [68] (fun s68 wx=>(∃ t:Bool,s68 = .bool t)∧wx=wc)
     case first =>
      cases wb <;> cases wp <;> (go_wp2_with fail;go_meet;exact ⟨⟨_,rfl⟩,rfl⟩)
     case rest =>
      obtain ⟨⟨t,rfl⟩,rfl⟩:=hcut;have hs2:=S.size hW3.st;go_upto_if 68 with fail
      go_cut [] (fun wx=>∃ d3:Array α,PermIn a1 b1 dk d3∧On B lf lb sf sb St w d3 wx)
      case first =>
       cases t with
       | false =>
        go_wp2_with fail;go_meet;exact ⟨d2,HP2.out,hW3⟩
       | true =>
        have hc:=z039 S hW3.st (a:=a1) (b:=b1) (by omega) hb1;have hpi:=partialInsertionSort_holds hO d2 a1 b1 (by omega) (by omega) (HBk.out.perm (by omega) HP2.out);generalize partialInsertionSort lt d2 a1 b1=Q at hc hpi;obtain ⟨d3,r⟩:=Q;simp only at hc hpi
        cases r with
        | true =>
         have HPI:=Lib.hid hpi;clear hpi;go_wp2_with (go_at_call 90;refine hc.mono ?_;rintro e w4 ⟨rfl,hU⟩;simp only [];clear hc)
         ((try simp only [Exit.inBlock,Exit.then]);refine bodyPost_ret (results_none rfl _ _ _) rfl ?_)
         have hr:=HR.out _ (z59 HP2.out HPI.out.1) (by first|exact HPI.out.2 rfl|exact HPI.out.2 trivial);exact ⟨rfl,⟨_,hr.1,hr.2,hU.1⟩,(hW3.call hw hU).fwd⟩
        | false =>
         have HPI:=Lib.hid hpi;clear hpi;go_wp2_with (go_at_call 90;refine hc.mono ?_;rintro e w4 ⟨rfl,hU⟩;simp only [];clear hc);go_meet;exact ⟨d3,z59 HP2.out HPI.out.1,hW3.call hw hU⟩
      case rest =>
       obtain ⟨d3,hp3,hW5⟩:=hcut;clear hW3 c0 c1 HP2 hs2;have c0:=hW5.c0;have HP3:=Lib.hid hp3;clear hp3;have hs3:=S.size hW5.st;go_upto_region 18 with fail
       go_cut [83] (fun c wx=>c = .bool (decide (0<a1) && !lt d3[a1 - 1]! d3[q]!)∧On B lf lb sf sb St w d3 wx)
       case first =>
        by_cases ha:0<a1
        ·have haz:(0:Int)<(a1:Int):=by omega
         cases hl:lt d3[a1 - 1]! d3[q]! with
         | true =>
          have hc:=hW5.less S hw (i:=a1 - 1) (j:=q) (x:=(a1:Int) - 1) (y:=q) (by omega) (by omega) (by omega) rfl hl;have HL:=Lib.hid hl;clear hl;go_wp2_with (refine hc.mono ?_;rintro e w6 ⟨rfl,hU⟩;simp only [];clear hc);go_meet;exact ⟨by rw [decide_eq_true ha,HL.out];rfl,hU⟩
         | false =>
          have hc:=hW5.less S hw (i:=a1 - 1) (j:=q) (x:=(a1:Int) - 1) (y:=q) (by omega) (by omega) (by omega) rfl hl;have HL:=Lib.hid hl;clear hl;go_wp2_with (refine hc.mono ?_;rintro e w6 ⟨rfl,hU⟩;simp only [];clear hc);go_meet;exact ⟨by rw [decide_eq_true ha,HL.out];rfl,hU⟩
        ·have haz:¬ (0:Int)<(a1:Int):=by omega
         go_wp2_with fail;go_meet;exact ⟨by rw [decide_eq_false ha];rfl,hW5⟩
       case rest =>
        obtain ⟨rfl,hW6⟩:=hcut;clear hW5 c0;have c0:=hW6.c0;have c1:=hW6.c1;have HB3:Hid (Below lt a1 b1 d3):=HBk.out.perm (by omega) HP3.out
        cases ht:(decide (0<a1) && !lt d3[a1 - 1]! d3[q]!) with
        | true =>
         rw [zY0c] at ht;have ha:0<a1:=of_decide_eq_true ht.1;have hnl:lt d3[a1 - 1]! d3[q]! = false:=by simpa using ht.2
         have hc:=z05d S hW6.st (a:=a1) (b:=b1) (pivot:=q) (by omega) hb1 (by omega);have hre:=fun mid d4=>@round_eq α _ lt hO (partitionEqual_holds lt) d3 d4 a1 b1 q mid ha hq1 hq2 (by omega) HB3.out hnl
         generalize partitionEqual lt d3 a1 b1 q=Q at hc hre;obtain ⟨mid,d4⟩:=Q;obtain ⟨r1,r2,r3,r4,r5⟩:=hre mid d4 rfl;simp only at hc;have R4:=Lib.hid r4;have R5:=Lib.hid r5;clear ht hnl hre r4 r5;go_wp2_with (go_at_call 91;refine hc.mono ?_;rintro e w7 ⟨rfl,hU⟩;simp only [];clear hc);go_roundg (b1 - a1)
         case measure=>omega
         case rel=>exact ⟨mid,b1,lim1,wb,wp,d4,rfl,rfl,rfl,rfl,rfl,r2,hb1,by omega,by omega,by omega,R4.out,hW6.call hw hU,fun R h1 h2=>HR.out R (z59 HP3.out (R5.out R h1 h2).1) (R5.out R h1 h2).2⟩
        | false =>
         clear ht;have hc:=z09r S hW6.st (a:=a1) (b:=b1) (pivot:=q) (by omega) hb1 (by omega);have hre:=fun mid ap d4=>@round_part α _ lt hO (partition_holds lt) d3 d4 a1 b1 q mid ap hq1 hq2 (by omega) HB3.out
         generalize partition lt d3 a1 b1 q=Q at hc hre;obtain ⟨mid,ap,d4⟩:=Q;obtain ⟨r1,r2,r3,r4,r5,r6,r7⟩:=hre mid ap d4 rfl;simp only at hc;have R4:=Lib.hid r4;have R5:=Lib.hid r5;have R6:=Lib.hid r6;have R7:=Lib.hid r7;clear hre r4 r5 r6 r7;go_upto_if 109 with (go_at_call 92;refine hc.mono ?_;rintro e w7 ⟨rfl,hU⟩;simp only [];clear hc)
         have hW7:=hW6.call hw hU;clear hW6 hU c0 c1;have c0:=hW7.c0;have c1:=hW7.c1
         by_cases h4:mid - a1<b1 - mid
         ·have h4z:(mid:Int) - (a1:Int)<(b1:Int) - (mid:Int):=by omega
          have hc:=IH.out _ _ a1 mid lim1 (by omega) hW7.st (by omega) (by omega) (by omega) R4.out;go_wp2_with (go_at_call 71;refine hc.mono ?_;rintro e w8 ⟨rfl,⟨d5,hp5,hs5,hU5⟩,hF5⟩;simp only [];have HP5:=Lib.hid hp5;have HS5:=Lib.hid hs5;clear hc hp5 hs5);go_roundg (b1 - a1)
          case measure=>omega
          case rel=>exact ⟨mid+1,b1,lim1,_,ap,d5,by go_num,rfl,rfl,rfl,rfl,by omega,hb1,by omega,by omega,by omega,(R6.out _ HP5.out HS5.out).1,hW7.call hw ⟨hU5,hF5⟩,fun R h1 h2=>HR.out R (z59 HP3.out ((R6.out _ HP5.out HS5.out).2 R h1 h2).1) ((R6.out _ HP5.out HS5.out).2 R h1 h2).2⟩
         ·have h4z:¬ (mid:Int) - (a1:Int)<(b1:Int) - (mid:Int):=by omega
          have hc:=IH.out _ _ (mid+1) b1 lim1 (by omega) hW7.st (by omega) hb1 (by omega) R5.out;rw [show ((mid+1:Nat):Int)=(mid:Int)+1 by omega] at hc;go_wp2_with (go_at_call 71;refine hc.mono ?_;rintro e w8 ⟨rfl,⟨d5,hp5,hs5,hU5⟩,hF5⟩;simp only [];have HP5:=Lib.hid hp5;have HS5:=Lib.hid hs5;clear hc hp5 hs5);go_roundg (b1 - a1)
          case measure=>omega
          case rel=>exact ⟨a1,mid,lim1,_,ap,d5,rfl,rfl,rfl,rfl,rfl,by omega,by omega,by omega,by omega,by omega,(R7.out _ HP5.out HS5.out).1,hW7.call hw ⟨hU5,hF5⟩,fun R h1 h2=>HR.out R (z59 HP3.out ((R7.out _ HP5.out HS5.out).2 R h1 h2).1) ((R7.out _ HP5.out HS5.out).2 R h1 h2).2⟩
end
end
section
open Go.RowKit Go.Sort Go.Shelf Go.Lib
set_option maxRecDepth 100000
set_option maxHeartbeats 4000000
section
variable {α:Type} [Inhabited α]
theorem zyt {V W:World} {b blk:Nat} (f:Array Value→Array Value) (h:V.heap[b]? = W.heap[b]?):(mapBlock V blk f).heap[b]? = (mapBlock W blk f).heap[b]?:=by
 simp only [mapBlock,zY2a,h]
theorem zd2 {b blk:Nat}:∀ (vs:List Value) (o:Nat) {V W:World},V.heap[b]? = W.heap[b]? → (V.setCells blk o vs).heap[b]? = (W.setCells blk o vs).heap[b]?
 | [],_,_,_,h=>h
 | v::r,o,V,W,h=>by
  rw [World.setCells,World.setCells];refine zd2 r (o+1) ?_;rw [setCell_eq,setCell_eq];exact zyt _ h
theorem z80 {blk:Nat}:∀ (vs:List Value) (o:Nat) (W:World),(W.setCells blk o vs).os=W.os∧(W.setCells blk o vs).tape=W.tape∧(W.setCells blk o vs).output=W.output∧(W.setCells blk o vs).heap.size=W.heap.size∧∀ b,b≠blk→(W.setCells blk o vs).heap[b]? = W.heap[b]?
 | [],_,_=>⟨rfl,rfl,rfl,rfl,fun _ _=>rfl⟩
 | v::r,o,W=>by
  rw [World.setCells];obtain ⟨h1,h2,h3,h4,h5⟩:=z80 (blk:=blk) r (o+1) (W.setCell ⟨blk,o,none⟩ v);exact ⟨h1,h2,h3,by rw [h4];simp [World.setCell],fun b hb=>(h5 b hb).trans (heap_setCell_other W _ b _ hb)⟩
variable {p:α→Prop} {enc:α→List Value} {k n blk off:Nat} {w0:World} {lt:α→α→Bool}
theorem z05i {p:α→Prop} {a b:Nat} {d d':Array α} (h:PermIn a b d d') (hp:∀ i,i<d.size→p d[i]!):∀ i,i<d.size→p d'[i]!:=by
 intro i hi
 by_cases ho:i<a∨b≤i
 ·rw [h.2.1 i ho];exact hp i hi
 ·have hi':i<d'.size:=by rw [h.1];exact hi
  have hm:d'[i]! ∈ (d'.extract a b).toList:=by
   rw [getElem!_pos d' i hi',Array.mem_toList_iff,Array.mem_extract_iff_getElem];exact ⟨i - a,by omega,by congr 1;omega⟩
  have hm2:=h.2.2.mem_iff.1 hm;rw [Array.mem_toList_iff,Array.mem_extract_iff_getElem] at hm2;obtain ⟨k,hk,e⟩:=hm2;rw [← e];have:=hp (a+k) (by omega)
  rwa [getElem!_pos d (a+k) (by omega)] at this
def StK (p:α→Prop) (enc:α→List Value) (k:Nat) (w0:World) (blk off n:Nat) (dk:Array α) (W:World):Prop:=dk.size=n∧Below w0.heap.size (putRowK enc k w0 blk off dk) W∧∀ i,i<n→p dk[i]!
theorem z5a (w:World) (d:Array α):(putRowK enc k w blk off d).heap.size=w.heap.size:=by simp [putRowK,putRow,mapBlock]
theorem StK.holds {d0 dk:Array α} {W:World} (hblk:blk<w0.heap.size) (h0:HoldsK enc k w0 blk off d0) (hn:d0.size=n) (h:StK p enc k w0 blk off n dk W):HoldsK enc k W blk off dk:=by
 have hh:=holdsK_putRowK enc k w0 blk off d0 dk h0 (h.1.trans hn.symm);have hb:=h.2.1.block blk hblk;intro j hj;obtain ⟨h1,h2⟩:=hh j hj;constructor
 ·rw [← h1];unfold World.cell?;rw [show W.heap[(⟨blk,off+j,none⟩:Addr).block]? = _ from hb]
 ·rw [← h2];unfold World.frozen?;rw [show W.heap[(⟨blk,off+j,none⟩:Addr).block]? = _ from hb]
theorem StK.le {dk:Array α} {W:World} (h:StK p enc k w0 blk off n dk W):w0.heap.size≤W.heap.size:=by
 have:=h.2.1.size;rw [z5a] at this;exact this
theorem z09s {d0:Array α} {lf sf:Nat} {lb sb:Array Value} (hk:∀ x,(enc x).length=k) (hblk:blk<w0.heap.size) (h0:HoldsK enc k w0 blk off d0) (hn:d0.size=n) (big:n<4611686018427387904)
  (eg:∀ args w,(callFunc lf args).run Tryz.prog w = .ok (.enter lf args) w) (hswap:SwapSwapsK Tryz.prog sf sb enc k blk off n)
  (hless:∀ (dk:Array α) (W:World) (i j:Nat),StK p enc k w0 blk off n dk W→i<n→j<n→Calls Tryz.prog lf (#[.int .i64 i,.int .i64 j]++lb) W fun e W'=>e = .returned (.bool (lt dk[i]! dk[j]!))∧Below W.heap.size W W') :
  Srt lt n w0.heap.size lf lb sf sb (StK p enc k w0 blk off n) where
 big:=big
 enters:=eg
 size:=fun h=>h.1
 base:=fun h=>h.le
 keep:=fun h hb=>⟨h.1,h.2.1.trans hb,h.2.2⟩
 less:=fun i j h hi hj=>(hless _ _ i j h hi hj).mono fun e W' ⟨he,hb⟩=>⟨he,⟨h.1,h.2.1.trans (hb.mono h.le),h.2.2⟩,Fwd.below hb⟩
 swap:=fun {d W} i j h hi hj=>by
  refine ⟨_,hswap W d (h.holds hblk h0 hn) h.1 i j hi hj,?_⟩;obtain ⟨a1,a2,a3,a4,a5⟩:=z80 (blk:=blk) (enc d[j]!) (off+i * k) W;obtain ⟨b1,b2,b3,b4,b5⟩:=z80 (blk:=blk) (enc d[i]!) (off+j * k) (W.setCells blk (off+i * k) (enc d[j]!));have hsw:=putRowK_swp enc k hk w0 blk off d i j (by rw [h.1];exact hi) (by rw [h.1];exact hj);refine ⟨⟨by rw [z07k];exact h.1,?_,fun q hq=>by rw [swp_get d (by rw [h.1];exact hi) (by rw [h.1];exact hj)];split;exact h.2.2 i hi;split;exact h.2.2 j hj;exact h.2.2 q hq⟩,⟨b1.trans a1,b2.trans a2,b3.trans a3,by rw [b4,a4];exact zY0t _,fun b h1 _=>(b5 b (by omega)).trans (a5 b (by omega))⟩⟩;rw [← hsw];obtain ⟨c1,c2,c3,c4,c5⟩:=z80 (blk:=blk) (enc d[j]!) (off+i * k) (putRowK enc k w0 blk off d);obtain ⟨e1,e2,e3,e4,e5⟩:=z80 (blk:=blk) (enc d[i]!) (off+j * k) ((putRowK enc k w0 blk off d).setCells blk (off+i * k) (enc d[j]!));exact ⟨(b1.trans a1).trans (h.2.1.os.trans (e1.trans c1).symm),(b2.trans a2).trans (h.2.1.tape.trans (e2.trans c2).symm),(b3.trans a3).trans (h.2.1.output.trans (e3.trans c3).symm),by rw [b4,a4,e4,c4];exact h.2.1.size,fun b hb=>zd2 _ _ (zd2 _ _ (h.2.1.block b hb))⟩
theorem z09t {d0:Array α} {lf sf f:Nat} {lb sb:Array Value} (hblk:blk<w0.heap.size) (h0:HoldsK enc k w0 blk off d0) (hn:d0.size=n)
  (hb:∀ (d:Array α) (w:World) (a b:Nat),HoldsK enc k w blk off d→d.size=n→blk<w.heap.size→a≤b→b≤d.size→Calls Tryz.prog f #[.agg #[.func (.func lf) #[] lb,.func (.func sf) #[] sb],.int .i64 a,.int .i64 b] w fun e w'=>e = .returned (.tuple #[])∧∃ m os,w'=sortWorldK enc k w blk off m (breakPatterns d a b) os) :
  ∀ (w:World) (d:Array α) (a b:Nat),StK p enc k w0 blk off n d w→a≤b→b≤n→Calls Tryz.prog f #[.agg #[.func (.func lf) #[] lb,.func (.func sf) #[] sb],.int .i64 a,.int .i64 b] w fun e w'=>e = .returned (.tuple #[])∧StK p enc k w0 blk off n (breakPatterns d a b) w'∧Fwd w0.heap.size w w':=by
 intro w d a b h hab hbn;have hl:=h.le;refine (hb d w a b (h.holds hblk h0 hn) h.1 (by omega) hab (by rw [h.1];exact hbn)).mono ?_;rintro e w' ⟨he,m,os,rfl⟩;have hpp0:=breakPatterns_holds d a b hab (by rw [h.1];exact hbn);have hp:=hpp0.1;have hsz:(sortWorldK enc k w blk off m (breakPatterns d a b) os).heap.size=w.heap.size+os.size:=by
  unfold sortWorldK grow
  show (_++os).size=_
  rw [zY2o,z5a];rfl
 have hsm:∀ b',b'<w.heap.size→(sortWorldK enc k w blk off m (breakPatterns d a b) os).heap[b']? = (putRowK enc k w blk off (breakPatterns d a b)).heap[b']?:=fun b' hb'=>by
  unfold sortWorldK;rw [heap_grow_old _ _ (by rw [z5a];exact hb')];rfl
 refine ⟨he,⟨hp.trans h.1,?_,fun q hq=>?_⟩,?_⟩
 ·have hpp:putRowK enc k (putRowK enc k w0 blk off d) blk off (breakPatterns d a b)=putRowK enc k w0 blk off (breakPatterns d a b):=by
   unfold putRowK;exact putRow_putRow id w0 blk off _ _ (by simp [hp])
  refine ⟨h.2.1.os,h.2.1.tape,h.2.1.output,by rw [z5a,hsz];omega,fun b' hb'=>?_⟩;rw [hsm b' (by omega),← hpp];exact zyt _ (h.2.1.block b' hb')
 ·exact z05i hpp0 (fun i hi=>h.2.2 i (by rw [← h.1];exact hi)) q (by rw [h.1];exact hq)
 ·refine ⟨rfl,rfl,rfl,by rw [hsz];omega,fun b' h1 h2=>(hsm b' h2).trans ?_⟩
  unfold putRowK putRow mapBlock;rw [zY2a,if_neg (by omega)]
end
end
section
open Go.RowKit Go.Sort Go.Shelf Go.Lib
set_option maxRecDepth 100000
set_option maxHeartbeats 4000000
section
variable {α:Type} [Inhabited α]
theorem zyu {enc:α→List Value} {k blk off:Nat} {w:World} (os:Array Obj) (hblk:blk<w.heap.size) {dk:Array α} {W:World} (h:Below (grow w os).heap.size (putRowK enc k (grow w os) blk off dk) W):Below w.heap.size (putRowK enc k w blk off dk) W:=by
 rw [putRowK_grow enc k w os blk off dk hblk] at h;have hs:(grow w os).heap.size=w.heap.size+os.size:=zY2o;have hs2:(grow (putRowK enc k w blk off dk) os).heap.size=w.heap.size+os.size:=by
  show (_++os).size=_
  rw [zY2o,z5a]
 refine ⟨h.os,h.tape,h.output,?_,fun b hb=>(h.block b (by rw [hs];omega)).trans (heap_grow_old _ _ (by rw [z5a];exact hb))⟩;have:=h.size;rw [hs2] at this;rw [z5a];omega
theorem zp9 {ρ:Ren} (L:LaysGg.n6 Tryz.prog ρ) (h14:ρ.f 14=71) (h28:ρ.f 28=87) (t e:TypeId) (i ie:TypeInfo) (hi:(Tryz.prog).info? t=some i) (hd:i.desc = .slice e) (hpk:(Tryz.prog).packed t=false) (hie:(Tryz.prog).info? e=some ie) (ke:Nat) (hke:∀ w,(Extern.Rtype.kind e).run Tryz.prog w = .ok ke w)
  (enc:α→List Value) (k:Nat) (hk:∀ x,(enc x).length=k) (hs1:ie.size=k) (hagg:∀ w,(isAgg e).run Tryz.prog w = .ok true w) (h1:∀ x,∀ v ∈ enc x,v.oneCell'=true) (lt:α→α→Bool) (hO:SWO lt) (g:Nat) (lb:Array Value)
  (eg:∀ args w,(callFunc g args).run Tryz.prog w = .ok (.enter g args) w) (blk off c:Nat) (d:Array α) (h2:2≤d.size) (hsz:d.size<4611686018427387904)
  (f:Nat) (hf:(Tryz.prog).funcs.findIdx? (·.name == "internal/reflectlite" ++ ".Swapper$" ++ toString (swapperK d.size ie ke))=some f)
  (gS:Bool) (hx:∀ args W,(callFunc f args).run Tryz.prog W=((Extern.ReflectliteSwapper.swap gS args).run Tryz.prog W).andThen fun v w'=>.ok (.value v) w')
  (w:World) (hH:HoldsK enc k w blk off d) (hblk:blk<w.heap.size)
  (p:α→Prop) (hp0:∀ i,i<d.size→p d[i]!)
  (hless:∀ (dk:Array α) (W:World) (i j:Nat),dk.size=d.size→(∀ i,i<d.size→p dk[i]!)→Below w.heap.size (putRowK enc k w blk off dk) W→i<d.size→j<d.size→Calls Tryz.prog g (#[.int .i64 i,.int .i64 j]++lb) W fun e W'=>e = .returned (.bool (lt dk[i]! dk[j]!))∧Below W.heap.size W W') :
  Calls Tryz.prog (ρ.f 6) #[.iface t (.slice (some ⟨blk,off,none⟩) d.size c),.func (.func g) #[] lb] w fun e w' =>
   e = .returned (.tuple #[])∧∃ d':Array α,PermIn 0 d.size d d'∧SortedIn lt 0 d.size d'∧Below w.heap.size (putRowK enc k w blk off d') w':=by
 refine Any.sort_Slice_of_pdq L t e i ie hi hd hpk hie ke hke _ d.size c hsz f hf (.func g) #[] lb w _ ?_;have hB:sliceBound Tryz.prog e ie ke (some ⟨blk,off,none⟩) d.size c=#[.slice (some ⟨blk,off,none⟩) d.size c,typeHandle Tryz.prog e]:=by
  unfold sliceBound;rw [if_neg (swapperK_gt _ _ _ h2)]
 obtain ⟨os,hW⟩:∃ os,sliceWorld Tryz.prog ρ t (some ⟨blk,off,none⟩) d.size c w=grow w os:=⟨_,by unfold sliceWorld;rw [alloc_eq_grow,alloc_eq_grow,grow_grow]⟩
 rw [hB,hW,h14];have hbl:blk<(grow w os).heap.size:=by show blk<(w.heap++os).size;rw [zY2o];omega
 have hHg:=holdsK_grow enc k w os blk off d hblk hH;have hsw:=swapSwapsK_of_literal gS f hx e ie hie enc k hk hs1 hagg h1 blk off d.size c;have hlim:Lib.bitLen d.size<4611686018427387904:=Nat.lt_of_le_of_lt (Lib.bitLen_le d.size 62 (by omega) (by omega)) (by omega);have S:=z09s (p:=p) (lt:=lt) (w0:=grow w os) hk hbl hHg rfl hsz eg hsw fun dk W i j h hi hj=>hless dk W i j h.1 h.2.2 (zyu os hblk h.2.1) hi hj
 have hbrk:=z09t (p:=p) (w0:=grow w os) (lf:=g) (lb:=lb) (sf:=f) (sb:=#[.slice (some ⟨blk,off,none⟩) d.size c,typeHandle Tryz.prog e]) (f:=87) hbl hHg rfl fun d1 w1 a b hH1 hn1 hb1 hab hbn=>by
  rw [← h28];exact Any.breakPatterns_func_cells_w (P:=Tryz.prog) (ρ:=ρ) { L with } enc k hk (.func g) #[] lb f _ blk off a b d1 w1 (by rw [hn1];exact hsw) hH1 hb1 hab hbn (by rw [hn1];exact hsz)
 have hp:=z0aj S hO hbrk (d.size+1) (grow w os) d 0 d.size (Lib.bitLen d.size) (by omega) ⟨rfl,by rw [putRowK_self enc k _ blk off d hHg];exact Below.refl _ _,hp0⟩ (Nat.zero_le _) (zY0t _) hlim (Or.inl rfl);refine hp.mono ?_;rintro e w' ⟨rfl,⟨d',hp1,hp2,hp3⟩,-⟩;exact ⟨rfl,d',hp1,hp2,zyu os hblk hp3.2.1⟩
end
end
section
open Go.RowKit Go.Sort
set_option maxRecDepth 100000
set_option maxHeartbeats 4000000
def putC (c:Coin) (r:List Coin):List Coin:=r.take (zi r c.p)++[c]++r.drop (zi r c.p)
def z0g (l:List Coin):List Coin:=l.foldr putC []
def z0y (l:List Coin):Prop:=l.Pairwise fun c d=>c.p≠d.p
theorem z03b (c:Coin) (r:List Coin):(putC c r).Perm (c::r):=by
 unfold putC;rw [zY15,zY2s];refine List.perm_middle.trans ?_;rw [zY0q]
theorem z1m:∀ (l:List Coin),(z0g l).Perm l
 | []=>List.Perm.refl _
 | c::r=>(z03b c (z0g r)).trans ((z1m r).cons c)
theorem z81 {l m:List Coin} (h:l.Perm m) (p:Point):z1g l p=z1g m p:=by
 unfold z1g;rw [Bool.eq_iff_iff,zY2t,zY2t];exact ⟨fun ⟨x,hx,hp⟩=>⟨x,h.mem_iff.1 hx,hp⟩,fun ⟨x,hx,hp⟩=>⟨x,h.mem_iff.2 hx,hp⟩⟩
theorem z35:∀ {l:List Coin},z0y l→z0a (z0g l)
 | [],_=>List.Pairwise.nil
 | c::r,h=>by
  rw [z0y,zY1p] at h;have hh:z1g (z0g r) c.p=false:=by
   rw [z81 (z1m r)];unfold z1g;rw [List.any_eq_false];intro x hx;have:=h.1 x hx;simp only [decide_eq_true_eq];exact fun e=>this e.symm
  exact z3y (z35 h.2) hh
theorem z7p {l m:List Coin} (hp:l.Perm m) (hl:z0a l) (hm:z0a m):l=m :=
 hp.eq_of_pairwise (fun a b _ _ h1 h2=>absurd h2 (zir h1)) hl hm
theorem z03c {l m:List Coin} (h:l.Perm m) (hd:z0y l):z0y m:=(h.pairwise_iff (R:=fun c d:Coin=>c.p≠d.p) (fun hab=>Ne.symm hab)).1 hd
theorem z4a {l:List Coin} (h:z0a l):z0y l:=by
 unfold z0a at h;unfold z0y;refine List.Pairwise.imp ?_ h;intro c d hab e;rw [e] at hab;exact z3x _ hab
abbrev CC:Type:=Coin × Option Addr × Nat × Nat
instance:Inhabited CC:=⟨(z55,none,0,0)⟩
def z1c (x:CC):List Value:=[.int .i64 x.1.p.tx,.int .i64 x.1.p.at_,.int .i64 x.1.o.coin,.slice x.2.1 x.2.2.1 x.2.2.2,.int .i64 x.1.height,.bool x.1.reward]
def ltCC (x y:CC):Bool:=decide (ltP x.1.p y.1.p)
theorem z0ak:SWO ltCC where
 irrefl:=fun x=>decide_eq_false (z3x _)
 trans:=fun x y z h1 h2=>decide_eq_true (z4l (of_decide_eq_true h1) (of_decide_eq_true h2))
 ntrans:=fun x y z h1 h2=>by
  have h1:=of_decide_eq_false h1;have h2:=of_decide_eq_false h2;refine decide_eq_false ?_;unfold ltP at *;omega
theorem z9v (x:CC):(z1c x).length=6:=rfl
theorem z03d (x:CC):∀ v ∈ z1c x,v.oneCell'=true:=by
 intro v hv;simp only [z1c,zY0m,zY1j,or_false] at hv;rcases hv with rfl|rfl|rfl|rfl|rfl|rfl <;> rfl
theorem z0al {w:World} {F:Nat→Prop} {x:Coin} {cs:List Value} (h:shCoin.rep w F x cs):∃ y:CC,z1c y=cs∧y.1=x:=by
 obtain ⟨A,n,c,rfl,-⟩:=z04u h;exact ⟨(x,A,n,c),rfl,rfl⟩
theorem z03e {w:World} {F:Nat→Prop}:∀ {zs:List (Coin × List Value)},(∀ z ∈ zs,shCoin.rep w F z.1 z.2)→∃ ys:List CC,ys.map (fun y=>(y.1,z1c y))=zs
 | [],_=>⟨[],rfl⟩
 | z::zs,h=>by
  obtain ⟨y,h1,h2⟩:=z0al (h z (zY0l ..));obtain ⟨ys,hys⟩:=z03e fun z hz=>h z (zY0j _ hz)
  refine ⟨y::ys,?_⟩;rw [zY1t,hys,h1,h2]
theorem zgo {k:Nat} (hk:0<k):∀ (l:List (List Value)),(∀ x ∈ l,x.length=k)→∀ t,l.flatten[t]? = (l[t / k]?).bind (·[t % k]?)
 | [],_,t=>by simp
 | x::r,h,t=>by
  have hx:=h x (zY0l ..);rw [zY1d]
  by_cases ht:t<k
  ·rw [zY0h (by omega),Nat.div_eq_of_lt ht,Nat.mod_eq_of_lt ht];rfl
  ·rw [zY0i (by omega),hx,zgo hk r (fun y hy=>h y (zY0j _ hy))]
   obtain ⟨q,rfl⟩:∃ q,t=q+k:=⟨t - k,by omega⟩
   rw [zY2i,Nat.add_div_right q hk,Nat.add_mod_right];rfl
theorem zf3 (ys:List CC):(flatK z1c 6 ys.toArray).toList=(ys.map z1c).flatten:=by
 apply zY2n;intro t;rw [zgo (k:=6) (by omega) _ (fun x hx=>by obtain ⟨y,_,rfl⟩:=zY2h.1 hx;rfl)]
 by_cases ht:t<ys.length * 6
 ·have h1:t<(flatK z1c 6 ys.toArray).size:=by simpa using ht
  have h2:=get_flatK z1c 6 ys.toArray t (by simpa using ht);have h3:t / 6<ys.length:=by omega
  rw [zY1g,zY0x h1,← getElem!_pos _ t h1,h2,zY0k,zY08 h3];have h4:(ys.toArray)[t / 6]! = ys[t / 6]:=by simp [h3]
  rw [h4];have h5:t % 6<(z1c ys[t / 6]).length:=by rw [z9v];omega
  rw [zY19,zY05,zY08 h5,getElem!_pos (z1c ys[t / 6]) (t % 6) h5]
 ·rw [zY36 (by simpa using ht),zY36 (by simp;omega)]
  rfl
theorem z03f {ys:List CC} {d:Array CC} (hp:PermIn 0 ys.toArray.size ys.toArray d) (hs:SortedIn ltCC 0 ys.toArray.size d) (hd:z0y (ys.map (·.1))):d.toList.map (·.1)=z0g (ys.map (·.1))∧d.toList.Perm ys:=by
 have hsz:d.size=ys.length:=by rw [hp.1];simp
 have h1:d.toList.Perm ys:=by
  have:=hp.2.2;simp only [zY2m] at this;rw [Array.extract_eq_self_of_le (by omega),Array.extract_eq_self_of_le (by simp)] at this;exact this
 refine ⟨z7p ((h1.map _).trans (z1m _).symm) ?_ (z35 hd),h1⟩;have hdd:z0y (d.toList.map (·.1)):=z03c (h1.map _).symm hd;unfold z0a;rw [List.pairwise_iff_getElem];intro i j hi hj hij;rw [zY10,zY28] at hi hj;have h2:=hs i j (Nat.zero_le _) hij (by simp;omega);have h3:=(List.pairwise_iff_getElem.1 hdd) i j (by simpa using hi) (by simpa using hj) hij;rw [List.getElem_map,List.getElem_map,Array.getElem_toList,Array.getElem_toList] at h3 ⊢;rw [getElem!_pos d i hi,getElem!_pos d j hj] at h2;have h2:=of_decide_eq_false h2;rcases zhh d[i].1.p d[j].1.p with h|h|h
 ·exact h
 ·exact absurd h h3
 ·exact absurd h h2
end
section
open Go.RowKit Go.Sort Go.Shelf
set_option maxRecDepth 100000
set_option maxHeartbeats 4000000
theorem zpa {P:Program} {α β:Type} {S:Sh β} {eS:β→List Dt} (hE:ShE S eS) {e:α→List Dt} {xs:α→List β} {pk:List PK} {t sz:Nat} {f:Nat} (hpk:z3n pk=false) (hsz:S.size=sz) (hpos:0<S.size) (hen:En P f)
  (h:∀ x W F us,zax F W→PKRs W F pk (e x) us→Calls P f us.toArray W fun r W'=>∃ n,z9a S t W F (xs x) n r W') :
  Meets P (z0p e fun x=>[.l sz ((xs x).map eS)]) f ⟨pk,[(false,[.fresh t sz])],false⟩:=by
 refine .mk hpk ?_;intro W F ds args rs hF hargs hsp;obtain ⟨x,rfl,rfl⟩:=z1u hsp;refine .inl ⟨hen.run _ _,(h x W F args hF hargs).mono ?_⟩;rintro r W' ⟨n,v,zs,rfl,hz,hr,ho,hb⟩;subst hsz;have hag:Agree F W W':=fun b hb'=>hb.block b (hF.1 b hb')
 have hzl:zs.length=n:=by
  have h1:=ho.1;rw [z46 fun z hz=>S.len (hr z hz)] at h1;exact Nat.eq_of_mul_eq_mul_right hpos h1
 refine ⟨v,rfl,hb,[v],F,⟨⟨rfl,rfl⟩,rfl,rfl,fun j c d u hf hd hu=>?_,fun b hb=>.inl hb,fun j e' sz' u b hf hu hbl hFb=>?_,fun j j' e sz e' sz' u u' b hf hu hf' hu' _ _=>?_⟩⟩
 ·cases j with
  | succ j=>simp [zw] at hf
  | zero =>
   simp only [zw,zY25,List.flatMap_nil,zY2e,zY09,zY00] at hf hd hu;subst hf;subst hd;subst hu;refine ⟨_,flat zs,rfl,fun y hy=>?_,?_,?_⟩
   ·obtain ⟨z,_,rfl⟩:=zY2h.1 hy
    exact hE.len z
   ·rw [zY10,← hz,zY10,hzl];exact ho
   ·rw [← hz]
    clear ho hz hzl
    induction zs with
    | nil=>exact trivial
    | cons z zs ih =>
     simp only [flat,zY1t,zY1d];exact (hE.to (S.keep hag (hr z (zY0l ..)))).append (ih fun z hz=>hr z (zY0j _ hz))
 ·cases j with
  | succ j=>simp [zw] at hf
  | zero =>
   simp only [zY09,zY00] at hu;subst hu;have h1:=zfs ho hbl;have h2:=hF.1 b hFb;omega
 ·cases j <;> cases j' <;> simp [zw] at hf hf' ⊢
def z1a (l:List Coin) (i:Int):Coin:=(l[i.toNat]?).getD z55
noncomputable def zee:zh:=spD (fun x:Int × Int × List Coin=>(0≤x.1∧x.1<x.2.2.length)∧0≤x.2.1∧x.2.1<x.2.2.length) fun x=>decide (ltP (z1a x.2.2 x.1).p (z1a x.2.2 x.2.1).p)
theorem zht (i j:Int) (l:List Coin) (h:(0≤i∧i<l.length)∧0≤j∧j<l.length):zee [I i,I j,.l 6 (l.map zb)]=some [.b (decide (ltP (z1a l i).p (z1a l j).p))]:=z09 (f:=fun x:Int × Int × List Coin=>decide (ltP (z1a x.2.2 x.1).p (z1a x.2.2 x.2.1).p)) (i,j,l) h
theorem zj0 {l:List Coin} {i:Int} (h0:0≤i) (h1:i<l.length):l[i.toNat]? = some (z1a l i):=by
 unfold z1a;have h:i.toNat<l.length:=by omega
 rw [zY08 h];rfl
def zpb:T :=
 .lets [.idx 2 0 0,.idx 2 0 1] [] (.lets [] [.inr 6 2 1] (.lets [.idx 2 1 0,.idx 2 1 1] [] (.lets [.call 26 [3,4,5,.v
 6] 0] [] (.ret [7]))))
def zbn:T :=
 .lets [] [.inr 6 2 0] zpb
theorem z00b:Meets Tryz.prog zee 58 ⟨[.one,.one,.ptr 1],[(false,[.scal])],true⟩:=by
 refine z06 (sp:=(z0w [(26,z57)])) (sigs:=z17) (cut:=[]) (hints:=[]) (fn:=Tryz.f58) (t:=zbn) (by kernel_rfl) (by kernel_rfl) (by kernel_rfl) ?_ ?_
 ·exact (z0q (L:=[(26,z57)]) ⟨zj rfl ziy,trivial⟩)
 ·rintro ds rs hok h
  obtain ⟨⟨i,j,l⟩,⟨⟨h1,h2⟩,h3,h4⟩,rfl,rfl⟩:=z01 h;clear h hok;simp only at h1 h2 h3 h4;refine ⟨⟨1,?_⟩,z0i rfl⟩
  show den _ _ zbn [I i,I j,.l 6 (l.map zb)] []=ret (decide (ltP (z1a l i).p (z1a l j).p))
  have hi:=zj0 h1 h2;have hj:=zj0 h3 h4;generalize z1a l i=x at *;generalize z1a l j=y at *;unfold zbn
  repeat' (first|refine dq1 ?_|refine dqc ?_|refine dqm ?_|refine dqK rfl (zc2 x.p y.p) ?_|exact z5 rfl rfl|((first|refine tR ?_ ?_|refine tB ?_ ?_|refine tC ?_ ?_|refine tN ?_ ?_|refine tF ?_ ?_|refine tG ?_ ?_|refine tP ?_ ?_|refine tQ ?_ ?_|refine tA ?_ ?_|refine tO ?_ ?_|refine tU ?_ ?_|refine tV ?_ ?_) <;> intro h)|refine dqT ?_|refine dqF ?_|refine zt rfl ?_|refine zq rfl ?_|refine z0e ?_|refine z0f ?_)
noncomputable def srT:TypeInfo:=((Tryz.prog).info? 22).get (by kernel_rfl)
noncomputable def srE:TypeInfo:=((Tryz.prog).info? 57).get (by kernel_rfl)
theorem srK (n:Nat) (h2:2≤n):Lib.swapperK n srE 25=9:=by
 have a:srE.hasPointers=true:=by kernel_rfl
 have b:srE.bytes=64:=by kernel_rfl
 unfold Lib.swapperK;rw [a,b,if_neg (by simp;omega),if_neg (by simp;omega)];rfl
theorem z07n {w0 W:World} {F:Nat→Prop} {g b0 n cap:Nat} {dk:Array CC} (hF:∀ b,F b→W.heap[b]? = w0.heap[b]? ∧ b<W.heap.size) (hn:dk.size=n) (hcap:n≤cap) (hcm:cap≤9223372036854775807) (hH:HoldsK z1c 6 W g 0 dk) (hg:g<W.heap.size)
  (hb:W.cell? ⟨b0,0,none⟩=some (.slice (some ⟨g,0,none⟩) n cap)) (hb0:b0<W.heap.size) (hp:∀ i,i<n→shCoin.rep w0 F dk[i]!.1 (z1c dk[i]!)) {i j:Nat} (hi:i<n) (hj:j<n) (hbig:n<4611686018427387904) (hG:Glob W) :
  Calls Tryz.prog 58 (#[.int .i64 i,.int .i64 j]++#[.pointer (some ⟨b0,0,none⟩)]) W fun e W'=>e = .returned (.bool (ltCC dk[i]! dk[j]!))∧Below W.heap.size W W':=by
 have hl:(dk.toList.map (·.1)).length=n:=by simp [hn]
 have at_:∀ k,k<n→z1a (dk.toList.map (·.1)) (k:Int)=dk[k]!.1:=fun k hk=>by
  unfold z1a;rw [zY38,zY0k,zY1g,getElem!_pos dk k (by omega),zY0x (by omega)];rfl
 have hs:=zht (i:Int) (j:Int) (dk.toList.map (·.1)) ⟨⟨by omega,by rw [hl];omega⟩,by omega,by rw [hl];omega⟩;rw [at_ i hi,at_ j hj] at hs;refine za0 (F:=Lt W.heap.size) (us:=[.int .i64 i,.int .i64 j,.pointer (some ⟨b0,0,none⟩)]) rfl (z4c (fn:=Tryz.f58) (by kernel_rfl) (by kernel_rfl) (by kernel_rfl)) z00b ⟨fun _ h=>h,hG⟩ hs ?_;refine ⟨[I i],_,_,_,rfl,rfl,⟨_,rfl,.i _ _ (wrap_i64 ⟨by omega,by omega⟩)⟩,[I j],_,_,_,rfl,rfl,⟨_,rfl,.i _ _ (wrap_i64 ⟨by omega,by omega⟩)⟩,[.l 6 ((dk.toList.map (·.1)).map zb)],_,_,_,rfl,rfl,⟨rfl,b0,0,[.slice (some ⟨g,0,none⟩) n cap],rfl,hb0,fun k v hk=>?_,?_,trivial⟩,rfl,rfl⟩
 ·cases k with
  | zero=>simp only [zY09,zY00] at hk;subst hk;exact hb
  | succ k=>simp at hk
 ·refine .l 6 _ _ n cap g 0 (fun i j=>(z1c dk[i]!)[j]!) (by simp [hn]) (by simp [hn];omega) hcm (fun x hx=>?_) (fun _=>⟨rfl,hg⟩) (fun i j x d hx hd=>?_) (fun i j x d hx hd=>?_)
  ·obtain ⟨c,_,rfl⟩:=zY2h.1 hx
   rfl
  ·have hi:i<n:=by have:=(zY06.1 hx).1;simpa [hn] using this
   have hxe:x=zb dk[i]!.1:=by
    rw [zY0k,zY0k,zY1g,zY0x (by omega)] at hx;rw [getElem!_pos dk i (by omega)];simpa using hx.symm
   subst hxe;have hj:j<6:=(zY06.1 hd).1;exact (hH.cell (by omega) hj).1
  ·have hi:i<n:=by have:=(zY06.1 hx).1;simpa [hn] using this
   have hxe:x=zb dk[i]!.1:=by
    rw [zY0k,zY0k,zY1g,zY0x (by omega)] at hx;rw [getElem!_pos dk i (by omega)];simpa using hx.symm
   subst hxe;obtain ⟨u,hu,hr⟩:=(she_coin.to (hp i hi)).get hd;have hj:j<6:=(zY06.1 hd).1;have:(z1c dk[i]!)[j]! = u:=by rw [getElem!_pos _ _ (by rw [z9v];exact hj)];rw [zY08 (by rw [z9v];exact hj)] at hu;exact Option.some.inj hu
   rw [this];exact hr.mono (F':=Lt W.heap.size) (fun b hb=>(hF b hb).1) fun b hb=>(hF b hb).2
theorem zwt {l:List Coin} (h:l.length≤1):z0g l=l:=by
 match l,h with
 | [],_=>rfl
 | [x],_=>rfl
theorem z00c (W:World) (os:Array Obj):Below W.heap.size W (grow W os) :=
 ⟨rfl,rfl,rfl,by show _≤(W.heap++os).size;rw [zY2o];omega,fun b hb=>heap_grow_old _ _ hb⟩
theorem z03g {w0 W:World} {F:Nat→Prop} {b0 base n:Nat} {v:Value} {zs:List (Coin × List Value)} (hrow:W.ownsRow base 57 6 v n (flat zs)) (hzn:zs.length=n) (hrep:∀ z ∈ zs,shCoin.rep w0 F z.1 z.2)
  (hF:∀ b,F b→b<base∧W.heap[b]? = w0.heap[b]?) (hb0:b0<base) (hbox:W.cell? ⟨b0,0,none⟩=some v) (hbase:base≤W.heap.size) (hd:z0y (zs.map (·.1))) (hbig:n<4611686018427387904) {wg:World} (hG:Glob wg) (hbg:Below wg.heap.size wg W) (hgs:wg.heap.size≤base) :
  Calls Tryz.prog 57 #[.iface 22 v,.func (.func 58) #[] #[.pointer (some ⟨b0,0,none⟩)]] W fun e W'=>e = .returned (.tuple #[]) ∧
   ∃ zs':List (Coin × List Value),zs'.map (·.1)=z0g (zs.map (·.1))∧(∀ z ∈ zs',shCoin.rep w0 F z.1 z.2)∧W'.ownsRow base 57 6 v n (flat zs')∧Below base W W':=by
 obtain ⟨hlen,hv⟩:=hrow
 by_cases h1:n≤1
 ·have hs:z0g (zs.map (·.1))=zs.map (·.1):=zwt (by rw [zY10];omega)
  obtain ⟨p,c,hvp⟩:∃ p c,v = .slice p n c:=by
   rcases hv with ⟨rfl,rfl⟩|⟨g,cap,cur,rfl,-⟩
   ·exact ⟨none,0,rfl⟩
   ·exact ⟨_,_,rfl⟩
  have ht:Calls Tryz.prog 57 #[.iface 22 v,.func (.func 58) #[] #[.pointer (some ⟨b0,0,none⟩)]] W fun e w'=>e = .returned (.tuple #[])∧∃ os,w'=grow W os:=by
   rw [hvp];rcases zY1l n with h0|h0
   ·subst h0
    exact Any.sort_Slice_tiny Tryz.lays6 22 57 srT srE (by kernel_rfl) (by kernel_rfl) (by kernel_rfl) (by kernel_rfl) 25 (fun _=>by kernel_rfl) p 0 c h1 74 (by kernel_rfl) (.func 58) #[] #[.pointer (some ⟨b0,0,none⟩)] W
   ·obtain rfl:n=1:=by omega
    exact Any.sort_Slice_tiny Tryz.lays6 22 57 srT srE (by kernel_rfl) (by kernel_rfl) (by kernel_rfl) (by kernel_rfl) 25 (fun _=>by kernel_rfl) p 1 c h1 75 (by kernel_rfl) (.func 58) #[] #[.pointer (some ⟨b0,0,none⟩)] W
  refine ht.mono ?_;rintro e W' ⟨he,os,rfl⟩;have hg:=z00c W os;refine ⟨he,zs,hs.symm,hrep,⟨hlen,?_⟩,hg.mono hbase⟩;rcases hv with h|⟨g,cap,cur,h2,h3,h4,h5⟩
  ·exact .inl h
  ·exact .inr ⟨g,cap,cur,h2,h3,(hg.block g (by rw [zY1a] at h4;exact h4.1)).trans h4,h5⟩
 ·rcases hv with ⟨-,h0⟩|⟨g,cap,cur,rfl,hgb,hh,hnc,hcm,hcs,ht⟩
  ·omega
  obtain ⟨ys,hys⟩:=z03e hrep;have hyn:ys.length=n:=by rw [← hzn,← hys,zY10]
  have hfl:flat zs=(flatK z1c 6 ys.toArray).toList:=by
   rw [zf3,← hys];unfold flat;rw [List.map_map];rfl
  have hgl:g<W.heap.size:=by rw [zY1a] at hh;exact hh.1
  have hH:HoldsK z1c 6 W g 0 ys.toArray:=by
   intro j hj;rw [size_flatK] at hj;have hj:j<n * 6:=by rw [← hyn];simpa using hj
   refine ⟨?_,by rw [zY0v];exact zoh hh⟩;rw [zY0v,cell_of_row W g j cur _ (0,0) hh];have e1:(cur.toList.take (n * 6))[j]? = (flatK z1c 6 ys.toArray).toList[j]?:=by rw [ht,hfl]
   rw [zY12,if_pos hj,zY1g,zY1g] at e1;rw [e1];have h2:j<(flatK z1c 6 ys.toArray).size:=by rw [size_flatK];simp;omega
   rw [zY0x h2,getElem!_pos (flatK z1c 6 ys.toArray) j h2];rfl
  have hsz:ys.toArray.size=n:=by simpa using hyn
  have hsl:=zp9 (α:=CC) Tryz.lays6 rfl rfl 22 57 srT srE (by kernel_rfl) (by kernel_rfl) (by kernel_rfl) (by kernel_rfl) 25 (fun _=>by kernel_rfl) z1c 6 z9v (by kernel_rfl) (fun _=>by kernel_rfl) z03d ltCC z0ak 58 #[.pointer (some ⟨b0,0,none⟩)]
   (enters_of Tryz.func58 (by kernel_rfl) rfl) g 0 cap ys.toArray (by rw [hsz];omega) (by rw [hsz];exact hbig) 82 (by rw [srK _ (by rw [hsz];omega)];kernel_rfl) false
   (fun args W=>run_callFunc_extern Tryz.func82 (by kernel_rfl) (by kernel_rfl) (by kernel_rfl) (e:=Extern.ReflectliteSwapper.swap false) (by kernel_rfl) args W) W hH hgl (fun y=>shCoin.rep w0 F y.1 (z1c y))
   (fun i hi=>by
    rw [getElem!_pos ys.toArray i hi];have hi':i<ys.length:=by simpa using hi
    have:=hrep (ys[i].1,z1c ys[i]) (by rw [← hys];exact zY1u (zY1r hi'));simpa using this)
   (fun dk X i j hdn hdp hbl hi hj=>by
    rw [hsz] at hdn hdp hi hj;have hXs:W.heap.size≤X.heap.size:=by have:=hbl.size;rwa [z5a] at this
    have hoth:∀ b,b<W.heap.size→b≠g→X.heap[b]? = W.heap[b]?:=fun b hb hne=>(hbl.block b hb).trans (by
     unfold putRowK putRow mapBlock;rw [zY2a,if_neg (by omega)])
    have hHX:HoldsK z1c 6 X g 0 dk:=StK.holds (p:=fun _:CC=>True) (w0:=W) (n:=n) hgl hH hsz ⟨hdn,hbl,fun _ _=>trivial⟩;have hbX:X.cell? ⟨b0,0,none⟩=some (.slice (some ⟨g,0,none⟩) n cap):=by
     rw [← hbox];unfold World.cell?;rw [hoth b0 (by omega) (by omega)]
    exact z07n (w0:=w0) (F:=F) (fun b hb=>⟨(hoth b (by have:=(hF b hb).1;omega) (by have:=(hF b hb).1;omega)).trans (hF b hb).2,by have:=(hF b hb).1;omega⟩) hdn hnc hcm hHX (by omega) hbX (by omega) hdp hi hj hbig (hG.on ⟨hbl.os.trans hbg.os,hbl.tape.trans hbg.tape,hbl.output.trans hbg.output,by have:=hbg.size;omega,fun b hb'=>(hoth b (by omega) (by omega)).trans (hbg.block b hb')⟩))
  rw [hsz] at hsl;refine hsl.mono ?_;rintro e W' ⟨he,d,hp,hs,hb⟩;have hdy:z0y (ys.map (·.1)):=by
   have:ys.map (·.1)=zs.map (·.1):=by rw [← hys,List.map_map];rfl
   rw [this];exact hd
  obtain ⟨q1,q2⟩:=z03f (ys:=ys) (by rw [hsz];exact hp) (by rw [hsz];exact hs) hdy;have hdn:d.size=n:=hp.1.trans hsz;have hWs:W.heap.size≤W'.heap.size:=by have:=hb.size;rwa [z5a] at this
  refine ⟨he,d.toList.map (fun y=>(y.1,z1c y)),?_,?_,⟨?_,.inr ⟨g,cap,putCells id 0 (flatK z1c 6 d) cur,rfl,hgb,?_,hnc,hcm,?_,?_⟩⟩,?_⟩
  ·rw [List.map_map,← hys,List.map_map]
   exact q1
  ·intro z hz
   obtain ⟨y,hy,rfl⟩:=zY2h.1 hz;exact hrep _ (by rw [← hys];exact zY1u (q2.mem_iff.1 hy))
  ·have:flat (d.toList.map (fun y=>(y.1,z1c y)))=(flatK z1c 6 d).toList:=by
    have:=zf3 d.toList;rw [zY1e] at this;rw [this];unfold flat;rw [List.map_map];rfl
   rw [this,zY28,size_flatK,hdn]
  ·refine (hb.block g hgl).trans ?_
   unfold putRowK putRow mapBlock;rw [zY2a,if_pos rfl,hh];rfl
  ·unfold putCells
   rw [Array.size_mapIdx];exact hcs
  ·have:flat (d.toList.map (fun y=>(y.1,z1c y)))=(flatK z1c 6 d).toList:=by
    have:=zf3 d.toList;rw [zY1e] at this;rw [this];unfold flat;rw [List.map_map];rfl
   rw [this];apply zY2n;intro t;rw [zY12]
   by_cases h:t<n * 6
   ·have hn6:n * 6≤cur.size:=by rw [hcs];omega
    have h2:t<(flatK z1c 6 d).size:=by rw [size_flatK,hdn];exact h
    rw [if_pos h,zY1g,zY1g,zY0x h2];unfold putCells;rw [Array.getElem?_mapIdx,zY0x (by omega),zY19,if_pos ⟨by omega,by omega⟩,Nat.sub_zero,getElem!_pos (flatK z1c 6 d) t h2];rfl
   ·rw [if_neg h,zY36 (by rw [zY28,size_flatK,hdn];omega)]
  ·refine ⟨hb.os,hb.tape,hb.output,hWs,fun b hb'=>(hb.block b (by omega)).trans ?_⟩
   unfold putRowK putRow mapBlock;rw [zY2a,if_neg (by omega)]
theorem z00d {W:World} {base e sz n:Nat} {v:Value} {xs:List Value} (h:W.ownsRow base e sz v n xs):∃ B c,v = .slice B n c:=by
 rcases h.2 with ⟨rfl,rfl⟩|⟨g,cap,cur,rfl,_⟩
 ·exact ⟨none,0,rfl⟩
 ·exact ⟨_,_,rfl⟩
noncomputable def z3e:zh:=spD (fun l:List Coin=>l.length≤1000000∧z0y l) fun l=>z0g l
theorem z8c (l:List Coin) (h:l.length≤1000000∧z0y l):z3e [.l 6 (l.map zb)]=some [.l 6 ((z0g l).map zb)]:=z09 (f:=fun l:List Coin=>z0g l) l h
theorem zwu {W:World} {base base' e sz n:Nat} {v:Value} {xs:List Value} (h:W.ownsRow base e sz v n xs) (hb:base'≤base):W.ownsRow base' e sz v n xs:=by
 refine ⟨h.1,?_⟩;rcases h.2 with h|⟨g,cap,cur,h1,h2,h3⟩
 ·exact .inl h
 ·exact .inr ⟨g,cap,cur,h1,by omega,h3⟩
theorem z05k (xs:List Coin) (A:Option Addr) (n c:Nat) (w:World) (F:Nat→Prop) (h:Rds shCoin w F xs A n c) (hF:∀ b,F b→b<w.heap.size) (hn:n * 64≤140737488355328) (hd:z0y xs) (hG:Glob w) :
  Calls Tryz.prog 35 #[.slice A n c] w (z9a shCoin 57 w F (z0g xs) n):=by
 obtain ⟨w1,hw1⟩:∃ w1,w1=w.alloc (.cells #[.slice A n c] 22):=⟨_,rfl⟩
 have hs1:w1.heap.size=w.heap.size+1:=by rw [hw1,z34]
 have hb1:Below w.heap.size w w1:=by rw [hw1];exact (Below.refl _ _).alloc (zY0t _) _
 have hbx:w1.heap[w.heap.size]? = some (.cells #[.slice A n c] 22 (0,0)):=by rw [hw1,z7e]
 have hag:Agree F w w1:=fun b hb=>hb1.block b (hF b hb)
 have hcl:=zfu xs A n c w1 F (h.keep hag) (fun b hb=>by have:=hF b hb;omega) hn;have hxn:=h.1;have HQ:Hid (∀ (v:Value) (zs:List (Coin × List Value)) (w2:World),zs.map (·.1)=xs→(∀ z ∈ zs,shCoin.rep w1 F z.1 z.2)→w2.ownsRow w1.heap.size 57 shCoin.size v n (flat zs)→Below w1.heap.size w1 w2 →
   Calls Tryz.prog 57 #[.iface 22 v,.func (.func 58) #[] #[.pointer (some ⟨w.heap.size,0,none⟩)]] (w2.setCell ⟨w.heap.size,0,none⟩ v) fun e W'=>e = .returned (.tuple #[])∧W'.cell? ⟨w.heap.size,0,none⟩=some v∧z9a shCoin 57 w F (z0g xs) n (.returned v) W'):=by
  intro v zs w2 hz1 hz2 hz3 hz4;have hb2:w2.heap[w.heap.size]? = some (.cells #[.slice A n c] 22 (0,0)):=(hz4.block _ (by omega)).trans hbx;have hst:=heap_setCell_same w2 w.heap.size 0 _ _ v hb2;have hbox:(w2.setCell ⟨w.heap.size,0,none⟩ v).cell? ⟨w.heap.size,0,none⟩=some v:=by
   unfold World.cell?;rw [hst];rfl
  have hsz:(w2.setCell ⟨w.heap.size,0,none⟩ v).heap.size=w2.heap.size:=by simp [World.setCell]
  have hoth:∀ b,b≠w.heap.size→(w2.setCell ⟨w.heap.size,0,none⟩ v).heap[b]? = w2.heap[b]?:=fun b hb=>heap_setCell_other w2 _ b _ hb
  have hzl:zs.length=n:=by rw [← hxn,← hz1,zY10]
  have hs2:=hz4.size;refine (z03g (w0:=w1) (F:=F) (base:=w1.heap.size) (zw0 hz3 (p:=⟨w.heap.size,0,none⟩) (by show w.heap.size<_;omega) v) hzl hz2 (fun b hb=>⟨by have:=hF b hb;omega,(hoth b (by have:=hF b hb;omega)).trans (hz4.block b (by have:=hF b hb;omega))⟩) (by omega) hbox (by rw [hsz];exact hs2) (by rw [hz1];exact hd) (by omega) hG ⟨hz4.os.trans hb1.os,hz4.tape.trans hb1.tape,hz4.output.trans hb1.output,by rw [hsz];omega,fun b hb=>(hoth b (by omega)).trans ((hz4.block b (by omega)).trans (hb1.block b hb))⟩ (by omega)).mono ?_;rintro e W' ⟨he,zs',h1,h2,h3,h4⟩;refine ⟨he,?_,v,zs',rfl,by rw [h1,hz1],fun z hz=>shCoin.keep (fun b hb=>(hag b hb).symm) (h2 z hz),zwu h3 (by omega),?_⟩
  ·rw [← hbox]
   unfold World.cell?;rw [h4.block w.heap.size (by omega)]
  ·refine ⟨h4.os.trans (hz4.os.trans hb1.os),h4.tape.trans (hz4.tape.trans hb1.tape),h4.output.trans (hz4.output.trans hb1.output),by have:=h4.size;omega,fun b hb=>(h4.block b (by omega)).trans ((hoth b (by omega)).trans ((hz4.block b (by omega)).trans (hb1.block b hb)))⟩
 have HX:=Lib.hid hbx;clear hbx hag h hd hG;rw [hw1] at hcl;go_enter Tryz.func35,Tryz.ntmps35;go_wp2_with (first
  | (go_at_call 30;refine hcl.mono ?_;rintro e w2 ⟨v,zs,rfl,hz1,hz2,hz3,hz4⟩;rw [← hw1] at hz2 hz3 hz4;have hb2:w2.heap[w.heap.size]? = some (.cells #[.slice A n c] 22 (0,0)):=(hz4.block _ (by omega)).trans HX.out;have hcc:w2.cell? ⟨w.heap.size,0,none⟩=some (.slice A n c):=(by unfold World.cell?;rw [hb2];rfl);have hff:w2.frozen? ⟨w.heap.size,0,none⟩=false:=zoh hb2;obtain ⟨vB,vc,rfl⟩:=z00d hz3;have hq:=HQ.out _ zs w2 hz1 hz2 hz3 hz4;clear hcl hz1 hz2 hz3 hz4;simp only [])
  | (go_at_call 57;refine hq.mono ?_;rintro e w3 ⟨rfl,hv,hC⟩;clear hq;simp only []))
 go_ret;exact hC
theorem zj1:Meets Tryz.prog z3e 35 ⟨[.one],[(false,[.fresh 57 6])],false⟩ :=
 zpa (e:=fun x:{ l:List Coin // l.length≤1000000∧z0y l }=>Enc.e x.1) (xs:=fun x=>z0g x.1) she_coin rfl rfl (by decide) (z4c (fn:=Tryz.f35) (by kernel_rfl) (by kernel_rfl) (by kernel_rfl)) fun x W F us hF h=>by
  obtain ⟨v,us,rfl,h1,h⟩:=z3a h;obtain rfl:=z4z h;obtain ⟨A,n,c,rfl,k1⟩:=z4y she_coin h1;have:=x.2.1;have:=k1.1;exact (z05k x.1 A n c W F k1 hF.1 (by omega) x.2.2 hF.2).mono fun r W' h=>⟨n,h⟩
end
section
open Go.RowKit
set_option maxRecDepth 100000
set_option maxHeartbeats 4000000
attribute [local irreducible] z0p spD z14
noncomputable def z2h:zh:=spD (fun _:Bool=>True) fun b=>z0v b
noncomputable def z6q:zh:=spD z2e z6n
noncomputable def zan:zh:=spD (fun x:Int × Int=>z2e x.1∧z2e x.2) fun x=>x.1+x.2
noncomputable def zao:zh:=spD (fun x:Int × Int=>z2e x.1∧z2e x.2) fun x=>x.1 - x.2
noncomputable def z9h:zh:=spD (fun _:Int × Int=>True) fun x=>z0v (decide (x.1=x.2))
noncomputable def z9i:zh:=spD (fun _:Int × Int=>True) fun x=>z0v (decide (x.1<x.2))
noncomputable def zap:zh:=spD (fun _:Int × Int=>True) fun x=>z0v (decide (x.1≠0) && decide (x.2≠0))
noncomputable def zaq:zh:=spD (fun _:Int=>True) fun x=>z0v (decide (x=0))
theorem z44 (b:Bool):z2h [.b b]=some [I (z0v b)]:=z09 (f:=fun b=>z0v b) b trivial
theorem zc3 (n:Int) (h:z2e n):z6q [I n]=some [I (z6n n)]:=z09 (f:=z6n) n h
theorem z00e (a b:Int) (h:z2e a∧z2e b):zan [I a,I b]=some [I (a+b)]:=z09 (p:=fun x:Int × Int=>z2e x.1∧z2e x.2) (f:=fun x:Int × Int=>x.1+x.2) (a,b) h
theorem z00f (a b:Int) (h:z2e a∧z2e b):zao [I a,I b]=some [I (a - b)]:=z09 (p:=fun x:Int × Int=>z2e x.1∧z2e x.2) (f:=fun x:Int × Int=>x.1 - x.2) (a,b) h
theorem zwv (a b:Int):z9h [I a,I b]=some [I (z0v (decide (a=b)))]:=z09 (f:=fun x:Int × Int=>z0v (decide (x.1=x.2))) (a,b) trivial
theorem zww (a b:Int):z9i [I a,I b]=some [I (z0v (decide (a<b)))]:=z09 (f:=fun x:Int × Int=>z0v (decide (x.1<x.2))) (a,b) trivial
theorem z00g (a b:Int):zap [I a,I b]=some [I (z0v (decide (a≠0) && decide (b≠0)))]:=z09 (f:=fun x:Int × Int=>z0v (decide (x.1≠0) && decide (x.2≠0))) (a,b) trivial
theorem zgp (a:Int):zaq [I a]=some [I (z0v (decide (a=0)))]:=z09 (f:=fun x:Int=>z0v (decide (x=0))) a trivial
def zpc:T :=
 .lets [.bin .add 0 1] [] (.ret [2])
def zpd:T :=
 .lets [.bin .sub 0 1] [] (.ret [2])
def zhu:T :=
 .lets [.bin .eql 0 1] [] (.lets [.call 38 [2] 0] [] (.ret [3]))
def zhv:T :=
 .lets [.bin .lss 0 1] [] (.lets [.call 38 [2] 0] [] (.ret [3]))
def zpe:T :=
 .lets [.bin .neq 0 (zI 0)] [] (.ite 2 (.lets [.bin .neq 1 (zI 0)] [] (.lets [.call 38 [3] 0] [] (.ret [4]))) (.lets [.call 38 [.c (.b
 false)] 0] [] (.ret [3])))
def zpf:T :=
 .lets [.bin .eql 0 (zI 0)] [] (.lets [.call 38 [1] 0] [] (.ret [2]))
def zd3:T :=
 .ite 0 (.ret [zI 1]) (.ret [zI 0])
def zwx:T :=
 .lets [.bin .add 5 (zI 104729)] [] (.lets [.bin .rem 6 (zI 1000003)] [] (.lets [.bin .add 3 (zI 1)] [] (.again 0 [7,8])))
def zwy:T :=
 .lets [.bin .lss 3 (zI 3)] [] (.ite 4 (.lets [.bin .mul 2 (zI 7919)] [] zwx) (.lets [.bin .rem 2 (zI 1000001)] [] (.ret [.v
 5])))
def z82:T :=
 .lets [.bin .add 0 (zI 1000000)] [] (.loop [1,zI 0] zwy)
theorem z9w:Meets Tryz.prog z2h 100 ⟨[.one],[(false,[.scal])],true⟩:=by
 refine z06 (sp:=(z0w [])) (sigs:=z17) (cut:=[]) (hints:=[]) (fn:=Tryz.f100) (t:=zd3) (by kernel_rfl) (by kernel_rfl) (by kernel_rfl) ?_ ?_
 ·exact (z0q (L:=[]) trivial)
 ·rintro ds rs - h
  obtain ⟨b,-,rfl,rfl⟩:=z01 h;clear h;refine ⟨⟨1,?_⟩,z0i rfl⟩
  show den _ _ zd3 [.b b] []=ret (z0v b)
  unfold zd3 z0v
  repeat' (first|exact z5 rfl rfl|refine tB (fun h=>?_) fun h=>?_|fail)
theorem z09u:Meets Tryz.prog zan 97 ⟨[.one,.one],[(false,[.scal])],true⟩:=by
 refine z06 (sp:=(z0w [])) (sigs:=z17) (cut:=[]) (hints:=[]) (fn:=Tryz.f97) (t:=zpc) (by kernel_rfl) (by kernel_rfl) (by kernel_rfl) ?_ ?_
 ·exact (z0q (L:=[]) trivial)
 ·rintro ds rs - h
  obtain ⟨⟨a,b⟩,⟨⟨h1,h2⟩,h3,h4⟩,rfl,rfl⟩:=z01 h;clear h;simp only at h1 h2 h3 h4;refine ⟨⟨1,?_⟩,z0i rfl⟩
  show den _ _ zpc [I a,I b] []=ret (a+b)
  unfold zpc
  repeat' (first|refine dq1 ?_|exact z5 rfl rfl|fail)
theorem z09v:Meets Tryz.prog zao 98 ⟨[.one,.one],[(false,[.scal])],true⟩:=by
 refine z06 (sp:=(z0w [])) (sigs:=z17) (cut:=[]) (hints:=[]) (fn:=Tryz.f98) (t:=zpd) (by kernel_rfl) (by kernel_rfl) (by kernel_rfl) ?_ ?_
 ·exact (z0q (L:=[]) trivial)
 ·rintro ds rs - h
  obtain ⟨⟨a,b⟩,⟨⟨h1,h2⟩,h3,h4⟩,rfl,rfl⟩:=z01 h;clear h;simp only at h1 h2 h3 h4;refine ⟨⟨1,?_⟩,z0i rfl⟩
  show den _ _ zpd [I a,I b] []=ret (a - b)
  unfold zpd
  repeat' (first|refine dq1 ?_|exact z5 rfl rfl|fail)
theorem z07o:Meets Tryz.prog z9h 99 ⟨[.one,.one],[(false,[.scal])],true⟩:=by
 refine z06 (sp:=(z0w [(38,z2h)])) (sigs:=z17) (cut:=[]) (hints:=[]) (fn:=Tryz.f99) (t:=zhu) (by kernel_rfl) (by kernel_rfl) (by kernel_rfl) ?_ ?_
 ·exact (z0q (L:=[(38,z2h)]) ⟨zj rfl z9w,trivial⟩)
 ·rintro ds rs - h
  obtain ⟨⟨a,b⟩,-,rfl,rfl⟩:=z01 h;clear h;refine ⟨⟨1,?_⟩,z0i rfl⟩
  show den _ _ zhu [I a,I b] []=ret (z0v (decide (a=b)))
  unfold zhu
  repeat' (first|refine dq1 ?_|refine dqk rfl (z44 _) ?_|exact z5 rfl rfl|fail)
theorem z07p:Meets Tryz.prog z9i 101 ⟨[.one,.one],[(false,[.scal])],true⟩:=by
 refine z06 (sp:=(z0w [(38,z2h)])) (sigs:=z17) (cut:=[]) (hints:=[]) (fn:=Tryz.f101) (t:=zhv) (by kernel_rfl) (by kernel_rfl) (by kernel_rfl) ?_ ?_
 ·exact (z0q (L:=[(38,z2h)]) ⟨zj rfl z9w,trivial⟩)
 ·rintro ds rs - h
  obtain ⟨⟨a,b⟩,-,rfl,rfl⟩:=z01 h;clear h;refine ⟨⟨1,?_⟩,z0i rfl⟩
  show den _ _ zhv [I a,I b] []=ret (z0v (decide (a<b)))
  unfold zhv
  repeat' (first|refine dq1 ?_|refine dqk rfl (z44 _) ?_|exact z5 rfl rfl|fail)
theorem z09w:Meets Tryz.prog zaq 103 ⟨[.one],[(false,[.scal])],true⟩:=by
 refine z06 (sp:=(z0w [(38,z2h)])) (sigs:=z17) (cut:=[]) (hints:=[]) (fn:=Tryz.f103) (t:=zpf) (by kernel_rfl) (by kernel_rfl) (by kernel_rfl) ?_ ?_
 ·exact (z0q (L:=[(38,z2h)]) ⟨zj rfl z9w,trivial⟩)
 ·rintro ds rs - h
  obtain ⟨a,-,rfl,rfl⟩:=z01 h;clear h;refine ⟨⟨1,?_⟩,z0i rfl⟩
  show den _ _ zpf [I a] []=ret (z0v (decide (a=0)))
  unfold zpf
  repeat' (first|refine dq1 ?_|refine dqk rfl (z44 _) ?_|exact z5 rfl rfl|fail)
theorem z09x:Meets Tryz.prog zap 102 ⟨[.one,.one],[(false,[.scal])],true⟩:=by
 refine z06 (sp:=(z0w [(38,z2h)])) (sigs:=z17) (cut:=[]) (hints:=[]) (fn:=Tryz.f102) (t:=zpe) (by kernel_rfl) (by kernel_rfl) (by kernel_rfl) ?_ ?_
 ·exact (z0q (L:=[(38,z2h)]) ⟨zj rfl z9w,trivial⟩)
 ·rintro ds rs - h
  obtain ⟨⟨a,b⟩,-,rfl,rfl⟩:=z01 h;clear h;refine ⟨⟨1,?_⟩,z0i rfl⟩
  show den _ _ zpe [I a,I b] []=ret (z0v (decide (a≠0) && decide (b≠0)))
  unfold zpe
  repeat' (first|refine dq1 ?_|fail)
  refine z02 rfl (fun h=>?_) (fun h=>?_)
  ·rw [decide_eq_true h,zY2v]
   repeat' (first|refine dq1 ?_|refine dqk rfl (z44 _) ?_|exact z5 rfl rfl|fail)
  ·rw [decide_eq_false h,zY3b]
   repeat' (first|refine dqk rfl (z44 _) ?_|exact z5 rfl rfl|fail)
theorem zbo {x:Int} (h0:0≤x):0≤z0s x∧z0s x<1000003:=by
 unfold z0s;exact ⟨zY3h _ (by omega),Int.tmod_lt_of_pos _ (by omega)⟩
theorem z03h:Meets Tryz.prog z6q 104 ⟨[.one],[(false,[.scal])],true⟩:=by
 refine z06 (sp:=(z0w [])) (sigs:=z17) (cut:=[]) (hints:=[⟨3,[.t 0,.t 5]⟩]) (fn:=Tryz.f104) (t:=z82) (by kernel_rfl) (by kernel_rfl) (by kernel_rfl) ?_ ?_
 ·exact (z0q (L:=[]) trivial)
 ·rintro ds rs - h
  obtain ⟨n,⟨h1,h2⟩,rfl,rfl⟩:=z01 h;clear h;refine ⟨⟨5,?_⟩,z0i rfl⟩
  show den _ _ z82 [I n] []=ret (z6n n)
  have b1:=zbo (x:=n+1000000) (by omega);have b2:=zbo b1.1;have b3:=zbo b2.1;unfold z82
  repeat' (first|refine dq1 ?_|fail)
  refine zco (fun (s:Nat × Int)=>[I s.2,I s.1]) (fun s=>(s=(0,n+1000000)∨s=(1,z0s (n+1000000))∨s=(2,z0s (z0s (n+1000000)))∨s=(3,z0s (z0s (z0s (n+1000000)))))) (fun s=>3 - s.1) (0,n+1000000) rfl (.inl rfl) (by omega) ?_;have go:∀ (again:List Dt→Option (List Dt)) (i:Int) (x:Int) (nx:Int),0≤x→x≤3000000→nx=z0s x→i<3→0≤i→again [I nx,I (i+1)]=ret (z6n n)→den (fun ci=>([]:List zh).getD ci fun _=>none) 5 (match z82 with | .lets _ _ (.loop _ b)=>b|_=>.ret []) [I n,I (n+1000000),I x,I i] [again]=ret (z6n n):=by
   intro again i x nx hx0 hx1 hnx hi hi0 hag;subst hnx;unfold z0s at hag
   show den _ _ _ _ _=_
   simp only [z82]
   repeat' (first|refine dq1 ?_|refine dqT ?_|refine z4 (z05 rfl rfl (by omega)) ?_|refine z4 (zhf rfl rfl (by decide)) ?_|exact z6 rfl rfl hag|fail)
  rintro s hs again hag;rcases hs with rfl|rfl|rfl|rfl
  ·exact go again 0 _ _ (by omega) (by omega) rfl (by omega) (by omega) (hag (1,z0s (n+1000000)) (.inr (.inl rfl)) (by simp))
  ·exact go again 1 _ _ (by omega) (by omega) rfl (by omega) (by omega) (hag (2,z0s (z0s (n+1000000))) (.inr (.inr (.inl rfl))) (by simp))
  ·exact go again 2 _ _ (by omega) (by omega) rfl (by omega) (by omega) (hag (3,z0s (z0s (z0s (n+1000000)))) (.inr (.inr (.inr rfl))) (by simp))
  ·unfold z6n
   repeat' (first|refine dq1 ?_|refine dqF ?_|refine z4 (zhf rfl rfl (by decide)) ?_|exact z5 rfl rfl|fail)
end
section
open Go.RowKit
set_option maxRecDepth 100000
set_option maxHeartbeats 8000000
attribute [local irreducible] z0p spD z14 z6n z0v
attribute [local irreducible] den denX z1b z1q
noncomputable def z6r:zh:=spD (fun x:List Op × List Int × Int=>True) fun x=>z2m x.1 x.2.1 x.2.2
theorem zhw (l:List Op) (s:List Int) (h:Int):z6r [.l 2 (l.map eOp),.l 1 (s.map z13),I h]=some [.l 1 ((z2m l s h).1.map z13),I (z2m l s h).2]:=z09 (f:=fun x:List Op × List Int × Int=>z2m x.1 x.2.1 x.2.2) (l,s,h) trivial
theorem zc4 (l:List Op) (s:List Int) (h:Int) (hs:s.length≤1000000):z6r [.l 2 (l.map eOp),.l 1 (s.map z13),I h]=some [.l 1 ((z2m l s h).1.map z13),I (z2m l s h).2]:=zhw l s h
def zwz:T :=
 .lets [.bin .gtr 16 (zI 1000000)] [] (.ite 18 (.ret [.c (.nil 1),zI 3]) (.lets [.bin .add 14 (zI 1)] [] (.again 0 [12,13,.v
 19])))
def zx0:T :=
 .lets [] [.inr 1 1 14] (.lets [.idx 1 14 0] [] (.lets [.bin .lss 16 (.c (.i .i64 (-1000000)))] [] (.ite 17 (.ret [.c (.nil 1),zI 3])
 zwz)))
def zx1:T :=
 .ite 28 (.ret [.c (.nil 1),zI 8]) (.lets [.mk 1 [[23]]] [] (.lets [.app 1 17 29] [] (.lets [.bin .add 20 (zI 1)] [] (.again 1 [30,.v
 18,19,31]))))
def zx2:T :=
 .lets [.bin .lss 23 (.c (.i .i64 (-1000000)))] [] (.ite 27 (.ret [.c (.nil 1),zI 8]) (.lets [.bin .gtr 23 (zI 1000000)] [] zx1))
def zx3:T :=
 .lets [.bin .gtr 30 (zI 1000000)] [] (.ite 39 (.ret [.c (.nil 1),zI 8]) (.lets [.mk 1 [[30]]] [] (.lets [.app 1 33 40] [] (.ret [.c (.nil
 1),zI 8]))))
def zx4:T :=
 .ite 37 (.ret [.c (.nil 1),zI 8]) (.lets [.bin .lss 30 (.c (.i .i64 (-1000000)))] [] (.ite 38 (.ret [.c (.nil 1),zI 8]) zx3))
def zx5:T :=
 .lets [.bin .gtr 30 (zI 1000000)] [] (.ite 40 (.ret [.c (.nil 1),zI 8]) (.lets [.mk 1 [[30]]] [] (.lets [.app 1 33 41] [] (.ret [.c (.nil
 1),zI 8]))))
def zx6:T :=
 .ite 38 (.ret [.c (.nil 1),zI 8]) (.lets [.bin .lss 30 (.c (.i .i64 (-1000000)))] [] (.ite 39 (.ret [.c (.nil 1),zI 8]) zx5))
def zx7:T :=
 .lets [.bin .gtr 30 (zI 1000000)] [] (.ite 41 (.ret [.c (.nil 1),zI 8]) (.lets [.mk 1 [[30]]] [] (.lets [.app 1 33 42] [] (.ret [.c (.nil
 1),zI 8]))))
def zx8:T :=
 .ite 39 (.ret [.c (.nil 1),zI 8]) (.lets [.bin .lss 30 (.c (.i .i64 (-1000000)))] [] (.ite 40 (.ret [.c (.nil 1),zI 8]) zx7))
def zpg:T :=
 .ite 43 (.ret [.c (.nil 1),zI 8]) (.lets [.mk 1 [[30]]] [] (.lets [.app 1 39 44] [] (.lets [.bin .add 20 (zI 1)] [] (.again 1 [45,.v
 18,19,46]))))
def zph:T :=
 .lets [.bin .lss 30 (.c (.i .i64 (-1000000)))] [] (.ite 42 (.ret [.c (.nil 1),zI 8]) (.lets [.bin .gtr 30 (zI 1000000)] [] zpg))
def zpi:T :=
 .lets [.app 1 33 38] [] (.lets [.len 39] [] (.lets [.bin .eql 40 (zI 16)] [] (.ite 41 (.ret [.c (.nil 1),zI 8]) zph)))
def zpj:T :=
 .lets [.bin .gtr 30 (zI 1000000)] [] (.ite 37 (.lets [.len 33] [] (.lets [.bin .eql 38 (zI 16)] [] zx8)) (.lets [.mk 1 [[30]]] []
 zpi))
def zpk:T :=
 .lets [.bin .lss 30 (.c (.i .i64 (-1000000)))] [] (.ite 36 (.lets [.len 33] [] (.lets [.bin .eql 37 (zI 16)] [] zx6)) zpj)
def zpl:T :=
 .lets [.bin .eql 34 (zI 16)] [] (.ite 35 (.lets [.len 33] [] (.lets [.bin .eql 36 (zI 16)] [] zx4)) zpk)
def zpm:T :=
 .lets [.idx 17 29 0] [] (.lets [.len 17] [] (.lets [.bin .sub 31 (zI 1)] [] (.lets [.sub 1 17 none (some 32)] [] (.lets [.len 33] []
 zpl))))
def zpn:T :=
 .ite 27 (.ret [.c (.nil 1),zI 8]) (.lets [.len 17] [] (.lets [.bin .sub 28 (zI 1)] [] (.lets [] [.inr 1 17 29] zpm)))
def zpo:T :=
 .lets [.idx 17 32 0] [] (.lets [.len 17] [] (.lets [.bin .sub 34 (zI 1)] [] (.lets [.sub 1 17 none (some 35)] [] (.ret [.c (.nil 1),.c (.i
 .i64 8)]))))
def zpp:T :=
 .ite 30 (.ret [.c (.nil 1),zI 8]) (.lets [.len 17] [] (.lets [.bin .sub 31 (zI 1)] [] (.lets [] [.inr 1 17 32] zpo)))
def zpq:T :=
 .lets [.bin .gtr 39 (zI 1000000)] [] (.ite 48 (.ret [.c (.nil 1),zI 8]) (.lets [.mk 1 [[39]]] [] (.lets [.app 1 42 49] [] (.ret [.c (.nil
 1),zI 8]))))
def zpr:T :=
 .ite 46 (.ret [.c (.nil 1),zI 8]) (.lets [.bin .lss 39 (.c (.i .i64 (-1000000)))] [] (.ite 47 (.ret [.c (.nil 1),zI 8]) zpq))
def zps:T :=
 .lets [.bin .gtr 39 (zI 1000000)] [] (.ite 49 (.ret [.c (.nil 1),zI 8]) (.lets [.mk 1 [[39]]] [] (.lets [.app 1 42 50] [] (.ret [.c (.nil
 1),zI 8]))))
def zpt:T :=
 .ite 47 (.ret [.c (.nil 1),zI 8]) (.lets [.bin .lss 39 (.c (.i .i64 (-1000000)))] [] (.ite 48 (.ret [.c (.nil 1),zI 8]) zps))
def zpu:T :=
 .lets [.bin .gtr 39 (zI 1000000)] [] (.ite 50 (.ret [.c (.nil 1),zI 8]) (.lets [.mk 1 [[39]]] [] (.lets [.app 1 42 51] [] (.ret [.c (.nil
 1),zI 8]))))
def zpv:T :=
 .ite 48 (.ret [.c (.nil 1),zI 8]) (.lets [.bin .lss 39 (.c (.i .i64 (-1000000)))] [] (.ite 49 (.ret [.c (.nil 1),zI 8]) zpu))
def zpw:T :=
 .ite 52 (.ret [.c (.nil 1),zI 8]) (.lets [.mk 1 [[39]]] [] (.lets [.app 1 48 53] [] (.lets [.bin .add 20 (zI 1)] [] (.again 1 [54,.v
 18,19,55]))))
def zpx:T :=
 .lets [.bin .lss 39 (.c (.i .i64 (-1000000)))] [] (.ite 51 (.ret [.c (.nil 1),zI 8]) (.lets [.bin .gtr 39 (zI 1000000)] [] zpw))
def zpy:T :=
 .lets [.app 1 42 47] [] (.lets [.len 48] [] (.lets [.bin .eql 49 (zI 16)] [] (.ite 50 (.ret [.c (.nil 1),zI 8]) zpx)))
def zpz:T :=
 .lets [.bin .gtr 31 (zI 1000000)] [] (.ite 46 (.lets [.len 42] [] (.lets [.bin .eql 47 (zI 16)] [] zpv)) (.lets [.mk 1 [[31]]] []
 zpy))
def zq0:T :=
 .lets [.bin .lss 31 (.c (.i .i64 (-1000000)))] [] (.ite 45 (.lets [.len 42] [] (.lets [.bin .eql 46 (zI 16)] [] zpt)) zpz)
def zq1:T :=
 .lets [.bin .eql 43 (zI 16)] [] (.ite 44 (.lets [.len 42] [] (.lets [.bin .eql 45 (zI 16)] [] zpr)) zq0)
def zq2:T :=
 .lets [.idx 34 38 0] [] (.lets [.len 34] [] (.lets [.bin .sub 40 (zI 1)] [] (.lets [.sub 1 34 none (some 41)] [] (.lets [.len 42] []
 zq1))))
def zq3:T :=
 .ite 36 (.ret [.c (.nil 1),zI 8]) (.lets [.len 34] [] (.lets [.bin .sub 37 (zI 1)] [] (.lets [] [.inr 1 34 38] zq2)))
def zq4:T :=
 .lets [.bin .sub 32 (zI 1)] [] (.lets [.sub 1 17 none (some 33)] [] (.lets [.len 34] [] (.lets [.bin .eql 35 (zI 0)] [] zq3)))
def zq5:T :=
 .lets [.len 17] [] (.lets [.bin .sub 29 (zI 1)] [] (.lets [] [.inr 1 17 30] (.lets [.idx 17 30 0] [] (.lets [.len 17] []
 zq4))))
def zq6:T :=
 .lets [.len 17] [] (.lets [.bin .eql 27 (zI 0)] [] (.ite 28 (.lets [.len 17] [] (.lets [.bin .eql 29 (zI 0)] [] zpp))
 zq5))
def zq7:T :=
 .lets [.bin .sub 33 (zI 1)] [] (.lets [.sub 1 17 none (some 34)] [] (.lets [.bin .add 20 (zI 1)] [] (.again 1 [35,18,19,36])))
def zq8:T :=
 .lets [.len 17] [] (.lets [.bin .sub 30 (zI 1)] [] (.lets [] [.inr 1 17 31] (.lets [.idx 17 31 0] [] (.lets [.len 17] []
 zq7))))
def zq9:T :=
 .lets [.idx 17 34 0] [] (.lets [.len 17] [] (.lets [.bin .sub 36 (zI 1)] [] (.lets [.sub 1 17 none (some 37)] [] (.ret [.c (.nil 1),.c (.i
 .i64 8)]))))
def zqa:T :=
 .ite 32 (.ret [.c (.nil 1),zI 8]) (.lets [.len 17] [] (.lets [.bin .sub 33 (zI 1)] [] (.lets [] [.inr 1 17 34] zq9)))
def zqb:T :=
 .ite 49 (.ret [.c (.nil 1),zI 8]) (.lets [.mk 1 [[45]]] [] (.lets [.app 1 44 50] [] (.lets [.bin .add 20 (zI 1)] [] (.again 1 [51,.v
 18,19,52]))))
def zqc:T :=
 .lets [.bin .lss 45 (.c (.i .i64 (-1000000)))] [] (.ite 48 (.ret [.c (.nil 1),zI 8]) (.lets [.bin .gtr 45 (zI 1000000)] [] zqb))
def zqd:T :=
 .lets [.call 32 [41,33] 0] [] (.lets [.len 44] [] (.lets [.bin .eql 46 (zI 16)] [] (.ite 47 (.ret [.c (.nil 1),zI 8]) zqc)))
def zqe:T :=
 .lets [.idx 36 40 0] [] (.lets [.len 36] [] (.lets [.bin .sub 42 (zI 1)] [] (.lets [.sub 1 36 none (some 43)] [] zqd)))
def zqf:T :=
 .ite 38 (.ret [.c (.nil 1),zI 8]) (.lets [.len 36] [] (.lets [.bin .sub 39 (zI 1)] [] (.lets [] [.inr 1 36 40] zqe)))
def zqg:T :=
 .lets [.bin .sub 34 (zI 1)] [] (.lets [.sub 1 17 none (some 35)] [] (.lets [.len 36] [] (.lets [.bin .eql 37 (zI 0)] [] zqf)))
def zqh:T :=
 .lets [.len 17] [] (.lets [.bin .sub 31 (zI 1)] [] (.lets [] [.inr 1 17 32] (.lets [.idx 17 32 0] [] (.lets [.len 17] []
 zqg))))
def zqi:T :=
 .lets [.len 17] [] (.lets [.bin .eql 29 (zI 0)] [] (.ite 30 (.lets [.len 17] [] (.lets [.bin .eql 31 (zI 0)] [] zqa))
 zqh))
def zqj:T :=
 .lets [.idx 17 35 0] [] (.lets [.len 17] [] (.lets [.bin .sub 37 (zI 1)] [] (.lets [.sub 1 17 none (some 38)] [] (.ret [.c (.nil 1),.c (.i
 .i64 8)]))))
def zqk:T :=
 .ite 33 (.ret [.c (.nil 1),zI 8]) (.lets [.len 17] [] (.lets [.bin .sub 34 (zI 1)] [] (.lets [] [.inr 1 17 35] zqj)))
def zql:T :=
 .ite 50 (.ret [.c (.nil 1),zI 8]) (.lets [.mk 1 [[46]]] [] (.lets [.app 1 45 51] [] (.lets [.bin .add 20 (zI 1)] [] (.again 1 [52,.v
 18,19,53]))))
def zqm:T :=
 .lets [.bin .lss 46 (.c (.i .i64 (-1000000)))] [] (.ite 49 (.ret [.c (.nil 1),zI 8]) (.lets [.bin .gtr 46 (zI 1000000)] [] zql))
def zqn:T :=
 .lets [.call 33 [42,34] 0] [] (.lets [.len 45] [] (.lets [.bin .eql 47 (zI 16)] [] (.ite 48 (.ret [.c (.nil 1),zI 8]) zqm)))
def zqo:T :=
 .lets [.idx 37 41 0] [] (.lets [.len 37] [] (.lets [.bin .sub 43 (zI 1)] [] (.lets [.sub 1 37 none (some 44)] [] zqn)))
def zqp:T :=
 .ite 39 (.ret [.c (.nil 1),zI 8]) (.lets [.len 37] [] (.lets [.bin .sub 40 (zI 1)] [] (.lets [] [.inr 1 37 41] zqo)))
def zqq:T :=
 .lets [.bin .sub 35 (zI 1)] [] (.lets [.sub 1 17 none (some 36)] [] (.lets [.len 37] [] (.lets [.bin .eql 38 (zI 0)] [] zqp)))
def zqr:T :=
 .lets [.len 17] [] (.lets [.bin .sub 32 (zI 1)] [] (.lets [] [.inr 1 17 33] (.lets [.idx 17 33 0] [] (.lets [.len 17] []
 zqq))))
def zqs:T :=
 .lets [.len 17] [] (.lets [.bin .eql 30 (zI 0)] [] (.ite 31 (.lets [.len 17] [] (.lets [.bin .eql 32 (zI 0)] [] zqk))
 zqr))
def zqt:T :=
 .lets [.idx 17 36 0] [] (.lets [.len 17] [] (.lets [.bin .sub 38 (zI 1)] [] (.lets [.sub 1 17 none (some 39)] [] (.ret [.c (.nil 1),.c (.i
 .i64 8)]))))
def zqu:T :=
 .ite 34 (.ret [.c (.nil 1),zI 8]) (.lets [.len 17] [] (.lets [.bin .sub 35 (zI 1)] [] (.lets [] [.inr 1 17 36] zqt)))
def zqv:T :=
 .ite 51 (.ret [.c (.nil 1),zI 8]) (.lets [.mk 1 [[47]]] [] (.lets [.app 1 46 52] [] (.lets [.bin .add 20 (zI 1)] [] (.again 1 [53,.v
 18,19,54]))))
def zqw:T :=
 .lets [.bin .lss 47 (.c (.i .i64 (-1000000)))] [] (.ite 50 (.ret [.c (.nil 1),zI 8]) (.lets [.bin .gtr 47 (zI 1000000)] [] zqv))
def zqx:T :=
 .lets [.call 34 [43,35] 0] [] (.lets [.len 46] [] (.lets [.bin .eql 48 (zI 16)] [] (.ite 49 (.ret [.c (.nil 1),zI 8]) zqw)))
def zqy:T :=
 .lets [.idx 38 42 0] [] (.lets [.len 38] [] (.lets [.bin .sub 44 (zI 1)] [] (.lets [.sub 1 38 none (some 45)] [] zqx)))
def zqz:T :=
 .ite 40 (.ret [.c (.nil 1),zI 8]) (.lets [.len 38] [] (.lets [.bin .sub 41 (zI 1)] [] (.lets [] [.inr 1 38 42] zqy)))
def zr0:T :=
 .lets [.bin .sub 36 (zI 1)] [] (.lets [.sub 1 17 none (some 37)] [] (.lets [.len 38] [] (.lets [.bin .eql 39 (zI 0)] [] zqz)))
def zr1:T :=
 .lets [.len 17] [] (.lets [.bin .sub 33 (zI 1)] [] (.lets [] [.inr 1 17 34] (.lets [.idx 17 34 0] [] (.lets [.len 17] []
 zr0))))
def zr2:T :=
 .lets [.len 17] [] (.lets [.bin .eql 31 (zI 0)] [] (.ite 32 (.lets [.len 17] [] (.lets [.bin .eql 33 (zI 0)] [] zqu))
 zr1))
def zr3:T :=
 .lets [.idx 17 37 0] [] (.lets [.len 17] [] (.lets [.bin .sub 39 (zI 1)] [] (.lets [.sub 1 17 none (some 40)] [] (.ret [.c (.nil 1),.c (.i
 .i64 8)]))))
def zr4:T :=
 .ite 35 (.ret [.c (.nil 1),zI 8]) (.lets [.len 17] [] (.lets [.bin .sub 36 (zI 1)] [] (.lets [] [.inr 1 17 37] zr3)))
def zr5:T :=
 .ite 52 (.ret [.c (.nil 1),zI 8]) (.lets [.mk 1 [[48]]] [] (.lets [.app 1 47 53] [] (.lets [.bin .add 20 (zI 1)] [] (.again 1 [54,.v
 18,19,55]))))
def zr6:T :=
 .lets [.bin .lss 48 (.c (.i .i64 (-1000000)))] [] (.ite 51 (.ret [.c (.nil 1),zI 8]) (.lets [.bin .gtr 48 (zI 1000000)] [] zr5))
def zr7:T :=
 .lets [.call 35 [44,36] 0] [] (.lets [.len 47] [] (.lets [.bin .eql 49 (zI 16)] [] (.ite 50 (.ret [.c (.nil 1),zI 8]) zr6)))
def zr8:T :=
 .lets [.idx 39 43 0] [] (.lets [.len 39] [] (.lets [.bin .sub 45 (zI 1)] [] (.lets [.sub 1 39 none (some 46)] [] zr7)))
def zr9:T :=
 .ite 41 (.ret [.c (.nil 1),zI 8]) (.lets [.len 39] [] (.lets [.bin .sub 42 (zI 1)] [] (.lets [] [.inr 1 39 43] zr8)))
def zra:T :=
 .lets [.bin .sub 37 (zI 1)] [] (.lets [.sub 1 17 none (some 38)] [] (.lets [.len 39] [] (.lets [.bin .eql 40 (zI 0)] [] zr9)))
def zrb:T :=
 .lets [.len 17] [] (.lets [.bin .sub 34 (zI 1)] [] (.lets [] [.inr 1 17 35] (.lets [.idx 17 35 0] [] (.lets [.len 17] []
 zra))))
def zrc:T :=
 .lets [.len 17] [] (.lets [.bin .eql 32 (zI 0)] [] (.ite 33 (.lets [.len 17] [] (.lets [.bin .eql 34 (zI 0)] [] zr4))
 zrb))
def zrd:T :=
 .lets [.idx 17 38 0] [] (.lets [.len 17] [] (.lets [.bin .sub 40 (zI 1)] [] (.lets [.sub 1 17 none (some 41)] [] (.ret [.c (.nil 1),.c (.i
 .i64 8)]))))
def zre:T :=
 .ite 36 (.ret [.c (.nil 1),zI 8]) (.lets [.len 17] [] (.lets [.bin .sub 37 (zI 1)] [] (.lets [] [.inr 1 17 38] zrd)))
def zrf:T :=
 .ite 53 (.ret [.c (.nil 1),zI 8]) (.lets [.mk 1 [[49]]] [] (.lets [.app 1 48 54] [] (.lets [.bin .add 20 (zI 1)] [] (.again 1 [55,.v
 18,19,56]))))
def zrg:T :=
 .lets [.bin .lss 49 (.c (.i .i64 (-1000000)))] [] (.ite 52 (.ret [.c (.nil 1),zI 8]) (.lets [.bin .gtr 49 (zI 1000000)] [] zrf))
def zrh:T :=
 .lets [.call 36 [45,37] 0] [] (.lets [.len 48] [] (.lets [.bin .eql 50 (zI 16)] [] (.ite 51 (.ret [.c (.nil 1),zI 8]) zrg)))
def zri:T :=
 .lets [.idx 40 44 0] [] (.lets [.len 40] [] (.lets [.bin .sub 46 (zI 1)] [] (.lets [.sub 1 40 none (some 47)] [] zrh)))
def zrj:T :=
 .ite 42 (.ret [.c (.nil 1),zI 8]) (.lets [.len 40] [] (.lets [.bin .sub 43 (zI 1)] [] (.lets [] [.inr 1 40 44] zri)))
def zrk:T :=
 .lets [.bin .sub 38 (zI 1)] [] (.lets [.sub 1 17 none (some 39)] [] (.lets [.len 40] [] (.lets [.bin .eql 41 (zI 0)] [] zrj)))
def zrl:T :=
 .lets [.len 17] [] (.lets [.bin .sub 35 (zI 1)] [] (.lets [] [.inr 1 17 36] (.lets [.idx 17 36 0] [] (.lets [.len 17] []
 zrk))))
def zrm:T :=
 .lets [.len 17] [] (.lets [.bin .eql 33 (zI 0)] [] (.ite 34 (.lets [.len 17] [] (.lets [.bin .eql 35 (zI 0)] [] zre))
 zrl))
def zrn:T :=
 .ite 46 (.ret [.c (.nil 1),zI 8]) (.lets [.mk 1 [[42]]] [] (.lets [.app 1 41 47] [] (.lets [.bin .add 20 (zI 1)] [] (.again 1 [48,.v
 18,19,49]))))
def zro:T :=
 .lets [.bin .lss 42 (.c (.i .i64 (-1000000)))] [] (.ite 45 (.ret [.c (.nil 1),zI 8]) (.lets [.bin .gtr 42 (zI 1000000)] [] zrn))
def zrp:T :=
 .lets [.call 37 [38] 0] [] (.lets [.len 41] [] (.lets [.bin .eql 43 (zI 16)] [] (.ite 44 (.ret [.c (.nil 1),zI 8]) zro)))
def zrq:T :=
 .lets [.idx 17 37 0] [] (.lets [.len 17] [] (.lets [.bin .sub 39 (zI 1)] [] (.lets [.sub 1 17 none (some 40)] [] zrp)))
def zrr:T :=
 .ite 35 (.ret [.c (.nil 1),zI 8]) (.lets [.len 17] [] (.lets [.bin .sub 36 (zI 1)] [] (.lets [] [.inr 1 17 37] zrq)))
def zrs:T :=
 .ite 47 (.ret [.c (.nil 1),zI 8]) (.lets [.mk 1 [[43]]] [] (.lets [.app 1 42 48] [] (.lets [.bin .add 20 (zI 1)] [] (.again 1 [49,.v
 18,19,50]))))
def zrt:T :=
 .lets [.bin .lss 43 (.c (.i .i64 (-1000000)))] [] (.ite 46 (.ret [.c (.nil 1),zI 8]) (.lets [.bin .gtr 43 (zI 1000000)] [] zrs))
def zru:T :=
 .lets [.call 39 [39] 0] [] (.lets [.len 42] [] (.lets [.bin .eql 44 (zI 16)] [] (.ite 45 (.ret [.c (.nil 1),zI 8]) zrt)))
def zrv:T :=
 .lets [.idx 17 38 0] [] (.lets [.len 17] [] (.lets [.bin .sub 40 (zI 1)] [] (.lets [.sub 1 17 none (some 41)] [] zru)))
def zrw:T :=
 .ite 36 (.ret [.c (.nil 1),zI 8]) (.lets [.len 17] [] (.lets [.bin .sub 37 (zI 1)] [] (.lets [] [.inr 1 17 38] zrv)))
def zrx:T :=
 .lets [.bin .eql 40 (zI 0)] [] (.ite 44 (.ret [.c (.nil 1),zI 8]) (.lets [.bin .add 20 (zI 1)] [] (.again 1 [43,18,19,.v
 45])))
def zji:T :=
 .lets [.idx 17 39 0] [] (.lets [.len 17] [] (.lets [.bin .sub 41 (zI 1)] [] (.lets [.sub 1 17 none (some 42)] [] zrx)))
def zjj:T :=
 .ite 37 (.ret [.c (.nil 1),zI 8]) (.lets [.len 17] [] (.lets [.bin .sub 38 (zI 1)] [] (.lets [] [.inr 1 17 39] zji)))
def zjk:T :=
 .ite 40 (.ret [.c (.nil 1),zI 8]) (.lets [.mk 1 [[2]]] [] (.lets [.app 1 17 41] [] (.lets [.bin .add 20 (zI 1)] [] (.again 1 [42,.v
 18,19,43]))))
def zjl:T :=
 .lets [.bin .lss 2 (.c (.i .i64 (-1000000)))] [] (.ite 39 (.ret [.c (.nil 1),zI 8]) (.lets [.bin .gtr 2 (zI 1000000)] [] zjk))
def zjm:T :=
 .ite 36 (.lets [.len 17] [] (.lets [.bin .eql 37 (zI 16)] [] (.ite 38 (.ret [.c (.nil 1),zI 8]) zjl))) (.lets [.bin .add 20
 (zI 1)] [] (.again 1 [17,18,19,37]))
def zjn:T :=
 .ite 35 (.lets [.len 17] [] (.lets [.bin .eql 36 (zI 0)] [] zjj)) (.lets [.bin .eql 22 (zI 12)] [] zjm)
def zjo:T :=
 .ite 34 (.lets [.len 17] [] (.lets [.bin .eql 35 (zI 0)] [] zrw)) (.lets [.bin .eql 22 (zI 11)] [] zjn)
def zjp:T :=
 .ite 33 (.lets [.len 17] [] (.lets [.bin .eql 34 (zI 0)] [] zrr)) (.lets [.bin .eql 22 (zI 13)] [] zjo)
def zjq:T :=
 .ite 31 zrc (.lets [.bin .eql 22 (zI 10)] [] (.ite 32 zrm (.lets [.bin .eql 22 (zI 9)] [] zjp)))
def zjr:T :=
 .ite 29 zqs (.lets [.bin .eql 22 (zI 7)] [] (.ite 30 zr2 (.lets [.bin .eql 22 (zI 8)] [] zjq)))
def zjs:T :=
 .ite 27 (.lets [.len 17] [] (.lets [.bin .eql 28 (zI 0)] [] (.ite 29 (.ret [.c (.nil 1),zI 8]) zq8))) (.lets [.bin .eql 22 (.c
 (.i .i64 5))] [] (.ite 28 zqi (.lets [.bin .eql 22 (zI 6)] [] zjr)))
def zjt:T :=
 .ite 25 (.lets [.len 17] [] (.lets [.bin .eql 26 (zI 0)] [] zpn)) (.lets [.bin .eql 22 (zI 3)] [] (.ite 26 zq6 (.lets
 [.bin .eql 22 (zI 4)] [] zjs)))
def zju:T :=
 .ite 24 (.lets [.len 17] [] (.lets [.bin .eql 25 (zI 16)] [] (.ite 26 (.ret [.c (.nil 1),zI 8]) zx2))) (.lets [.bin .eql 22 (.c
 (.i .i64 2))] [] zjt)
def zjv:T :=
 .ite 21 (.lets [] [.inr 2 0 20] (.lets [.idx 0 20 0,.idx 0 20 1] [] (.lets [.bin .eql 22 (zI 1)] [] zju))) (.ret [17,
 .c (.i .i64 0)])
def zjw:T :=
 .lets [.bin .lss 14 11] [] (.ite 15 zx0 (.lets [.len 0] [] (.loop [10,12,13,zI 0] (.lets [.bin .lss 20 16] []
 zjv))))
def zjx:T :=
 .ite 8 (.ret [.c (.nil 1),zI 3]) (.lets [.mk 1 []] [] (.lets [.app 1 9 1] [] (.lets [.len 1] [] (.loop [.c (.nil 1),zI 0,zI 0]
 zjw))))
def zjy:T :=
 .lets [.bin .gtr 2 (zI 1000)] [] (.ite 6 (.ret [.c (.nil 1),zI 3]) (.lets [.len 1] [] (.lets [.bin .gtr 7 (zI 16)] []
 zjx)))
def zjz:T :=
 .lets [.bin .neq 3 (zI 0)] [] (.ite 4 (.ret [.c (.nil 1),3]) (.lets [.bin .lss 2 (zI 0)] [] (.ite 5 (.ret [.c (.nil 1),zI 3])
 zjy)))
def zd4:T :=
 .lets [.call 7 [0] 0] [] zjz
attribute [local irreducible] z25 z6q zan zap z9i zaq z9h zao
theorem z03i:Meets Tryz.prog z6r 62 ⟨[.one,.one,.one],[(false,[.fresh 3 1]),(false,[.scal])],false⟩:=by
 refine z7y (sp:=(z0w [(7,z25),(32,zan),(33,zao),(34,z9h),(35,z9i),(36,zap),(37,zaq),(39,z6q)])) (sigs:=z17) (cut:=[]) (hints:=[⟨8,[.r 6 3 1,.t 7,.t 38]⟩,⟨14,[.c 35 0 360,.r 6 3 1,.t 7,.t 51,.o 32,.z 34,.z 32]⟩]) (fns:=[z86 72 Tryz.f72 [] [],z86 94 Tryz.f94 [] [35],z86 95 Tryz.f95 [] [],z86 105 Tryz.f105 [] [],z86 93 Tryz.f93 [] [],z86 96 Tryz.f96 [] []]) (dep:=6) (pool:=300) (fn:=Tryz.f62) (t:=zd4) (by kernel_rfl) (by kernel_rfl) (by kernel_rfl) ?_ ?_ ?_
 ·exact (z28 (fn:=Tryz.f72) (by kernel_rfl) (by kernel_rfl) (by kernel_rfl) (by kernel_rfl) (by kernel_rfl) (z28 (fn:=Tryz.f94) (by kernel_rfl) (by kernel_rfl) (by kernel_rfl) (by kernel_rfl) (by kernel_rfl) (z28 (fn:=Tryz.f95) (by kernel_rfl) (by kernel_rfl) (by kernel_rfl) (by kernel_rfl) (by kernel_rfl) (z28 (fn:=Tryz.f105) (by kernel_rfl) (by kernel_rfl) (by kernel_rfl) (by kernel_rfl) (by kernel_rfl) (z28 (fn:=Tryz.f93) (by kernel_rfl) (by kernel_rfl) (by kernel_rfl) (by kernel_rfl) (by kernel_rfl) (z28 (fn:=Tryz.f96) (by kernel_rfl) (by kernel_rfl) (by kernel_rfl) (by kernel_rfl) (by kernel_rfl) z9b))))))
 ·exact (z0q (L:=[(7,z25),(32,zan),(33,zao),(34,z9h),(35,z9i),(36,zap),(37,zaq),(39,z6q)]) ⟨zj rfl za4,zj rfl z09u,zj rfl z09v,zj rfl z07o,zj rfl z07p,zj rfl z09x,zj rfl z09w,zj rfl z03h,trivial⟩)
 ·rintro ds rs - h
  obtain ⟨⟨l,s0,ht⟩,-,rfl,rfl⟩:=z01 h;clear h;refine ⟨⟨l.length+s0.length+1,?_⟩,?_⟩
  ·show den _ _ zd4 [.l 2 (l.map eOp),.l 1 (s0.map z13),I ht] []=ret (z2m l s0 ht)
   unfold zd4 z2m
   repeat' (first|refine dq1 ?_|refine dqk rfl (z6i _) ?_|exact z5 rfl rfl|((first|refine tR ?_ ?_|refine tO ?_ ?_) <;> intro h)|fail)
   have hc0:zd l=0:=zY0w.1 (by assumption);refine z4 (zp (r:=[]) rfl rfl (by simp)) ?_;refine z4 (zct (l:=([]:List Int)) (l':=s0) (f:=z13) rfl rfl (by simp;omega)) ?_
   repeat' (first|refine dq1 ?_|fail)
   (refine z0k (fun (_:Unit) k=>[.l 1 (([]:List Int).map z13),I 0,I k]) (fun (_:Unit) _ (r:List Int)=>if ∀ x ∈ r,z2e x then (match z1w ht s0 l with|none=>(([]:List Int),(8:Int))|some s'=>(s',0)) else (([]:List Int),(3:Int))) (fun _ k=>∀ x ∈ s0.take k,z2e x) () s0 ?_ ?_ ?_ ?_ ?_;rfl;exact (fun x hx=>by simp at hx);omega)
   ·rintro _ k x r hx hd hk hp again hag
    repeat' (first|refine dq1 ?_|refine dqc ?_|refine dqT ?_|fail)
    refine z02 rfl (fun h=>?_) (fun h=>?_)
    ·rw [if_neg (fun hh=>by have:=(hh x (zY0l ..)).1;omega)]
     repeat' (first|exact z5 rfl rfl|fail)
    repeat' (first|refine dq1 ?_|fail)
    refine z02 rfl (fun h=>?_) (fun h=>?_)
    ·rw [if_neg (fun hh=>by have:=(hh x (zY0l ..)).2;omega)]
     repeat' (first|exact z5 rfl rfl|fail)
    repeat' (first|refine dq1 ?_|fail)
    refine z6 rfl rfl ((hag () ?_).trans ?_)
    ·intro y hy
     rw [List.take_add_one,hx] at hy;rcases zY0z.1 hy with hy|hy
     ·exact hp y hy
     ·simp only [Option.toList_some,zY13] at hy;subst hy;exact ⟨by omega,by omega⟩
    ·have:(∀ y ∈ x::r,z2e y)↔∀ y ∈ r,z2e y:=by
      simp only [zY0m,forall_eq_or_imp];exact ⟨fun h=>h.2,fun h=>⟨⟨by omega,by omega⟩,h⟩⟩
     simp only [this]
   ·rintro _ hp again
    rw [zY1c] at hp;rw [if_pos (by simp)]
    repeat' (first|refine dq1 ?_|refine dqF ?_|fail)
    (refine z0k (fun (s:List Int) k=>[.l 1 (s.map z13),.l 1 (([]:List Int).map z13),I 0,I k]) (fun (s:List Int) _ (r:List Op)=>(match z1w ht s r with|none=>(([]:List Int),(8:Int))|some s'=>(s',0))) (fun s _=>z11 s) s0 l ?_ ?_ ?_ ?_ ?_;rfl;exact ⟨by omega,hp⟩;omega)
    ·rintro s k o r hx hd hk hs again' hag
     have hF:z1y ht s o=none→(match z1w ht s (o::r) with|none=>(([]:List Int),(8:Int))|some s'=>(s',0))=([],8):=fun e=>by rw [z1w,e]
     have hO:∀ s',z1y ht s o=some s'→again' [.l 1 (s'.map z13),.l 1 (([]:List Int).map z13),I 0,I ((k:Int)+1)]=ret (match z1w ht s (o::r) with|none=>(([]:List Int),(8:Int))|some s'=>(s',0)):=fun s' e=>by rw [z1w,e];exact hag s' (zbl hs e)
     generalize (match z1w ht s (o::r) with|none=>(([]:List Int),(8:Int))|some s'=>(s',0))=R at hF hO ⊢;have hsl:=hs.1;have hfit:=hs;have hll:l.length≤16:=z6j hc0;clear hag hd hp hs;have hk13:o.kind=1∨o.kind=2∨o.kind=3∨o.kind=4∨o.kind=5∨o.kind=6∨o.kind=7∨o.kind=8∨o.kind=9∨o.kind=10∨o.kind=11∨o.kind=12∨o.kind=13∨(o.kind≠1∧o.kind≠2∧o.kind≠3∧o.kind≠4∧o.kind≠5∧o.kind≠6∧o.kind≠7∧o.kind≠8∧o.kind≠9∧o.kind≠10∧o.kind≠11∧o.kind≠12∧o.kind≠13):=by omega
     have hcase:(s.length=0∧z39 s=none)∨(∃ a t,z2e a∧z39 s=some (a,t)∧(s.length:Int)=t.length+1∧s[((s.length:Int) - 1).toNat]? = some a∧s.take ((s.length:Int) - 1).toNat=t∧((t.length=0∧z39 t=none)∨∃ b u,z2e b∧z39 t=some (b,u)∧(t.length:Int)=u.length+1∧t[((t.length:Int) - 1).toNat]? = some b∧t.take ((t.length:Int) - 1).toNat=u)):=by
      by_cases h0:s.length=0
      ·exact .inl ⟨h0,z9s h0⟩
      ·obtain ⟨a,t,p1,p2,p3,p4,p5⟩:=z9t h0
       have f1:=z3b hfit p1;refine .inr ⟨a,t,f1.1,p1,p3,p4,p5,?_⟩
       by_cases h1:t.length=0
       ·exact .inl ⟨h1,z9s h1⟩
       ·obtain ⟨b,u,q1,q2,q3,q4,q5⟩:=z9t h1
        exact .inr ⟨b,u,(z3b f1.2 q1).1,q1,q3,q4,q5⟩
     rcases hk13 with hk|hk|hk|hk|hk|hk|hk|hk|hk|hk|hk|hk|hk|hk
     all_goals
      try simp only [z1y,hk,Int.reduceEq,if_true,if_false] at hF hO
      rcases hcase with ⟨c1,c2⟩|⟨a,t,fa,p1,p3,p4,p5,⟨c1,c2⟩|⟨b,u,fb,q1,q3,q4,q5⟩⟩
      ·try simp only [c2,z10,z15,zY07] at hF hO
       repeat' (first|refine dq1 ?_|refine dqc ?_|refine dqm ?_|refine dqT ?_|refine dqF ?_|exact z5 rfl (by rw [hF (by (repeat' (first|rw [za (by omega)]|simp only [zY05,zY07]|fail)))];rfl)|exact z6 rfl rfl (hO _ (by (repeat' (first|rfl|rw [z9 (by omega) (by omega) (by omega)]|fail))))|refine z02 rfl (fun h=>?_) (fun h=>?_)|fail)
      ·try simp only [p1,c2,z10,z15,zY07,zY05] at hF hO
       obtain ⟨fa1,fa2⟩:=id fa
       repeat' (first|refine dq1 ?_|refine dqc ?_|refine dqm ?_|refine dqk rfl (zc3 _ (by assumption)) ?_|refine dqk rfl (zgp _) ?_|refine dqT ?_|refine dqF ?_|exact z5 rfl (by rw [hF (by (repeat' (first|rw [za (by omega)]|rw [z9 (by omega) (by omega) (by omega)]|rw [if_pos (by omega)]|simp only [zY05,zY07]|fail)))];rfl)|exact z6 rfl rfl (hO _ (by (repeat' (first|rfl|rw [z9 (by omega) (by omega) (by omega)]|rw [if_neg (by omega)]|simp only [zY05,zY07]|fail))))|refine z02 rfl (fun h=>?_) (fun h=>?_)|fail)
      ·try simp only [p1,q1,z10,z15,zY07,zY05] at hF hO
       obtain ⟨fa1,fa2⟩:=id fa;obtain ⟨fb1,fb2⟩:=id fb
       repeat' (first|refine dq1 ?_|refine dqc ?_|refine dqm ?_|refine dqk rfl (zc3 _ (by assumption)) ?_|refine dqk rfl (z00e _ _ ⟨by assumption,by assumption⟩) ?_|refine dqk rfl (z00f _ _ ⟨by assumption,by assumption⟩) ?_|refine dqk rfl (zwv _ _) ?_|refine dqk rfl (zww _ _) ?_|refine dqk rfl (z00g _ _) ?_|refine dqk rfl (zgp _) ?_|refine dqT ?_|refine dqF ?_|exact z5 rfl (by rw [hF (by (repeat' (first|rw [za (by omega)]|rw [z9 (by omega) (by omega) (by omega)]|rw [if_pos (by omega)]|simp only [zY05,zY07]|fail)))];rfl)|exact z6 rfl rfl (hO _ (by (repeat' (first|rfl|rw [z9 (by omega) (by omega) (by omega)]|rw [if_neg (by omega)]|simp only [zY05,zY07]|fail))))|refine z02 rfl (fun h=>?_) (fun h=>?_)|fail)
    ·rintro s hs again'
     repeat' (first|refine dq1 ?_|exact z5 rfl rfl|refine dqF ?_|fail)
  ·intro i d hi hd
   match i,hi,hd with
   | 0,hi,_=>simp [zw] at hi
   | 1,_,hd=>simp only [Enc.e,z13,zY18,zY0y,zY09,zY22,zY00] at hd;subst hd;rfl
   | i+2,hi,hd=>simp [zw] at hi
end
section
open Go.RowKit
set_option maxRecDepth 100000
set_option maxHeartbeats 4000000
attribute [local irreducible] z0p spD z14 z2m
noncomputable def z6s:zh:=spD (fun _:List Op × List Op × Int=>True) fun x=>z21 x.1 x.2.1 x.2.2
theorem zgq (l k:List Op) (h:Int):z6s [.l 2 (l.map eOp),.l 2 (k.map eOp),I h]=some [.b (z21 l k h).1,I (z21 l k h).2]:=z09 (f:=fun x:List Op × List Op × Int=>z21 x.1 x.2.1 x.2.2) (l,k,h) trivial
theorem zyv {h:Int}:∀ {l:List Op} {s s':List Int},z11 s→z1w h s l=some s'→z11 s'
 | [],s,s',hs,he=>by cases he;exact hs
 | o::l,s,s',hs,he=>by
  rw [z1w] at he
  cases hm:z1y h s o with
  | none=>rw [hm] at he;cases he
  | some t=>rw [hm] at he;exact zyv (zbl hs hm) he
theorem zj2 (l:List Op) (s:List Int) (h:Int):(z2m l s h).1.length≤16:=by
 unfold z2m
 split
 ·simp
 split
 ·simp
 rename_i h2
 split
 ·rename_i h3
  have hs:z11 s:=⟨by omega,h3⟩
  cases hm:z1w h s l with
  | none=>simp
  | some t=>exact (zyv hs hm).1
 ·simp
theorem z07q {l:List Int} (h:(l.length:Int)=1):l[(0:Int).toNat]? = some (l.headD 0):=by
 match l,h with
 | [x],_=>rfl
def zk0:T :=
 .lets [.bin .neq 8 (zI 0)] [] (.ite 9 (.ret [.c (.b false),8]) (.lets [.bin .add 5 (zI 1)] [] (.again 0 [3,4,10])))
def zk1:T :=
 .lets [] [.inr 1 10 (zI 0)] (.lets [.idx 10 (zI 0) 0] [] (.lets [.bin .neq 16 (zI 0)] [] (.ret [17,zI 0])))
def zk2:T :=
 .ite 13 (.lets [.len 10] [] (.lets [.bin .eql 14 (zI 1)] [] (.ite 15 zk1 (.ret [.c (.b false),zI 0])))) (.ret [.c (.b false),.c
 (.i .i64 0)])
def zk3:T :=
 .lets [.call 31 [0,7,2] 0,.call 31 [0,7,2] 1] [] (.lets [.bin .eql 11 (zI 3)] [] (.ite 12 (.ret [.c (.b false),11]) (.lets [.bin .eql
 11 (zI 0)] [] zk2)))
def zk4:T :=
 .lets [] [.inr 1 7 (zI 0)] (.lets [.idx 7 (zI 0) 0] [] (.lets [.bin .neq 14 (zI 0)] [] (.ret [15,zI 0])))
def zk5:T :=
 .ite 11 (.lets [.len 7] [] (.lets [.bin .eql 12 (zI 1)] [] (.ite 13 zk4 (.ret [.c (.b false),zI 0])))) (.ret [.c (.b false),.c
 (.i .i64 0)])
def zk6:T :=
 .ite 9 zk3 (.lets [.bin .eql 8 (zI 3)] [] (.ite 10 (.ret [.c (.b false),8]) (.lets [.bin .eql 8 (zI 0)] [] zk5)))
def zk7:T :=
 .ite 6 (.lets [.sel [0,1] 5] [] (.lets [.call 7 [7] 0] [] zk0)) (.lets [.call 31 [1,.c (.nil 1),2] 0,.call 31 [1,.c (.nil 1),2] 1] []
 (.lets [.bin .eql 8 (zI 0)] [] zk6))
def za6:T :=
 .loop [.c (.b false),zI 0,zI 0] (.lets [.bin .lss 5 (zI 2)] [] zk7)
theorem zx9:Meets Tryz.prog z6s 44 ⟨[.one,.one,.one],[(false,[.scal]),(false,[.scal])],true⟩:=by
 refine z06 (sp:=(z0w [(7,z25),(31,z6r)])) (sigs:=z17) (cut:=[]) (hints:=[⟨2,[.t 6,.t 7,.t 16]⟩]) (fn:=Tryz.f44) (t:=za6) (by kernel_rfl) (by kernel_rfl) (by kernel_rfl) ?_ ?_
 ·exact (z0q (L:=[(7,z25),(31,z6r)]) ⟨zj rfl za4,zj rfl z03i,trivial⟩)
 ·rintro ds rs - h
  obtain ⟨⟨l,k,ht⟩,-,rfl,rfl⟩:=z01 h;clear h;refine ⟨⟨3,?_⟩,zb7 rfl rfl⟩
  show den _ _ za6 [.l 2 (l.map eOp),.l 2 (k.map eOp),I ht] []=ret (z21 l k ht)
  unfold za6 z21;refine zn rfl ?_;rw [zf]
  repeat' (first|refine dq1 ?_|refine dqk rfl (z6i _) ?_|exact z5 rfl rfl|refine tR (fun h=>?_) fun h=>?_|fail)
  refine z6 rfl rfl ?_;rw [zf];have hr1:=zj2 k [] ht;have hr2:=zj2 l (z2m k [] ht).1 ht;unfold zam
  repeat' (first|refine dq1 ?_|refine dqc ?_|refine dqK rfl (zc4 k [] ht (by simp)) ?_|refine dqK rfl (zc4 l _ ht (by omega)) ?_|exact z5 rfl rfl|refine tR (fun h=>?_) fun h=>?_|fail)
  all_goals
   have hx:=z07q (by assumption)
   repeat' (first|refine dq1 ?_|exact z5 rfl rfl|fail)
end
section
open Go.RowKit
section
variable {P:Program} {W:World}
theorem zar {g o t:Nat} {vs cs:List Value} (hg:W.heap[g]? = some (.cells vs.toArray t (0,0))) (hn:o+cs.length≤vs.length) (h1:∀ v ∈ cs,v.oneCell'=true):(storeCells ⟨g,o,none⟩ cs 0).run P W = .ok () (W.setCells g o cs):=by
 have h:=zc9 (fr:=(0,0)) hg (o:=o) (n:=cs.length) hn;have:=run_storeCells_cells (P:=P) g o cs 0 W (fun j hj=>by rw [zY29];exact (h j hj).1) (fun j hj=>by rw [zY29];exact (h j hj).2) h1;simpa using this
theorem z03j {t e ty sz:Nat} {z:Value} (ht:P.underlying t=some (.slice e)) (hv:∀ w,(zeroValue e).run P w = .ok z w) (hz:z.cells.size=sz) (h1:∀ v ∈ z.cells.toList,v.oneCell'=true) {g o n c tt:Nat} {vs:List Value} (hg:W.heap[g]? = some (.cells vs.toArray tt (0,0))) (hn:o+n * sz≤vs.length) :
  (Builtin.clear_ #[t] ty #[.slice (some ⟨g,o,none⟩) n c]).run P W = .ok (.tuple #[]) (W.setCells g o (Builtin.zeroCells z.cells n).toList):=by
 have hzl:(Builtin.zeroCells z.cells n).toList.length=n * sz:=by simp [Builtin.zeroCells,hz]
 cases n with
 | zero =>
  have:(Builtin.zeroCells z.cells 0).toList=[]:=zY0b (by rw [hzl];simp);rw [this];simp [Builtin.clear_,run_underlying ht,World.setCells]
 | succ n =>
  have hs:=zar (P:=P) (cs:=(Builtin.zeroCells z.cells (n+1)).toList) hg (by rw [hzl];exact hn) (fun v hv=>by
   rw [Array.mem_toList_iff] at hv;simp only [Builtin.zeroCells,Array.mem_map] at hv;obtain ⟨i,hi,rfl⟩:=hv;have hpos:0<z.cells.size:=by
    rcases zY1l z.cells.size with h|h
    ·rw [h] at hi;simp at hi
    ·exact h
   have hlt:i % z.cells.size<z.cells.size:=Nat.mod_lt _ hpos;rw [getElem!_pos z.cells _ hlt];exact h1 _ (by simp))
  simp [Builtin.clear_,run_underlying ht,hv,hs]
theorem zbp {t t' e ty sz:Nat} (ht:P.underlying t=some (.slice e)) (hsz:(P.info? e).map (·.size)=some sz) {g o dLen dCap sLen sCap tt:Nat} {a:Addr} {vs cs:List Value} (hg:W.heap[g]? = some (.cells vs.toArray tt (0,0))) (hl:cs.length=Nat.min sLen dLen * sz) (hsrc:∀ j v,cs[j]? = some v→W.cell? (a.add j)=some v) (hn:o+cs.length≤vs.length) (h1:∀ v ∈ cs,v.oneCell'=true) :
  (Builtin.copy_ #[t,t'] ty #[.slice (some ⟨g,o,none⟩) dLen dCap,.slice (some a) sLen sCap]).run P W = .ok (goInt (Nat.min sLen dLen)) (W.setCells g o cs):=by
 have hs:=zar (P:=P) hg hn h1;have hlc:=run_loadCells_list (P:=P) W a cs hsrc
 cases hq:P.info? e with
 | none=>simp [hq] at hsz
 | some i =>
  have hi:i.size=sz:=by simpa [hq] using hsz
  simp [Builtin.copy_,run_underlying ht,Builtin.lenOf,Builtin.firstCells,sizeOf,typeInfo,hq,hi,← hl,hlc,hs]
end
theorem z05l {pre mid post us:List Value} {o:Nat} (ho:o=pre.length) (h:us.length=mid.length):z1d (pre++mid++post) o us=pre++us++post:=by subst ho;exact zep us pre mid post h
theorem z65 {vs us:List Value} {o:Nat} (h:o+us.length≤vs.length):z1d vs o us=vs.take o++us++vs.drop (o+us.length):=by
 have e:vs=vs.take o++(vs.drop o).take us.length++vs.drop (o+us.length):=by
  rw [zY15,← zY3e,zY0q,zY0q]
 have h1:o=(vs.take o).length:=by rw [zY0d];omega
 have h2:us.length=((vs.drop o).take us.length).length:=by rw [zY0d,zY0r];omega
 conv=>lhs;rw [e]
 exact z05l h1 h2
theorem zd5 {sz:Nat}:∀ {xs:List (List Dt)},(∀ x ∈ xs,x.length=sz)→xs.flatten.length=xs.length * sz
 | [],_=>by simp
 | x::xs,h=>by rw [zY1d,zY01,h x (zY0l ..),zd5 fun y hy=>h y (zY0j _ hy),zY03,zY1q,Nat.add_comm]
theorem zbq {sz:Nat}:∀ {xs:List (List Dt)} (i:Nat),(∀ x ∈ xs,x.length=sz)→(xs.take i).flatten=xs.flatten.take (i * sz)
 | [],i,_=>by simp
 | x::xs,0,_=>by simp
 | x::xs,i+1,h=>by
  have hx:=h x (zY0l ..);rw [List.take_succ_cons,zY1d,zY1d,zbq i fun y hy=>h y (zY0j _ hy),List.take_append,hx,zY0u (show x.length≤(i+1) * sz by rw [hx,zY1q];omega),zY1q,zY2i]
theorem zgr {sz:Nat} {xs:List (List Dt)} (i:Nat) (h:∀ x ∈ xs,x.length=sz):(xs.drop i).flatten=xs.flatten.drop (i * sz):=by
 have e:xs.flatten=(xs.take i).flatten++(xs.drop i).flatten:=by rw [← zY2r,zY0q]
 by_cases hi:i≤xs.length
 ·have h1:(xs.take i).flatten.length=i * sz:=by rw [zd5 fun y hy=>h y (zY2b hy),zY0d,zY1z hi]
  rw [e,← h1,List.drop_left]
 ·rw [zY1y (by omega),zY1y]
  ·rfl
  ·rw [zd5 h];exact zY1f _ (by omega)
section
variable {P:Program}
theorem z03k {α:Type} [Enc α] {f e sz:Nat} (hn:Enc.n α=sz) (hpos:0<sz) (hen:En P f) (zc:Array Value) (hzc:zc.size=sz)
  (h0:∀ (W:World) (A:Option Addr) (n cap i:Nat),i≤n→n≤cap→cap≤maxLen→Calls P f #[.slice A n cap,.int .i64 i,.int .i64 i] W fun r W'=>r = .returned (.slice A n cap)∧W'=W)
  (hw:∀ (W:World) (g n cap i j:Nat) (vs:List Value),W.heap[g]? = some (.cells vs.toArray e (0,0))→n≤cap→cap≤maxLen→vs.length=cap * sz→(∀ u ∈ vs.take (n * sz),u.oneCell'=true)→i<j→j≤n →
   Calls P f #[.slice (some ⟨g,0,none⟩) n cap,.int .i64 i,.int .i64 j] W fun r W'=>r = .returned (.slice (some ⟨g,0,none⟩) (n - (j - i)) cap)∧W'=((W.drewN 1).setCells g (i * sz) ((vs.take (n * sz)).drop (j * sz))).setCells g ((i+(n - j)) * sz) (Builtin.zeroCells zc (j - i)).toList) :
  Meets P (spD (fun x:List α × Int × Int=>0≤x.2.1∧x.2.1≤x.2.2∧x.2.2≤x.1.length) fun x=>x.1.take x.2.1.toNat++x.1.drop x.2.2.toNat) f ⟨[.mine e sz,.one,.one],[(false,[.fresh e sz])],false⟩:=by
 refine ⟨fun h=>(by cases h),?_⟩;intro e' sz' ps hps;injection hps with h1 h2
 injection h1 with h1 h1'
 subst h1;subst h1';subst h2;intro W F base v xs cells ds args rs hF hbase hvF hxs hown hreps hargs hsp;obtain ⟨⟨l,i,j⟩,⟨hi0,hij,hjl⟩,he,rfl⟩:=z01 hsp;have he':Dt.l sz xs::ds=Dt.l (Enc.n α) (l.map Enc.e)::[I i,I j]:=he;injection he' with g1 g2
 injection g1 with g3 g1
 subst g2;subst g1;simp only at hi0 hij hjl;obtain ⟨va,vas,rfl,ha,hargs⟩:=z3a hargs;obtain ⟨vb,vbs,rfl,hb,hargs⟩:=z3a hargs;obtain rfl:=z4z hargs;obtain ⟨rfl,_⟩:=z23 ha;obtain ⟨rfl,_⟩:=z23 hb;obtain ⟨a,rfl⟩:∃ a:Nat,i=a:=⟨i.toNat,by omega⟩
 obtain ⟨b,rfl⟩:∃ b:Nat,j=b:=⟨j.toNat,by omega⟩
 have hlen:(l.map Enc.e).length=l.length:=zY10 _;rw [hlen] at hown;refine ⟨(l.take a++l.drop b).map Enc.e,?_,fun x hx=>hxs x ?_,?_⟩
 ·show [Dt.l (Enc.n α) _]=_
  rw [hn];rfl
 ·rw [zY27,List.map_take,List.map_drop] at hx
  rcases zY0z.1 hx with hx|hx
  ·exact zY2b hx
  ·exact zY1x hx
 by_cases hab:a=b
 ·subst hab
  have hsame:l.take a++l.drop a=l:=zY0q ..;simp only [zY38,hsame];have hv:∃ A cap,v = .slice A l.length cap∧l.length≤cap∧cap≤maxLen:=by
   rcases hown.2 with ⟨rfl,h0⟩|⟨g,cap,cur,rfl,_,_,h1,h2,_⟩
   ·exact ⟨none,0,by rw [h0],by omega,by unfold maxLen;omega⟩
   ·exact ⟨_,cap,rfl,h1,h2⟩
  obtain ⟨A,cap,rfl,h1,h2⟩:=hv;refine .inl ⟨hen.run _ _,(h0 W A l.length cap a (by omega) h1 h2).mono ?_⟩;rintro r W' ⟨rfl,rfl⟩;exact ⟨_,rfl,_,cells,⟨fun h=>(by cases h),fun _=>rfl⟩,World.grownBy.refl _ _,by rw [hlen];exact hown,hreps,fun _ h=>.inl h⟩
 ·rcases hown.2 with ⟨rfl,h0⟩|⟨g,cap,cur,rfl,hbg,hg,h1,h2,hcs,htk⟩
  ·omega
  ·have hkeep:=hown
   have hml:cells.length=l.length * sz:=hown.1;have hcs':cur.toList.length=cap * sz:=by simpa using hcs
   have hones:∀ u ∈ cur.toList.take (l.length * sz),u.oneCell'=true:=by rw [htk];exact hreps.one
   refine .inl ⟨hen.run _ _,(hw W g l.length cap a b cur.toList (by simpa using hg) h1 h2 hcs' hones (by omega) (by omega)).mono ?_⟩;rintro r W' ⟨rfl,rfl⟩;have hgF:¬ F g:=hvF g rfl;generalize hW1:(W.drewN 1).setCells g (a * sz) ((cur.toList.take (l.length * sz)).drop (b * sz))=W1;have hg0:(W.drewN 1).heap[g]? = some (.cells cur.toList.toArray e (0,0)):=by simpa using hg
   have hnl:((cur.toList.take (l.length * sz)).drop (b * sz)).length=(l.length - b) * sz:=by
    rw [htk,zY0r,hml,Nat.sub_mul]
   have hzl:(Builtin.zeroCells zc (b - a)).toList.length=(b - a) * sz:=by simp [Builtin.zeroCells,hzc]
   have hg1:=z1h ((cur.toList.take (l.length * sz)).drop (b * sz)) (a * sz) (W.drewN 1) cur.toList hg0;rw [hW1] at hg1;have hg2:=z1h (Builtin.zeroCells zc (b - a)).toList ((a+(l.length - b)) * sz) W1 _ hg1;have hmul1:a * sz+(l.length - b) * sz=(a+(l.length - b)) * sz:=(Nat.add_mul ..).symm;have hle1:(a+(l.length - b)) * sz≤cap * sz:=zY1f _ (by omega);have hle2:(a+(l.length - b)) * sz+(b - a) * sz≤cap * sz:=by rw [← Nat.add_mul];exact zY1f _ (by omega)
   have hle3:a * sz≤l.length * sz:=zY1f _ (by omega);have hle4:l.length * sz≤cap * sz:=zY1f _ h1;have hfar:∀ k,k≠g→(W1.setCells g ((a+(l.length - b)) * sz) (Builtin.zeroCells zc (b - a)).toList).heap[k]? = W.heap[k]?:=by
    intro k hk;rw [z1k g _ _ _ k hk,← hW1,z1k g _ _ _ k hk];rfl
   refine ⟨_,rfl,_,cells.take (a * sz)++cells.drop (b * sz),⟨fun h=>(by cases h),fun _=>rfl⟩,?_,?_,?_,fun _ h=>.inl h⟩
   ·obtain ⟨k1,k2,k3,k4⟩:=z2j g (Builtin.zeroCells zc (b - a)).toList ((a+(l.length - b)) * sz) W1
    obtain ⟨q1,q2,q3,q4⟩:=z2j g ((cur.toList.take (l.length * sz)).drop (b * sz)) (a * sz) (W.drewN 1);rw [hW1] at q1 q2 q3 q4;refine ⟨k1.trans q1,k2.trans q2,k3.trans q3,?_,fun k hk hne=>hfar k fun h=>hne (by rw [h];rfl)⟩;rw [k4,q4];exact zY0t _
   ·have hl2:((l.take a++l.drop b).map (Enc.e (α:=α))).length=a+(l.length - b):=by
     rw [zY10,zY01,zY0d,zY0r];omega
    rw [hl2];refine ⟨?_,.inr ⟨g,cap,_,by rw [show l.length - (b - a)=a+(l.length - b) by omega],hbg,hg2,by omega,h2,?_,?_⟩⟩
    ·rw [zY01,zY0d,zY0r,hml,zY1z hle3,← Nat.sub_mul,hmul1]
    ·rw [zY2m,z1e,z1e];exact hcs'
    ·rw [zY2q,z65 (by rw [z1e,hzl];omega),zY15,zY1k (by rw [zY0d,z1e];omega),zY2y,Nat.min_self,z65 (by rw [hnl];omega),zY1k (by rw [zY01,zY0d,hnl];omega),zY0u (by rw [zY01,zY0d,hnl];omega),htk]
     congr 1;rw [← htk,zY2y,zY1z hle3]
   ·rw [zY27,List.map_take,List.map_drop,zY2r,zbq a hxs,zgr b hxs]
    have hag:Agree F W (W1.setCells g ((a+(l.length - b)) * sz) (Builtin.zeroCells zc (b - a)).toList):=fun k hk=>hfar k fun h=>hgF (h ▸ hk)
    exact ((hreps.take (a * sz)).append (hreps.drop (b * sz))).mono hag (fun _ h=>h)
theorem zry {tS tR e sz:Nat} {W:World} (ht:P.underlying tS=some (.slice e)) (hz:∀ w,(sizeOf e).run P w = .ok sz w) {g o b off la ca lb cb t:Nat} {vs:List Value} (hg:W.heap[g]? = some (.cells vs.toArray t (0,0))) (hvs:0<vs.length) (hne:b≠g) {u:Value} (hb:W.cell? ⟨b,off,none⟩=some u) :
  (Extern.SlicesOverlaps.overlaps #[tS,tS] #[tR] #[.slice (some ⟨b,off,none⟩) la ca,.slice (some ⟨g,o,none⟩) lb cb]).run P W = .ok (.bool false) W:=by
 have hnb:(b != g)=true:=by simpa using hne
 have hnb':(b == g)=false:=by simpa using hne
 obtain ⟨arr,tb,fr,hbh,hsz⟩:∃ arr tb fr,W.heap[b]? = some (.cells arr tb fr)∧0<arr.size:=by
  unfold World.cell? at hb
  split at hb
  ·rename_i arr tb fr h
   simp at hb;obtain ⟨hlt,_⟩:=zY1a.1 hb;exact ⟨arr,tb,fr,h,by omega⟩
  ·cases hb
 have hsa:W.shape? b=some (tb,arr.size):=by simp [World.shape?,hbh]
 have hsb:W.shape? g=some (t,vs.length):=by simp [World.shape?,hg]
 have hfg:∀ k,W.frozen? ⟨g,k,none⟩=false:=fun k=>by simp [World.frozen?,hg]
 obtain ⟨n1,hn1⟩:∃ n,arr.size=n+1:=⟨arr.size - 1,by omega⟩
 obtain ⟨n2,hn2⟩:∃ n,vs.length=n+1:=⟨vs.length - 1,by omega⟩
 rw [hn1] at hsa;rw [hn2] at hsb;change Sem.run P (α:=Value) (do
  let some t:=(#[tS,tS]:Array TypeId)[0]? | stuck "slices.overlaps: no parameter types"
  let .slice elem ← underlying t|stuck "slices.overlaps: slice type expected"
  let size ← sizeOf elem
  match (some ⟨b,off,none⟩:Option Addr),(some ⟨g,o,none⟩:Option Addr) with
  | some a,some b =>
   if la=0∨lb=0∨size=0 then pure (Value.bool false)
   else if a.block != b.block && (← frozen a) && (← frozen b) then unsupported .addressObserved
   else do
    if a.block != b.block then do
     noView a;noView b
     if ← mayBeOne a b then return Value.bool ((← choose (.extern "sameAddr.stringBytes" 2)) == 1)
    pure (Value.bool (a.block == b.block && a.off<b.off+lb * size && b.off<a.off+la * size))
  | _,_=>pure (Value.bool false)) W=_
 by_cases h0:la=0∨lb=0∨sz=0
 ·simp [run_underlying ht,hz,h0]
 ·cases hf1:W.frozen? ⟨b,off,none⟩ <;> cases hf2:W.frozen? ⟨b,n1+1,none⟩ <;>
   simp [run_underlying ht,hz,h0,hnb,hnb',frozen,noView,viewAt,mayBeOne,stringish,shape,Sem.run,hsa,hsb,hfg,hf1,hf2]
theorem zef {W:World} {b k:Nat} {v:Value} (o:Obj) (h:W.cell? ⟨b,k,none⟩=some v):(W.alloc o).cell? ⟨b,k,none⟩=some v:=by
 have hlt:b<W.heap.size:=by
  rcases zY1w b W.heap.size with h'|h'
  ·exact h'
  ·simp [World.cell?,zY14 h'] at h
 rw [← h];simp only [World.cell?,World.alloc,zY3f,Nat.ne_of_lt hlt,if_false]
theorem z03l {W:World} {g o b k:Nat} {us:List Value} (h:b≠g):(W.setCells g o us).cell? ⟨b,k,none⟩=W.cell? ⟨b,k,none⟩:=by
 simp only [World.cell?,z1k g us o W b h]
theorem z03m {W:World} {o:Oper} {a:Act} {K:Act→World→Prop} {Q:Exit→Act→World→Prop} (d s:Operand) (t t':TypeId)
  (ho:o.op = .call { callee:=.builtin .copy,args:=#[d,s],argTypes:=#[t,t'] }) (v u:Value) (hd:a.eval d=v) (hs:a.eval s=u) {v':Value} {w':World}
  (hr:(Builtin.copy_ #[t,t'] o.type #[v,u]).run P W = .ok v' w') (h:K (a.put o.dst v') w'):o.wp P a W K Q:=by
 unfold Oper.wp execOp;simp only [ho,resolve,invoke,builtin,Sem.run_bind,Sem.run_pure,Result.andThen_ok,zY32,zY1t,zY2z,hd,hs,hr];exact h
theorem zk8 {W:World} {ops:Array Oper} {rest:List Oper} {o:Oper} {a:Act} {Q:Exit→Act→World→Prop} (hgd:o.guard=none) (d s:Operand) (t t':TypeId)
  (ho:o.op = .call { callee:=.builtin .copy,args:=#[d,s],argTypes:=#[t,t'] }) (v u:Value) (hd:a.eval d=v) (hs:a.eval s=u) {v':Value} {w':World}
  (hr:(Builtin.copy_ #[t,t'] o.type #[v,u]).run P W = .ok v' w') (h:wpList P ops Q rest (a.put o.dst v') w'):wpList P ops Q (o::rest) a W :=
 wpList_plain hgd fun _ hK=>z03m d s t t' ho v u hd hs hr (hK _ _ h)
theorem zeg {ops:Array Oper} {o:Oper} {a:Act} {W:World} {K:Act→World→Prop} {Q:Exit→Act→World→Prop} {E:Prop}
  (hg:o.guard=none) (d x:Operand) (dT sT:TypeId) (hop:o.op=Op.call { callee:=Callee.builtin Builtin.copy,args:=#[d,x],argTypes:=#[dT,sT] })
  (v u:Value) (hd:a.eval d=v) (hx:a.eval x=u) {v':Value} {w':World} (hr:(Builtin.copy_ #[dT,sT] o.type #[v,u]).run P W = .ok v' w') (hK:K (a.put o.dst v') w') :
  if Region.wanted o (yielded ops a.tmps)=true then Oper.wp P o a W K Q else E:=by
 have hw:Region.wanted o (yielded ops a.tmps)=true:=by simp [Region.wanted,hg]
 rw [if_pos hw];unfold Oper.wp;simp [execOp,hop,resolve,invoke,builtin,hd,hx,hr,Result.andThen];exact hK
theorem z03n {α:Type} [Enc α] {f e sz:Nat} (hn:Enc.n α=sz) (hpos:0<sz) (hen:En P f)
  (hroom:∀ (W:World) (g n cap i b off c:Nat) (vs cs:List Value),W.heap[g]? = some (.cells vs.toArray e (0,0))→n<cap→cap≤maxLen→vs.length=cap * sz→(∀ u ∈ vs.take (n * sz),u.oneCell'=true)→i<n→b≠g→cs.length=sz→(∀ j v,cs[j]? = some v→W.cell? ⟨b,off+j,none⟩=some v)→(∀ v ∈ cs,v.oneCell'=true) →
   Calls P f #[.slice (some ⟨g,0,none⟩) n cap,.int .i64 i,.slice (some ⟨b,off,none⟩) 1 c] W fun r W'=>r = .returned (.slice (some ⟨g,0,none⟩) (n+1) cap)∧W'=((W.drewN 1).setCells g ((i+1) * sz) ((vs.take (n * sz)).drop (i * sz))).setCells g (i * sz) cs)
  (hend:∀ (W:World) (base:Nat) (v:Value) (n b off c:Nat) (olds cs:List Value),W.ownsRow base e sz v n olds→base≤W.heap.size→n≤1000000→cs.length=sz→(∀ j v,cs[j]? = some v→W.cell? ⟨b,off+j,none⟩=some v)→(∀ v ∈ cs,v.oneCell'=true) →
   Calls P f #[v,.int .i64 n,.slice (some ⟨b,off,none⟩) 1 c] W fun r W'=>∃ v',r = .returned v'∧W'.ownsRow base e sz v' (n+1) (olds++cs)∧W.grownBy W' v.ownBlock∧(v'.ownBlock=v.ownBlock∨v'.ownBlock=some W.heap.size))
  (hgrow:∀ (W:World) (g n cap i b off c:Nat) (vs cs:List Value),W.heap[g]? = some (.cells vs.toArray e (0,0))→n=cap→n≤1000000→vs.length=cap * sz→(∀ u ∈ vs.take (n * sz),u.oneCell'=true)→i<n→cs.length=sz→(∀ j v,cs[j]? = some v→W.cell? ⟨b,off+j,none⟩=some v)→(∀ v ∈ cs,v.oneCell'=true) →
   Calls P f #[.slice (some ⟨g,0,none⟩) n cap,.int .i64 i,.slice (some ⟨b,off,none⟩) 1 c] W fun r W'=>∃ G,∃ row:List Value,n+1≤G∧G≤maxLen∧row.length=G * sz∧r = .returned (.slice (some ⟨W.heap.size,0,none⟩) (n+1) G)∧(∀ u ∈ row.take (i * sz),u.oneCell'=true)∧row.take (i * sz)=vs.take (i * sz) ∧
    W'=(((W.alloc (.cells row.toArray e)).drew.setCells W.heap.size (i * sz) cs).drew).setCells W.heap.size ((i+1) * sz) ((vs.take (n * sz)).drop (i * sz))) :
  Meets P (spD (fun x:List α × Int × List α=>0≤x.2.1∧x.2.1≤x.1.length∧x.1.length≤1000000∧x.2.2.length=1) fun x=>x.1.take x.2.1.toNat++x.2.2++x.1.drop x.2.1.toNat) f ⟨[.mine e sz,.one,.one],[(false,[.fresh e sz])],false⟩:=by
 refine ⟨fun h=>(by cases h),?_⟩;intro e' sz' ps hps;injection hps with h1 h2
 injection h1 with h1 h1'
 subst h1;subst h1';subst h2;intro W F base v xs cells ds args rs hF hbase hvF hxs hown hreps hargs hsp;obtain ⟨⟨l,i,ys⟩,⟨hi0,hil,hlm,hy1⟩,he,rfl⟩:=z01 hsp;have he':Dt.l sz xs::ds=Dt.l (Enc.n α) (l.map Enc.e)::[I i,.l (Enc.n α) (ys.map Enc.e)]:=he;injection he' with g1 g2
 injection g1 with g3 g1
 subst g2;subst g1;simp only at hi0 hil hlm hy1;obtain ⟨y,rfl⟩:=List.length_eq_one_iff.1 hy1;obtain ⟨va,vas,rfl,ha,hargs⟩:=z3a hargs;obtain ⟨vb,vbs,rfl,hb,hargs⟩:=z3a hargs;obtain rfl:=z4z hargs;obtain ⟨rfl,_⟩:=z23 ha;obtain ⟨a,rfl⟩:∃ a:Nat,i=a:=⟨i.toNat,by omega⟩
 have hlen:(l.map Enc.e).length=l.length:=zY10 _;have hyl:(Enc.e y).length=sz:=by rw [Enc.len,hn]
 rw [hlen] at hown;have hml:cells.length=l.length * sz:=hown.1;obtain ⟨b,off,c,cs,rfl,hFb,hcl,hcell,hcr⟩:∃ b off c,∃ cs:List Value,vb = .slice (some ⟨b,off,none⟩) 1 c∧F b∧cs.length=sz∧(∀ j v,cs[j]? = some v→W.cell? ⟨b,off+j,none⟩=some v)∧Reps W F (Enc.e y) cs:=by
  generalize hd:Dt.l (Enc.n α) ([y].map Enc.e)=d at hb
  cases hb with
  | l sz0 zs A n c b o vs k0 k1 k2 k3 k4 k5 k6 =>
   injection hd with e1 e2
   subst e2;obtain ⟨rfl,hFb⟩:=k4 (by simp);refine ⟨b,o,c,(List.range sz).map (vs 0),by rw [k0];rfl,hFb,by simp,fun j v hv=>?_,Reps.of (by simp [hyl]) fun j d v hd hv=>?_⟩
   ·obtain ⟨hj,rfl⟩:=z1t hv
    have h:=k5 0 j (Enc.e y) _ rfl (zY08 (by omega))
    rwa [Nat.zero_mul,zY29] at h
   ·obtain ⟨hj,rfl⟩:=z1t hv
    exact k6 0 j (Enc.e y) d rfl hd
  | _=>cases hd
 have hc1:∀ v ∈ cs,v.oneCell'=true:=hcr.one;refine ⟨(l.take a++[y]++l.drop a).map Enc.e,?_,fun x hx=>?_,?_⟩
 ·show [Dt.l (Enc.n α) _]=_
  rw [hn];rfl
 ·obtain ⟨z,_,rfl⟩:=zY2h.1 hx
  rw [Enc.len,hn]
 have hl2:((l.take a++[y]++l.drop a).map (Enc.e (α:=α))).length=l.length+1:=by
  rw [zY10,zY01,zY01,zY0d,zY0r,zY1b];omega
 have hflat:((l.take a++[y]++l.drop a).map (Enc.e (α:=α))).flatten=(l.map Enc.e).flatten.take (a * sz)++Enc.e y++(l.map Enc.e).flatten.drop (a * sz):=by
  rw [zY27,zY27,List.map_take,List.map_drop,zY2r,zY2r,zbq a hxs,zgr a hxs];simp
 rw [hl2,hflat];have hle3:a * sz≤l.length * sz:=zY1f _ (by omega);have hnew:∀ {W':World},Agree F W W'→Reps W' F ((l.map Enc.e).flatten.take (a * sz)++Enc.e y++(l.map Enc.e).flatten.drop (a * sz)) (cells.take (a * sz)++cs++cells.drop (a * sz)):=fun hag=>(((hreps.take (a * sz)).append hcr).append (hreps.drop (a * sz))).mono hag (fun _ h=>h)
 have hnl:(cells.take (a * sz)++cs++cells.drop (a * sz)).length=(l.length+1) * sz:=by
  rw [zY01,zY01,zY0d,zY0r,hcl,hml,zY1z hle3,zY1q];omega
 by_cases hend':a=l.length
 ·subst hend'
  refine .inl ⟨hen.run _ _,(hend W base v l.length b off c cells cs hown hbase (by omega) hcl hcell hc1).mono ?_⟩;rintro r W' ⟨v',rfl,q1,q2,q3⟩;have hag:Agree F W W':=fun k hk=>q2.block k (hF.1 k hk) fun h=>hvF k h.symm hk
  refine ⟨_,rfl,v',_,⟨fun h=>(by cases h),fun _=>rfl⟩,q2,?_,hnew hag,fun k hk=>?_⟩
  ·rw [zY0u (by omega),zY1y (by omega),zY2e];exact q1
  ·rcases q3 with q3|q3
   ·exact .inl (q3 ▸ hk)
   ·rw [q3] at hk;injection hk with hk;exact .inr (Nat.le_of_eq hk)
 ·rcases hown.2 with ⟨rfl,h0⟩|⟨g,cap,cur,rfl,hbg,hg,h1,h2,hcs,htk⟩
  ·omega
  ·have hcs':cur.toList.length=cap * sz:=by simpa using hcs
   have hones:∀ u ∈ cur.toList.take (l.length * sz),u.oneCell'=true:=by rw [htk];exact hreps.one
   have hgF:¬ F g:=hvF g rfl;have hbg':b≠g:=fun h=>hgF (h ▸ hFb)
   have hg':W.heap[g]? = some (.cells cur.toList.toArray e (0,0)):=by simpa using hg
   have hal:a<l.length:=by omega
   have hmvl:((cur.toList.take (l.length * sz)).drop (a * sz)).length=(l.length - a) * sz:=by rw [htk,zY0r,hml,Nat.sub_mul]
   have e1:(a+1) * sz=a * sz+sz:=zY1q ..;have e2:(a+1) * sz+(l.length - a) * sz=(l.length+1) * sz:=by rw [← Nat.add_mul];congr 1;omega
   have hsplit:∀ vs':List Value,(l.length+1) * sz≤vs'.length→vs'.take (a * sz)=cells.take (a * sz)→(z1d (z1d vs' ((a+1) * sz) ((cur.toList.take (l.length * sz)).drop (a * sz))) (a * sz) cs).take ((l.length+1) * sz)=cells.take (a * sz)++cs++cells.drop (a * sz):=by
    intro vs' hl' ht';have k1:a * sz+cs.length≤(z1d vs' ((a+1) * sz) ((cur.toList.take (l.length * sz)).drop (a * sz))).length:=by rw [z1e];omega
    rw [z65 k1,z65 (by rw [hmvl];omega),hcl,hmvl,e2,htk];have k2:(vs'.take ((a+1) * sz)++cells.drop (a * sz)++vs'.drop ((l.length+1) * sz)).take (a * sz)=cells.take (a * sz):=by
     rw [zY15,zY1k (by rw [zY0d];omega),zY2y,zY1z (by omega),ht']
    have k3:(vs'.take ((a+1) * sz)++cells.drop (a * sz)++vs'.drop ((l.length+1) * sz)).drop (a * sz+sz)=cells.drop (a * sz)++vs'.drop ((l.length+1) * sz):=by
     rw [zY15,List.drop_append,zY1y (by rw [zY0d];omega),zY0d,zY1z (by omega),e1,Nat.sub_self,zY0y,zY34]
    rw [k2,k3,← zY15,zY1k (by rw [hnl];omega),zY0u (by rw [hnl];omega)]
   rcases zY1w l.length cap with hr|hr
   ·have hcapm:(l.length+1) * sz≤cap * sz:=zY1f _ hr
    refine .inl ⟨hen.run _ _,(hroom W g l.length cap a b off c cur.toList cs hg' hr h2 hcs' hones hal hbg' hcl hcell hc1).mono ?_⟩;rintro r W' ⟨rfl,rfl⟩;have hfar:∀ k,k≠g→(((W.drewN 1).setCells g ((a+1) * sz) ((cur.toList.take (l.length * sz)).drop (a * sz))).setCells g (a * sz) cs).heap[k]? = W.heap[k]?:=by
     intro k hk;rw [z1k g _ _ _ k hk,z1k g _ _ _ k hk];rfl
    have hag:Agree F W (((W.drewN 1).setCells g ((a+1) * sz) ((cur.toList.take (l.length * sz)).drop (a * sz))).setCells g (a * sz) cs):=fun k hk=>hfar k fun h=>hgF (h ▸ hk)
    refine ⟨_,rfl,_,_,⟨fun h=>(by cases h),fun _=>rfl⟩,?_,⟨hnl,.inr ⟨g,cap,_,rfl,hbg,z1h cs (a * sz) _ _ (z1h _ ((a+1) * sz) (W.drewN 1) _ hg'),hr,h2,by rw [zY2m,z1e,z1e];exact hcs',?_⟩⟩,hnew hag,fun _ h=>.inl h⟩
    ·obtain ⟨k1,k2,k3,k4⟩:=z2j g cs (a * sz) ((W.drewN 1).setCells g ((a+1) * sz) ((cur.toList.take (l.length * sz)).drop (a * sz)))
     obtain ⟨q1,q2,q3,q4⟩:=z2j g ((cur.toList.take (l.length * sz)).drop (a * sz)) ((a+1) * sz) (W.drewN 1);exact ⟨k1.trans q1,k2.trans q2,k3.trans q3,by rw [k4,q4];exact zY0t _,fun k hk hne=>hfar k fun h=>hne (by rw [h];rfl)⟩
    ·rw [zY2q]
     refine hsplit _ (by omega) ?_;rw [← htk,zY2y,zY1z hle3]
   ·have hcap:l.length=cap:=by omega
    refine .inl ⟨hen.run _ _,(hgrow W g l.length cap a b off c cur.toList cs hg' hcap (by omega) hcs' hones hal hcl hcell hc1).mono ?_⟩;rintro r W' ⟨G,row,r1,r2,r3,rfl,r4,r5,rfl⟩;have hGm:(l.length+1) * sz≤G * sz:=zY1f _ r1;generalize hW0:(W.alloc (.cells row.toArray e)).drew=W0;have hs0:W0.heap.size=W.heap.size+1:=by rw [← hW0];show (W.heap.push _).size=_;simp
    have hn0:W0.heap[W.heap.size]? = some (.cells row.toArray e (0,0)):=by rw [← hW0];exact heap_alloc_new W _
    have ho0:∀ k,k<W.heap.size→W0.heap[k]? = W.heap[k]?:=fun k hk=>by
     rw [← hW0]
     show (W.alloc (.cells row.toArray e)).heap[k]? = _
     simp only [World.alloc,zY3f,Nat.ne_of_lt hk,if_false]
    have hfar:∀ k,k<W.heap.size→(((W0.setCells W.heap.size (a * sz) cs).drew).setCells W.heap.size ((a+1) * sz) ((cur.toList.take (l.length * sz)).drop (a * sz))).heap[k]? = W.heap[k]?:=by
     intro k hk;rw [z1k _ _ _ _ k (by omega)]
     show (W0.setCells W.heap.size (a * sz) cs).heap[k]? = _
     rw [z1k _ _ _ _ k (by omega),ho0 k hk]
    obtain ⟨z1,z2,z3⟩:W0.os=W.os∧W0.tape=W.tape∧W0.output=W.output:=by rw [← hW0];exact ⟨rfl,rfl,rfl⟩
    have hag:Agree F W (((W0.setCells W.heap.size (a * sz) cs).drew).setCells W.heap.size ((a+1) * sz) ((cur.toList.take (l.length * sz)).drop (a * sz))):=fun k hk=>hfar k (hF.1 k hk)
    have hheap:=z1h ((cur.toList.take (l.length * sz)).drop (a * sz)) ((a+1) * sz) ((W0.setCells W.heap.size (a * sz) cs).drew) _ (z1h cs (a * sz) W0 _ hn0);refine ⟨_,rfl,_,_,⟨fun h=>(by cases h),fun _=>rfl⟩,?_,⟨hnl,.inr ⟨W.heap.size,G,_,rfl,hbase,hheap,r1,r2,by rw [zY2m,z1e,z1e];exact r3,?_⟩⟩,hnew hag,fun k hk=>?_⟩
    ·obtain ⟨k1,k2,k3,k4⟩:=z2j W.heap.size ((cur.toList.take (l.length * sz)).drop (a * sz)) ((a+1) * sz) ((W0.setCells W.heap.size (a * sz) cs).drew)
     obtain ⟨q1,q2,q3,q4⟩:=z2j W.heap.size cs (a * sz) W0;refine ⟨k1.trans (q1.trans z1),k2.trans (q2.trans z2),k3.trans (q3.trans z3),?_,fun k hk hne=>hfar k hk⟩;rw [k4]
     show W.heap.size≤(W0.setCells W.heap.size (a * sz) cs).heap.size
     rw [q4,hs0];omega
    ·rw [zY2q]
     have hswap:z1d (z1d row (a * sz) cs) ((a+1) * sz) ((cur.toList.take (l.length * sz)).drop (a * sz))=z1d (z1d row ((a+1) * sz) ((cur.toList.take (l.length * sz)).drop (a * sz))) (a * sz) cs:=by
      have hL:a * sz+cs.length≤row.length:=by omega
      have hR:(a+1) * sz+((cur.toList.take (l.length * sz)).drop (a * sz)).length≤row.length:=by rw [hmvl];omega
      rw [z65 (vs:=z1d row (a * sz) cs) (by rw [z1e];exact hR),z65 hL,z65 (vs:=z1d row ((a+1) * sz) _) (by rw [z1e];exact hL),z65 hR];have t1:(row.take (a * sz)++cs++row.drop (a * sz+cs.length)).take ((a+1) * sz)=row.take (a * sz)++cs:=by
       rw [zY1k (by rw [zY01,zY0d];omega),zY0u (by rw [zY01,zY0d];omega)]
      have t2:(row.take (a * sz)++cs++row.drop (a * sz+cs.length)).drop ((a+1) * sz+((cur.toList.take (l.length * sz)).drop (a * sz)).length)=row.drop ((a+1) * sz+((cur.toList.take (l.length * sz)).drop (a * sz)).length):=by
       rw [List.drop_append,zY1y (by rw [zY01,zY0d];omega),zY0y,zY3e];congr 1;rw [zY01,zY0d];omega
      have t3:(row.take ((a+1) * sz)++((cur.toList.take (l.length * sz)).drop (a * sz))++row.drop ((a+1) * sz+((cur.toList.take (l.length * sz)).drop (a * sz)).length)).take (a * sz)=row.take (a * sz):=by
       rw [zY15,zY1k (by rw [zY0d];omega),zY2y,zY1z (by omega)]
      have t4:(row.take ((a+1) * sz)++((cur.toList.take (l.length * sz)).drop (a * sz))++row.drop ((a+1) * sz+((cur.toList.take (l.length * sz)).drop (a * sz)).length)).drop (a * sz+cs.length)=((cur.toList.take (l.length * sz)).drop (a * sz))++row.drop ((a+1) * sz+((cur.toList.take (l.length * sz)).drop (a * sz)).length):=by
       rw [zY15,List.drop_append,zY1y (by rw [zY0d];omega),zY0y,zY0d,zY1z (by omega),hcl,e1,Nat.sub_self,zY34]
      rw [t1,t2,t3,t4,zY15,zY15]
     rw [hswap];refine hsplit _ (by omega) ?_;rw [r5,← htk,zY2y,zY1z hle3]
    ·simp only [Value.ownBlock,zY00] at hk
     exact .inr (Nat.le_of_eq hk)
end
end
section
open Go.RowKit
set_option maxRecDepth 100000
set_option maxHeartbeats 4000000
theorem z05q {W:World} {g n cap i j:Nat} {vs:List Value} (hg:W.heap[g]? = some (.cells vs.toArray 57 (0,0))) (hn:n≤cap) (hm:cap≤maxLen) (hcs:vs.length=cap * 6) (h1:∀ u ∈ vs.take (n * 6),u.oneCell'=true) (hij:i<j) (hj:j≤n) :
  Calls Tryz.prog 40 #[.slice (some ⟨g,0,none⟩) n cap,.int .i64 i,.int .i64 j] W fun e w'=>e = .returned (.slice (some ⟨g,0,none⟩) (n - (j - i)) cap) ∧
   w'=((W.drewN 1).setCells g (i * 6) ((vs.take (n * 6)).drop (j * 6))).setCells g ((i+(n - j)) * 6) (Builtin.zeroCells #[.int .i64 0,.int .i64 0,.int .i64 0,.slice none 0 0,.int .i64 0,.bool false] (j - i)).toList:=by
 have hm':cap≤9223372036854775807:=hm;obtain ⟨news,hnews⟩:∃ news,news=(vs.take (n * 6)).drop (j * 6):=⟨_,rfl⟩
 have hlen:news.length=(n - j) * 6:=by rw [hnews,zY0r,zY0d];omega
 have hg1:W.drew.heap[g]? = some (.cells vs.toArray 57 (0,0)):=hg;obtain ⟨A,hA,hsrc⟩:∃ A:Addr,(if cap=j then some (⟨g,0,none⟩:Addr) else some ⟨g,j * 6,none⟩)=some A∧Hid (∀ t u,news[t]? = some u→W.drew.cell? (A.add t)=some u):=by
  by_cases h:cap=j
  ·refine ⟨⟨g,0,none⟩,by simp [h],fun t u hu=>?_⟩
   have:=(zY06.1 hu).1;omega
  ·refine ⟨⟨g,j * 6,none⟩,by simp [h],fun t u hu=>?_⟩
   have ht:=(zY06.1 hu).1;rw [hnews,zY1m,zY12,if_pos (by omega)] at hu;rw [z5g,cell_of_row _ g _ _ 57 (0,0) hg1];simpa using hu
 have s1:Hid (news.length=(n - j) * 6):=hlen;have s2:Hid (∀ u ∈ news,u.oneCell'=true):=by
  intro u hu;rw [hnews] at hu;exact h1 u (zY1x hu)
 have s3:Hid (∀ t,t<news.length→(W.drew.cell? ⟨g,0+i * 6+t,none⟩).isSome=true∧W.drew.frozen? ⟨g,0+i * 6+t,none⟩=false):=by
  intro t ht;have:=zc9 (fr:=(0,0)) hg1 (o:=0+i * 6) (n:=news.length) (by omega);exact this t ht
 obtain ⟨W1,hW1⟩:∃ W1,W1=W.drew.setCells g (0+i * 6) news:=⟨_,rfl⟩
 have hg2:W1.heap[g]? = some (.cells (z1d vs (0+i * 6) news).toArray 57 (0,0)):=by rw [hW1];exact z1h _ _ _ _ hg1
 have hcl:∀ ty,(Builtin.clear_ #[22] ty #[.slice (some ⟨g,(i+(n - j)) * 6,none⟩) (n - (i+(n - j))) (cap - (i+(n - j)))]).run Tryz.prog W1 = .ok (.tuple #[]) (W1.setCells g ((i+(n - j)) * 6) (Builtin.zeroCells #[.int .i64 0,.int .i64 0,.int .i64 0,.slice none 0 0,.int .i64 0,.bool false] (n - (i+(n - j)))).toList) :=
  fun ty=>z03j (sz:=6) Tryz.underlying22 Tryz.zeroValue57 rfl (by simp [Value.cells,Value.oneCell']) hg2 (by rw [z1e];omega)
 have hW:Hid (W1=W.drew.setCells g (0+i * 6) news):=hW1;have hic:i≤cap:=by omega
 have hjc:j≤cap:=by omega
 have hnews:=Lib.hid hnews;clear hW1 hg2 hg hg1 hlen;go_enter Tryz.func40,Tryz.ntmps40;go_wp2_with fail;obtain ⟨ht,ie,zv,he,hz0,hsz,hbz,hzs⟩:=zhx;go_region_law (refine step_append_room rfl (.tmp 22) (.tmp 25) 22 rfl 57 ie 6 ht he hsz g 0 i cap (by simp [Act.eval,Act.put]) A (n - j) (cap - j) news (by simp [Act.eval,Act.put,hA]) s1.out hsrc.out s2.out (by omega) s3.out ?_;rw [← hW.out]);go_wp2;go_ret;refine ⟨by rw [show n - (j - i)=i+(n - j) by omega];rfl,?_⟩;rw [hW.out,zY0v,hnews.out,show n - (i+(n - j))=j - i by omega];rfl
theorem z05r {W:World} {A:Option Addr} {n cap i:Nat} (hi:i≤n) (hn:n≤cap) (hm:cap≤maxLen):Calls Tryz.prog 40 #[.slice A n cap,.int .i64 i,.int .i64 i] W fun r W'=>r = .returned (.slice A n cap)∧W'=W:=by
 have hm':cap≤9223372036854775807:=hm;have hic:i≤cap:=by omega
 go_enter Tryz.func40,Tryz.ntmps40;go_wp2_with fail
 all_goals (go_ret;exact ⟨rfl,rfl⟩)
noncomputable def z2t:zh:=spD (fun x:List Coin × Int × Int=>0≤x.2.1∧x.2.1≤x.2.2∧x.2.2≤x.1.length) fun x=>x.1.take x.2.1.toNat++x.1.drop x.2.2.toNat
theorem zd6:Meets Tryz.prog z2t 40 ⟨[.mine 57 6,.one,.one],[(false,[.fresh 57 6])],false⟩ :=
 z03k rfl (by decide) (z4c (fn:=Tryz.f40) (by kernel_rfl) (by kernel_rfl) (by kernel_rfl)) #[.int .i64 0,.int .i64 0,.int .i64 0,.slice none 0 0,.int .i64 0,.bool false] rfl (fun W A n cap i h1 h2 h3=>z05r h1 h2 h3) (fun W g n cap i j vs h1 h2 h3 h4 h5 h6 h7=>z05q h1 h2 h3 h4 h5 h6 h7)
end
section
open Go.RowKit
set_option maxRecDepth 100000
set_option maxHeartbeats 4000000
theorem z05s {W:World} {g o b off la ca lb cb:Nat} {vs:List Value} (hg:W.heap[g]? = some (.cells vs.toArray 57 (0,0))) (hvs:0<vs.length) (hne:b≠g) {u:Value} (hb:W.cell? ⟨b,off,none⟩=some u) :
  (callFunc 47 #[.slice (some ⟨b,off,none⟩) la ca,.slice (some ⟨g,o,none⟩) lb cb]).run Tryz.prog W = .ok (.value (.bool false)) W:=by
 rw [run_callFunc_extern Tryz.func47 (by kernel_rfl) (by kernel_rfl) (by kernel_rfl) (e:=Extern.SlicesOverlaps.overlaps #[22,22] #[4]) (by kernel_rfl),
  zry (e:=57) (sz:=6) Tryz.underlying22 Tryz.sizeOf57 hg hvs hne hb]
 rfl
theorem z05t {W:World} {g n cap i b off c:Nat} {vs cs:List Value} (hg:W.heap[g]? = some (.cells vs.toArray 57 (0,0))) (hn:n<cap) (hm:cap≤maxLen) (hcs:vs.length=cap * 6) (h1:∀ u ∈ vs.take (n * 6),u.oneCell'=true) (hi:i<n) (hne:b≠g) (hcl:cs.length=6) (hb:∀ j v,cs[j]? = some v→W.cell? ⟨b,off+j,none⟩=some v) (h1c:∀ v ∈ cs,v.oneCell'=true) :
  Calls Tryz.prog 21 #[.slice (some ⟨g,0,none⟩) n cap,.int .i64 i,.slice (some ⟨b,off,none⟩) 1 c] W fun r W'=>r = .returned (.slice (some ⟨g,0,none⟩) (n+1) cap)∧W'=((W.drewN 1).setCells g ((i+1) * 6) ((vs.take (n * 6)).drop (i * 6))).setCells g (i * 6) cs:=by
 have hm':cap≤9223372036854775807:=hm;obtain ⟨mv,hmv⟩:∃ mv,mv=(vs.take (n * 6)).drop (i * 6):=⟨_,rfl⟩
 have hlen:mv.length=(n - i) * 6:=by rw [hmv,zY0r,zY0d];omega
 have hg1:W.drew.heap[g]? = some (.cells vs.toArray 57 (0,0)):=hg;obtain ⟨u0,hu0⟩:∃ u,W.cell? ⟨b,off,none⟩=some u:=by
  have h:=hb 0 (cs[0]'(by omega)) (zY08 (by omega));exact ⟨_,h⟩
 have hov:∀ lb cb,(callFunc 47 #[.slice (some ⟨b,off,none⟩) 1 c,.slice (some ⟨g,(i+1) * 6,none⟩) lb cb]).run Tryz.prog W = .ok (.value (.bool false)) W:=fun lb cb=>z05s hg (by omega) hne hu0
 have hsz:(Tryz.prog.info? 57).map (·.size)=some 6:=by kernel_rfl
 have hcp1:∀ ty dc sc,(Builtin.copy_ #[22,22] ty #[.slice (some ⟨g,(i+1) * 6,none⟩) (n - i) dc,.slice (some ⟨g,i * 6,none⟩) (n+1 - i) sc]).run Tryz.prog W.drew = .ok (goInt (Nat.min (n+1 - i) (n - i):Nat)) (W.drew.setCells g ((i+1) * 6) mv):=fun ty dc sc =>
  zbp Tryz.underlying22 hsz hg1 (by rw [hlen];show _=min _ _ * 6;rw [Nat.min_def];split <;> omega) (fun j v hj=>by
   rw [z5g,cell_of_row _ g _ _ 57 (0,0) hg1];have hlt:=(zY06.1 hj).1;rw [hmv,zY1m,zY12,if_pos (by omega)] at hj;simpa using hj) (by omega) (fun v hv=>h1 v (by rw [hmv] at hv;exact zY1x hv))
 obtain ⟨W1,hW1⟩:∃ W1,W1=W.drew.setCells g ((i+1) * 6) mv:=⟨_,rfl⟩
 have hg2:W1.heap[g]? = some (.cells (z1d vs ((i+1) * 6) mv).toArray 57 (0,0)):=by rw [hW1];exact z1h _ _ _ _ hg1
 have hcp2:∀ ty dc,(Builtin.copy_ #[22,22] ty #[.slice (some ⟨g,i * 6,none⟩) (n+1 - i) dc,.slice (some ⟨b,off,none⟩) 1 c]).run Tryz.prog W1 = .ok (goInt (Nat.min 1 (n+1 - i):Nat)) (W1.setCells g (i * 6) cs):=fun ty dc =>
  zbp Tryz.underlying22 hsz hg2 (by rw [hcl];show _=min _ _ * 6;rw [Nat.min_def];split <;> omega) (fun j v hj=>by
   rw [z5g,hW1,z03l hne];exact hb j v hj) (by rw [z1e];omega) h1c
 rw [← hW1] at hcp1;have hw1:IntKind.i64.wrap ((i:Int)+1)=(i:Int)+1:=by rw [IntKind.wrap_i64];omega
 have hw2:IntKind.i64.wrap ((n:Int)+1)=(n:Int)+1:=by rw [IntKind.wrap_i64];omega
 have hz2:¬ ((i:Int)=(n:Int)):=by omega
 have hp1:(i:Int)≤(n:Int)+1:=by omega
 have hp0:(0:Int)≤(i:Int)+1:=by omega
 have hb1:¬ (cap=i+1):=by omega
 have hb4:¬ (cap=i):=by omega
 have hin:i≤n:=by omega
 have hic:i≤cap:=by omega
 have hW:=Lib.hid hW1;have hmv':=Lib.hid hmv;clear hmv hlen hg hg1 hg2 hW1 hcs h1 hb h1c hcl hu0;go_enter Tryz.func21,Tryz.ntmps21;go_wp2_with (simp only [hov]);go_region_law (refine zeg rfl _ _ 22 22 rfl _ _ (by simp [Act.eval,Act.put]) (by simp [Act.eval,Act.put]) (hcp1 _ _ _) ?_);go_wp2_with (at_builtin;refine zk8 rfl _ _ 22 22 rfl _ _ rfl rfl (hcp2 _ _) ?_);go_ret;refine ⟨rfl,?_⟩;rw [hW.out,hmv'.out];rfl
theorem z07x {W:World} {base:Nat} {v:Value} {n b off c:Nat} {olds cs:List Value} (hown:W.ownsRow base 57 6 v n olds) (hbase:base≤W.heap.size) (hn:n≤1000000) (hcl:cs.length=6) (hb:∀ j v,cs[j]? = some v→W.cell? ⟨b,off+j,none⟩=some v) (h1c:∀ v ∈ cs,v.oneCell'=true) :
  Calls Tryz.prog 21 #[v,.int .i64 n,.slice (some ⟨b,off,none⟩) 1 c] W fun r W'=>∃ v',r = .returned v'∧W'.ownsRow base 57 6 v' (n+1) (olds++cs)∧W.grownBy W' v.ownBlock∧(v'.ownBlock=v.ownBlock∨v'.ownBlock=some W.heap.size):=by
 obtain ⟨ht,ie,zv,he,hz0,hsz,hbz,hzs⟩:=zhx;have hrun:∀ ty,∃ v' W',(Builtin.append_ #[22,22] ty #[v,.slice (some ⟨b,off,none⟩) 1 c]).run Tryz.prog W = .ok v' W'∧W'.ownsRow base 57 6 v' (n+1) (olds++cs)∧W.grownBy W' v.ownBlock∧(v'.ownBlock=v.ownBlock∨v'.ownBlock=some W.heap.size):=fun ty=>by
  obtain ⟨v',W',hr,h2,h3,_,h5⟩:=run_append_own_at (P:=Tryz.prog) W base 22 ty 57 ie zv 6 64 ht he hz0 hsz hbz hzs (by decide) v n olds hown ⟨b,off,none⟩ 1 c cs (by omega) (fun j u hj=>by rw [z5g];exact hb j u hj) h1c (by unfold maxLen;omega) (by omega) hbase;exact ⟨v',W',hr,h2,h3,h5⟩
 obtain ⟨v',W',hr,h2,h3,h4⟩:=hrun 22;have hv:∃ A cap,v = .slice A n cap∧n≤cap∧cap≤maxLen:=by
  rcases hown.2 with ⟨rfl,h0⟩|⟨g,cap,cur,rfl,_,_,h1,h2,_⟩
  ·exact ⟨none,0,by rw [h0],by omega,by unfold maxLen;omega⟩
  ·exact ⟨_,cap,rfl,h1,h2⟩
 obtain ⟨A,cap,rfl,hc1,hc2⟩:=hv;have hc3:cap≤9223372036854775807:=hc2;have R:=Lib.hid (And.intro h2 (And.intro h3 h4));clear h2 h3 h4 hown hrun hb h1c hcl hbase;go_enter Tryz.func21,Tryz.ntmps21;go_wp2_with (at_builtin;refine Lib.wpList_append_run _ rfl _ _ _ _ rfl _ _ rfl rfl _ _ hr ?_)
 all_goals (go_ret;have R':=R.out;first|exact ⟨v',rfl,R'⟩|(subst_vars;exact ⟨v',rfl,R'⟩))
theorem z05u {W:World} {g n cap i b off c:Nat} {vs cs:List Value} (hg:W.heap[g]? = some (.cells vs.toArray 57 (0,0))) (hn:n=cap) (hm:n≤1000000) (hcs:vs.length=cap * 6) (h1:∀ u ∈ vs.take (n * 6),u.oneCell'=true) (hi:i<n) (hcl:cs.length=6) (hb:∀ j v,cs[j]? = some v→W.cell? ⟨b,off+j,none⟩=some v) (h1c:∀ v ∈ cs,v.oneCell'=true) :
  Calls Tryz.prog 21 #[.slice (some ⟨g,0,none⟩) n cap,.int .i64 i,.slice (some ⟨b,off,none⟩) 1 c] W fun r W'=>∃ G,∃ row:List Value,n+1≤G∧G≤maxLen∧row.length=G * 6∧r = .returned (.slice (some ⟨W.heap.size,0,none⟩) (n+1) G)∧(∀ u ∈ row.take (i * 6),u.oneCell'=true)∧row.take (i * 6)=vs.take (i * 6) ∧
   W'=(((W.alloc (.cells row.toArray 57)).drew.setCells W.heap.size (i * 6) cs).drew).setCells W.heap.size ((i+1) * 6) ((vs.take (n * 6)).drop (i * 6)):=by
 obtain ⟨ht,ie,zv,he,hz0,hszI,hbz,hzs⟩:=zhx;have hz1:¬ ((1:Int)=0):=by decide
 have hz2:¬ ((i:Int)=(n:Int)):=by omega
 have hz3:(cap:Int)<(n:Int)+1:=by omega
 have hsz:(Tryz.prog.info? 57).map (·.size)=some 6:=by kernel_rfl
 have hgl:g<W.heap.size:=by
  rcases zY1w g W.heap.size with h|h
  ·exact h
  ·rw [zY14 h] at hg;cases hg
 have hbl:b<W.heap.size:=block_lt_of_cell (hb 0 _ (zY08 (by omega)));have hkk:(n:Int)+1 - (i:Int)=((n+1 - i:Nat):Int):=by omega
 have hik:i+(n+1 - i)=n+1:=by omega
 have hg1:W.drew.heap[g]? = some (.cells vs.toArray 57 (0,0)):=hg;have hold:(Builtin.firstCells ie.size i (.slice (some ⟨g,0,none⟩) i cap)).run Tryz.prog W.drew = .ok (vs.take (i * 6)).toArray W.drew:=by
  rw [hszI];exact run_firstCells_some W.drew 6 i ⟨g,0,none⟩ i cap (vs.take (i * 6)) (by rw [zY0d];omega) (fun j v hj=>by
   rw [z5g,cell_of_row _ g _ _ 57 (0,0) hg1];rw [zY12] at hj
   split at hj
   ·simpa using hj
   ·cases hj)
 have hrz:∀ ty,(Builtin.append_ #[22,3] ty #[.slice (some ⟨g,0,none⟩) i cap,.int .i64 ((n:Int)+1 - (i:Int))]).run Tryz.prog W =
   .ok (.slice (some ⟨W.heap.size,0,none⟩) (n+1) (grownCap W (n+1) cap 57)) (W.drew.alloc (.cells ((vs.take (i * 6)).toArray++Builtin.zeroCells zv.cells (n+1 - i)++Builtin.zeroCells zv.cells (grownCap W (n+1) cap 57 - (n+1))) 57)):=fun ty=>by
  have h:=Lib.run_append_grow_zeros W 22 3 ty 57 ie zv .i64 .i64 ht Tryz.underlying3 he hz0 (some ⟨g,0,none⟩) i cap (vs.take (i * 6)) hold (n+1 - i) (by omega) (by omega) (by omega) (by omega) (by rw [hbz];omega) (by rw [hbz,hik];exact growslice_fits (by omega) (by omega));rw [hik] at h;rw [hkk];exact h
 obtain ⟨G,hG⟩:∃ G,G=grownCap W (n+1) cap 57:=⟨_,rfl⟩
 obtain ⟨row,hrow⟩:∃ row:List Value,row=vs.take (i * 6)++(Builtin.zeroCells zv.cells (n+1 - i)).toList++(Builtin.zeroCells zv.cells (G - (n+1))).toList:=⟨_,rfl⟩
 have hrowA:row.toArray=(vs.take (i * 6)).toArray++Builtin.zeroCells zv.cells (n+1 - i)++Builtin.zeroCells zv.cells (G - (n+1)):=by rw [hrow];simp
 rw [← hG,← hrowA] at hrz;have hGn:n+1≤G:=by rw [hG];exact grownCap_ge W _ _ _
 have hGm:G≤maxLen:=by rw [hG];exact grownCap_le_maxLen W (n+1) cap 57 (by unfold maxLen;omega)
 have hG63:G≤9223372036854775807:=hGm;have hrl:row.length=G * 6:=by
  rw [hrow];simp only [zY01,zY0d,zY28,Builtin.zeroCells,Array.size_map,Array.size_range,hzs];omega
 have hrt:row.take (i * 6)=vs.take (i * 6):=by
  rw [hrow,zY15,zY1k (by rw [zY0d];omega),zY2y,Nat.min_self]
 obtain ⟨mv,hmv⟩:∃ mv,mv=(vs.take (n * 6)).drop (i * 6):=⟨_,rfl⟩
 have hlen:mv.length=(n - i) * 6:=by rw [hmv,zY0r,zY0d];omega
 have hcpA:∀ (W':World),W'.heap[W.heap.size]? = some (.cells row.toArray 57 (0,0))→(∀ k v,W.cell? ⟨b,k,none⟩=some v→W'.cell? ⟨b,k,none⟩=some v)→∀ ty dc,(Builtin.copy_ #[22,22] ty #[.slice (some ⟨W.heap.size,i * 6,none⟩) (n+1 - i) dc,.slice (some ⟨b,off,none⟩) 1 c]).run Tryz.prog W' = .ok (goInt (Nat.min 1 (n+1 - i):Nat)) (W'.setCells W.heap.size (i * 6) cs):=fun W' h1' h2' ty dc =>
  zbp ht hsz h1' (by rw [hcl];show _=min _ _ * 6;rw [Nat.min_def];split <;> omega) (fun j v hj=>by rw [z5g];exact h2' _ v (hb j v hj)) (by omega) h1c
 have hcpB:∀ (W':World) (vs':List Value),vs'.length=G * 6→W'.heap[W.heap.size]? = some (.cells vs'.toArray 57 (0,0))→W'.heap[g]? = some (.cells vs.toArray 57 (0,0))→∀ ty dc sc,(Builtin.copy_ #[22,22] ty #[.slice (some ⟨W.heap.size,(i+1) * 6,none⟩) (n - i) dc,.slice (some ⟨g,i * 6,none⟩) (n - i) sc]).run Tryz.prog W' = .ok (goInt (Nat.min (n - i) (n - i):Nat)) (W'.setCells W.heap.size ((i+1) * 6) mv):=fun W' vs' hl' h1' h2' ty dc sc =>
  zbp ht hsz h1' (by rw [hlen];show _=min _ _ * 6;rw [Nat.min_def];split <;> omega) (fun j v hj=>by
   rw [z5g,cell_of_row _ g _ _ 57 (0,0) h2'];have hlt:=(zY06.1 hj).1;rw [hmv,zY1m,zY12,if_pos (by omega)] at hj;simpa using hj) (by omega) (fun v hv=>h1 v (by rw [hmv] at hv;exact zY1x hv))
 have hA:=hcpA ((W.alloc (.cells row.toArray 57)).drew) (heap_alloc_new W _) (fun k v h=>zef _ h);have hA':=hcpA (W.drew.alloc (.cells row.toArray 57)) (heap_alloc_new W.drew _) (fun k v h=>zef (W:=W.drew) _ h);have hgold:(W.alloc (.cells row.toArray 57)).heap[g]? = some (.cells vs.toArray 57 (0,0)):=by
  have:(W.alloc (.cells row.toArray 57)).heap[g]? = W.heap[g]?:=by simp only [World.alloc,zY3f,Nat.ne_of_lt hgl,if_false]
  rw [this];exact hg
 have hB:=hcpB (((W.alloc (.cells row.toArray 57)).drew.setCells W.heap.size (i * 6) cs).drew) (z1d row (i * 6) cs) (by rw [z1e,hrl]) (z1h _ _ (W.alloc (.cells row.toArray 57)).drew _ (heap_alloc_new W _)) (by
  show ((W.alloc (.cells row.toArray 57)).drew.setCells W.heap.size (i * 6) cs).heap[g]? = _
  rw [z1k _ _ _ _ _ (by omega)];exact hgold)
 have hw1:IntKind.i64.wrap ((i:Int)+1)=(i:Int)+1:=by rw [IntKind.wrap_i64];omega
 have hw2:IntKind.i64.wrap ((n:Int)+1)=(n:Int)+1:=by rw [IntKind.wrap_i64];omega
 have hp1:(i:Int)≤(n:Int)+1:=by omega
 have hp0:(0:Int)≤(i:Int)+1:=by omega
 have hGi:¬ (G=i):=by omega
 have hGi1:¬ (G=i+1):=by omega
 have hci:¬ (cap=i):=by omega
 have hin:i≤n:=by omega
 have R:Hid (n+1≤G∧G≤maxLen∧row.length=G * 6∧(∀ u ∈ row.take (i * 6),u.oneCell'=true)∧row.take (i * 6)=vs.take (i * 6)∧mv=(vs.take (n * 6)).drop (i * 6)):=Lib.hid ⟨hGn,hGm,hrl,fun u hu=>h1 u (by rw [hrt] at hu;exact (List.take_sublist_take_left (by omega)).subset hu),hrt,hmv⟩;have hic:i≤cap:=by omega
 have hn':=Lib.hid hn;clear hn hmv hlen hg hg1 hgold hcs h1 hb h1c hcl hcpA hcpB hrt hrl hrow hrowA hG hGm hold hkk hik;go_enter Tryz.func21,Tryz.ntmps21;go_wp2_with ((at_builtin;refine Lib.wpList_append_run _ rfl _ _ _ _ rfl _ _ rfl rfl _ _ (hrz _) ?_));go_region_law (refine zeg rfl _ _ 22 22 rfl _ _ (by simp [Act.eval,Act.put]) (by simp [Act.eval,Act.put]) (hB _ _ _) ?_);go_wp2;go_ret;obtain ⟨r1,r2,r3,r4,r5,r6⟩:=R.out;exact ⟨G,row,r1,r2,r3,rfl,r4,r5,by rw [r6]⟩
noncomputable def z5b:zh:=spD (fun x:List Coin × Int × List Coin=>0≤x.2.1∧x.2.1≤x.1.length∧x.1.length≤1000000∧x.2.2.length=1) fun x=>x.1.take x.2.1.toNat++x.2.2++x.1.drop x.2.1.toNat
theorem zj3:Meets Tryz.prog z5b 21 ⟨[.mine 57 6,.one,.one],[(false,[.fresh 57 6])],false⟩ :=
 z03n rfl (by decide) (z4c (fn:=Tryz.f21) (by kernel_rfl) (by kernel_rfl) (by kernel_rfl)) (fun W g n cap i b off c vs cs h1 h2 h3 h4 h5 h6 h7 h8 h9 h10=>z05t h1 h2 h3 h4 h5 h6 h7 h8 h9 h10) (fun W base v n b off c olds cs h1 h2 h3 h4 h5 h6=>z07x h1 h2 h3 h4 h5 h6) (fun W g n cap i b off c vs cs h1 h2 h3 h4 h5 h6 h7 h8 h9=>z05u h1 h2 h3 h4 h5 h6 h7 h8 h9)
end
section
open Go.RowKit
set_option maxRecDepth 100000
set_option maxHeartbeats 4000000
theorem z8d (l:List Coin) (i j:Int) (h:0≤i∧i≤j∧j≤l.length):z2t [.l 6 (l.map zb),I i,I j]=some [.l 6 ((l.take i.toNat++l.drop j.toNat).map zb)]:=z09 (p:=fun x:List Coin × Int × Int=>0≤x.2.1∧x.2.1≤x.2.2∧x.2.2≤x.1.length) (f:=fun x:List Coin × Int × Int=>x.1.take x.2.1.toNat++x.1.drop x.2.2.toNat) (l,i,j) h
theorem z8e (l:List Coin) (i:Int) (c:Coin) (h:0≤i∧i≤l.length∧l.length≤1000000):z5b [.l 6 (l.map zb),I i,.l 6 ([c].map zb)]=some [.l 6 ((l.take i.toNat++[c]++l.drop i.toNat).map zb)]:=z09 (p:=fun x:List Coin × Int × List Coin=>0≤x.2.1∧x.2.1≤x.1.length∧x.1.length≤1000000∧x.2.2.length=1) (f:=fun x:List Coin × Int × List Coin=>x.1.take x.2.1.toNat++x.2.2++x.1.drop x.2.1.toNat) (l,i,[c]) ⟨h.1,h.2.1,h.2.2,rfl⟩
noncomputable def z3z:zh:=spD (fun _:List Coin × Tx × Int × Int=>True) fun x=>z1i x.1 x.2.1 x.2.2.1 x.2.2.2
theorem z5r (l:List Coin) (t:Tx) (nm h:Int):z3z [.l 6 (l.map zb),I t.height,.l 3 (t.ins.map eIn),.l 2 (t.outs.map z1p),I nm,I h]=some [.l 6 ((z1i l t nm h).1.map zb),.l 6 ((z1i l t nm h).2.1.map zb),I (z1i l t nm h).2.2]:=z09 (f:=fun x:List Coin × Tx × Int × Int=>z1i x.1 x.2.1 x.2.2.1 x.2.2.2) (l,t,nm,h) trivial
theorem zgs {a b:Dt} {n:Int} {pk:List PK} {l:Bool} {g:Bool}:z4h ⟨pk,[(false,[.pure]),(g,[.pure]),(false,[.scal])],l⟩ [a,b,I n]:=by
 intro i d hi hd
 match i,hi,hd with
 | 0,hi,_=>simp [zw] at hi
 | 1,hi,_=>simp [zw] at hi
 | 2,_,hd=>simp only [zY22,zY09,zY00] at hd;subst hd;rfl
 | i+3,hi,_=>simp [zw] at hi
theorem zj4 {a:Dt} {n:Int} {pk:List PK} {l:Bool} {g:Bool}:z4h ⟨pk,[(g,[.pure]),(false,[.scal])],l⟩ [a,I n]:=by
 intro i d hi hd
 match i,hi,hd with
 | 0,hi,_=>simp [zw] at hi
 | 1,_,hd=>simp only [zY22,zY09,zY00] at hd;subst hd;rfl
 | i+2,hi,_=>simp [zw] at hi
attribute [local irreducible] z0p spD z14 ze zr z21 z2s z2m zd
theorem zc5 (t:Tx):z52 [I t.height,.l 3 (t.ins.map eIn),.l 2 (t.outs.map z1p)]=some [I (zr t)]:=z09 (f:=fun t:Tx=>zr t) t trivial
def zxa:T :=
 .lets [.bin .add 28 (zI 1)] [] (.lets [.call 14 [22,28,44] 0] [] (.lets [.bin .add 23 (zI 1)] [] (.again 0 [19,20,43,45,.v
 46])))
def zxb:T :=
 .ite 41 (.ret [.c (.nil 6),.c (.nil 6),zI 8]) (.lets [.mk 6 [[31,32,33,34,35,36]]] [] (.lets [.app 6 21 42] [] zxa))
def zxc:T :=
 .ite 38 (.ret [.c (.nil 6),.c (.nil 6),zI 10]) (.lets [.call 16 [34,27,5] 0,.call 16 [34,27,5] 1] [] (.lets [.not 39] [] zxb))
def zxd:T :=
 .lets [.bin .add 28 (zI 1)] [] (.lets [.call 14 [22,28,42] 0] [] (.lets [.bin .add 23 (zI 1)] [] (.again 0 [19,20,41,43,.v
 44])))
def zxe:T :=
 .ite 39 (.ret [.c (.nil 6),.c (.nil 6),zI 8]) (.lets [.mk 6 [[31,32,33,34,35,36]]] [] (.lets [.app 6 21 40] [] zxd))
def zxf:T :=
 .ite 36 (.lets [.bin .add 35 (zI 2)] [] (.lets [.bin .lss 5 37] [] zxc)) (.lets [.call 16 [34,27,5] 0,.call 16 [34,27,5]
 1] [] (.lets [.not 37] [] zxe))
def zxg:T :=
 .lets [.idx 22 28 0,.idx 22 28 1,.idx 22 28 2,.idx 22 28 3,.idx 22 28 4,.idx 22 28 5] [] zxf
def zxh:T :=
 .lets [.call 6 [22,25,26] 0,.call 6 [22,25,26] 1] [] (.lets [.not 29] [] (.ite 30 (.ret [.c (.nil 6),.c (.nil 6),zI 7]) (.lets [] [.inr
 6 22 28] zxg)))
def zxi:T :=
 .lets [.mk 6 [[4,29,31,35,5,15]]] [] (.lets [.call 15 [28,33,36] 0] [] (.lets [.bin .add 29 (zI 1)] [] (.again 1 [26,27,.v
 37,38])))
def zxj:T :=
 .lets [.call 6 [28,4,29] 0,.call 6 [28,4,29] 1] [] (.ite 34 (.ret [.c (.nil 6),.c (.nil 6),zI 6]) (.lets [.call 10 [32] 0] []
 zxi))
def zs0:T :=
 .lets [.call 8 [28] 0] [] (.lets [.bin .neq 31 (zI 0)] [] (.ite 32 (.ret [.c (.nil 6),.c (.nil 6),31]) (.ret [28,21,zI 0])))
def zs1:T :=
 .lets [.bin .lss 29 25] [] (.ite 30 (.lets [] [.inr 2 3 29] (.lets [.idx 3 29 0,.idx 3 29 1] [] zxj)) zs0)
def zs2:T :=
 .ite 24 (.lets [] [.inr 3 2 23] (.lets [.idx 2 23 0,.idx 2 23 1,.idx 2 23 2] [] zxh)) (.lets [.len 3] [] (.loop [.c (.nil
 6),zI 0,22,zI 0] zs1))
def zs3:T :=
 .lets [.call 11 [0] 0] [] (.lets [.len 2] [] (.loop [.c (.nil 6),zI 0,.c (.nil 6),17,zI 0] (.lets [.bin .lss 23 18] [] zs2)))
def zs4:T :=
 .lets [.bin .add 27 (zI 1)] [] (.lets [.call 14 [21,27,43] 0] [] (.lets [.bin .add 22 (zI 1)] [] (.again 0 [18,19,42,44,.v
 45])))
def zs5:T :=
 .ite 40 (.ret [.c (.nil 6),.c (.nil 6),zI 8]) (.lets [.mk 6 [[30,31,32,33,34,35]]] [] (.lets [.app 6 20 41] [] zs4))
def zs6:T :=
 .ite 37 (.ret [.c (.nil 6),.c (.nil 6),zI 10]) (.lets [.call 16 [33,26,5] 0,.call 16 [33,26,5] 1] [] (.lets [.not 38] [] zs5))
def zs7:T :=
 .lets [.bin .add 27 (zI 1)] [] (.lets [.call 14 [21,27,41] 0] [] (.lets [.bin .add 22 (zI 1)] [] (.again 0 [18,19,40,42,.v
 43])))
def zs8:T :=
 .ite 38 (.ret [.c (.nil 6),.c (.nil 6),zI 8]) (.lets [.mk 6 [[30,31,32,33,34,35]]] [] (.lets [.app 6 20 39] [] zs7))
def zs9:T :=
 .ite 35 (.lets [.bin .add 34 (zI 2)] [] (.lets [.bin .lss 5 36] [] zs6)) (.lets [.call 16 [33,26,5] 0,.call 16 [33,26,.v
 5] 1] [] (.lets [.not 36] [] zs8))
def zsa:T :=
 .lets [.idx 21 27 0,.idx 21 27 1,.idx 21 27 2,.idx 21 27 3,.idx 21 27 4,.idx 21 27 5] [] zs9
def zsb:T :=
 .lets [.call 6 [21,24,25] 0,.call 6 [21,24,25] 1] [] (.lets [.not 28] [] (.ite 29 (.ret [.c (.nil 6),.c (.nil 6),zI 7]) (.lets [] [.inr
 6 21 27] zsa)))
def zsc:T :=
 .lets [.mk 6 [[4,30,32,36,5,15]]] [] (.lets [.call 15 [29,34,37] 0] [] (.lets [.bin .add 30 (zI 1)] [] (.again 1 [27,28,.v
 38,39])))
def zsd:T :=
 .lets [.call 6 [29,4,30] 0,.call 6 [29,4,30] 1] [] (.ite 35 (.ret [.c (.nil 6),.c (.nil 6),zI 6]) (.lets [.call 10 [33] 0] []
 zsc))
def zse:T :=
 .lets [.call 8 [29] 0] [] (.lets [.bin .neq 32 (zI 0)] [] (.ite 33 (.ret [.c (.nil 6),.c (.nil 6),32]) (.ret [29,20,zI 0])))
def zsf:T :=
 .lets [.bin .lss 30 26] [] (.ite 31 (.lets [] [.inr 2 3 30] (.lets [.idx 3 30 0,.idx 3 30 1] [] zsd)) zse)
def zsg:T :=
 .ite 25 (.ret [.c (.nil 6),.c (.nil 6),zI 9]) (.lets [.len 3] [] (.loop [.c (.nil 6),zI 0,21,zI 0] zsf))
def zsh:T :=
 .ite 23 (.lets [] [.inr 3 2 22] (.lets [.idx 2 22 0,.idx 2 22 1,.idx 2 22 2] [] zsb)) (.lets [.call 13 [1,2,3,.v
 20] 0] [] (.lets [.bin .lss 24 (zI 0)] [] zsg))
def zsi:T :=
 .lets [.call 11 [0] 0] [] (.lets [.len 2] [] (.loop [.c (.nil 6),zI 0,.c (.nil 6),16,zI 0] (.lets [.bin .lss 22 17] [] zsh)))
def zsj:T :=
 .lets [.bin .eql 14 (zI 0)] [] (.ite 15 (.lets [.bin .neq 1 5] [] (.ite 16 (.ret [.c (.nil 6),.c (.nil 6),zI 4]) zs3))
 zsi)
def zsk:T :=
 .ite 12 (.ret [.c (.nil 6),.c (.nil 6),zI 3]) (.lets [.bin .gtr 5 (zI 1000)] [] (.ite 13 (.ret [.c (.nil 6),.c (.nil 6),zI 3])
 (.lets [.len 2] [] zsj)))
def zsl:T :=
 .lets [.bin .gtr 4 (zI 120)] [] (.ite 11 (.ret [.c (.nil 6),.c (.nil 6),zI 3]) (.lets [.bin .lss 5 (zI 1)] [] zsk))
def zsm:T :=
 .ite 9 (.ret [.c (.nil 6),.c (.nil 6),8]) (.lets [.bin .lss 4 (zI 1)] [] (.ite 10 (.ret [.c (.nil 6),.c (.nil 6),zI 3]) zsl))
def zsn:T :=
 .lets [.bin .neq 6 (zI 0)] [] (.ite 7 (.ret [.c (.nil 6),.c (.nil 6),6]) (.lets [.call 17 [1,2,3] 0] [] (.lets [.bin .neq 8 (.c (.i .i64
 0))] [] zsm)))
def zd7:T :=
 .lets [.call 8 [0] 0] [] zsn
theorem zj5:Meets Tryz.prog z3z 5 ⟨[.one,.agg 3,.one,.one],[(false,[.pure]),(true,[.pure]),(false,[.scal])],false⟩:=by
 refine z7y (sp:=(z0w [(6,z53),(8,z26),(10,z8w),(11,z64),(13,zbi),(14,z2t),(15,z5b),(16,z6s),(17,z52)])) (sigs:=z17) (cut:=[]) (hints:=[⟨19,[.r 8 57 6,.t 10,.r 0 57 6,.t 111,.z 84,.z 83,.z 78]⟩]) (fns:=[z86 16 Tryz.f16 [⟨2,[.r 6 57 6,.t 8,.r 7 57 6,.r 0 57 6,.t 19]⟩] [],z86 14 Tryz.f14 [] []]) (dep:=2) (pool:=240) (fn:=Tryz.f5) (t:=zd7) (by kernel_rfl) (by kernel_rfl) (by kernel_rfl) ?_ ?_ ?_
 ·exact (z28 (fn:=Tryz.f16) (by kernel_rfl) (by kernel_rfl) (by kernel_rfl) (by kernel_rfl) (by kernel_rfl) (z28 (fn:=Tryz.f14) (by kernel_rfl) (by kernel_rfl) (by kernel_rfl) (by kernel_rfl) (by kernel_rfl) z9b))
 ·exact (z0q (L:=[(6,z53),(8,z26),(10,z8w),(11,z64),(13,zbi),(14,z2t),(15,z5b),(16,z6s),(17,z52)]) ⟨zj rfl zix,zj rfl z9r,zj rfl z02m,zj rfl zp1,zj rfl z07h,zj rfl zd6,zj rfl zj3,zj rfl zx9,zj rfl ziw,trivial⟩)
 ·rintro ds rs - h
  obtain ⟨⟨l,t,nm,ht⟩,-,rfl,rfl⟩:=z01 h;clear h;refine ⟨⟨t.ins.length+t.outs.length+1,?_⟩,zgs⟩
  show den _ _ zd7 [.l 6 (l.map zb),I t.height,.l 3 (t.ins.map eIn),.l 2 (t.outs.map z1p),I nm,I ht] []=ret (z1i l t nm ht)
  unfold zd7 z1i
  repeat' (first|refine dq1 ?_|refine dqk rfl (z29 _) ?_|refine dqk rfl (zc5 _) ?_|exact z5 rfl rfl|((first|refine tR ?_ ?_|refine tO ?_ ?_) <;> intro h)|fail)
  all_goals
   have ok:CoinsOK l:=(z1l l).1 (zY0w.1 (by assumption));have okt:TxOK t:=z8o (zY0w.1 (by assumption));have hl:=ok.len;have hti:=okt.ins;have hto:=okt.outs
   repeat' (first|refine dq1 ?_|refine dqk rfl (z9f _ ok.short) ?_|fail)
  ·(refine z0k (fun (st:List Coin × List Coin) k=>[.l 6 (([]:List Coin).map zb),I 0,.l 6 (st.2.map zb),.l 6 (st.1.map zb),I k]) (fun (st:List Coin × List Coin) _ (xs:List In)=>z2p ht z19 (fun r s=>z2d nm ht (decide ((t.ins.length:Int)=0)) z19 (z3p s) r 0 t.outs) st.1 st.2 xs) (fun st k=>SpI l st k) (l,[]) t.ins ?_ ?_ ?_ ?_ ?_;rfl;exact ⟨ok.sorted,zY0t _,ok.good,rfl,fun c hc=>by cases hc⟩;omega)
   ·rintro ⟨r,s⟩ k x xs hx hd hk hI again hag
    rename_i h0 _;omega
   ·rintro ⟨r,s⟩ hI again
    rw [z2p]
    repeat' (first|refine dq1 ?_|refine dqF ?_|fail)
    (refine z0k (fun (r:List Coin) k=>[.l 6 (([]:List Coin).map zb),I 0,.l 6 (r.map zb),I k]) (fun (r:List Coin) k (os:List Out)=>z2d nm ht (decide ((t.ins.length:Int)=0)) z19 (z3p s) r k os) (fun r k=>z0a r∧r.length≤l.length+k) r t.outs ?_ ?_ ?_ ?_ ?_;rfl;exact ⟨hI.sorted,hI.len⟩;omega)
    ·rintro r k o os hx hd hk ⟨hs,hrl⟩ again' hag
     rw [z2d];have hol:=z6j (okt.good o (zY0o hx)).2.2;have hpl:=zb9 r ⟨nm,k⟩;have e1:((zi r ⟨nm,k⟩:Int)).toNat=zi r ⟨nm,k⟩:=by omega
     repeat' (first|refine dq1 ?_|refine dqc ?_|refine dqm ?_|refine dqK rfl (z42 r ⟨nm,k⟩ hs (by omega)) ?_|refine dqk rfl (zbh _ (by omega)) ?_|exact z5 rfl rfl|refine tB (fun h=>?_) fun h=>?_|refine dqT ?_|fail)
     have hno:=h;refine z4 (zp (r:=[(⟨⟨nm,k⟩,o,ht,decide ((t.ins.length:Int)=0)⟩:Coin)].map zb) rfl rfl (by simp)) ?_;refine z4 (z1z rfl (z8e _ _ _ ⟨by omega,by omega,by omega⟩) rfl) ?_;refine z4 (z47 rfl rfl (by omega)) ?_;rw [e1];exact z6 rfl rfl (hag _ ⟨z3y hs (c:=⟨⟨nm,k⟩,o,ht,decide ((t.ins.length:Int)=0)⟩) hno,by simp only [zY01,zY0d,zY0r,zY1b];omega⟩)
    ·rintro r hr again'
     rw [z2d];unfold z3p
     repeat' (first|refine dq1 ?_|refine dqk rfl (z29 _) ?_|exact z5 rfl rfl|refine tR (fun h=>?_) fun h=>?_|refine dqF ?_|fail)
  ·(refine z0k (fun (st:List Coin × List Coin) k=>[.l 6 (([]:List Coin).map zb),I 0,.l 6 (st.2.map zb),.l 6 (st.1.map zb),I k]) (fun (st:List Coin × List Coin) _ (xs:List In)=>z2p ht z19 (fun r s=>if z2s t s<0 then z19 9 else z2d nm ht (decide ((t.ins.length:Int)=0)) z19 (z3p s) r 0 t.outs) st.1 st.2 xs) (fun st k=>SpI l st k) (l,[]) t.ins ?_ ?_ ?_ ?_ ?_;rfl;exact ⟨ok.sorted,zY0t _,ok.good,rfl,fun c hc=>by cases hc⟩;omega)
   ·rintro ⟨r,s⟩ k x xs hx hd hk hI again hag
    rw [z2p];simp only;have hs:=hI.sorted;have hrl:=hI.len;simp only at hs hrl
    repeat' (first|refine dq1 ?_|refine dqc ?_|refine dqm ?_|refine dqK rfl (z42 _ _ hs (by omega)) ?_|exact z5 rfl rfl|refine tN (fun h=>?_) fun h=>?_|refine dqT ?_|fail)
    obtain ⟨hlt,hp⟩:=(zba hs x.p).1 h;have hc:r[zi r x.p]? = some r[zi r x.p]:=zY08 hlt;rw [hc];generalize r[zi r x.p]=c at *;have hcb:=z2g (hI.good c (zY0o hc));have e1:((zi r x.p:Int)).toNat=zi r x.p:=by omega
    have e2:((zi r x.p:Int)+1).toNat=zi r x.p+1:=by omega
    simp only [zY1i];have hxo:=hx;have hx:=hc
    repeat' (first|refine dq1 ?_|refine dqc ?_|refine dqm ?_|refine dqK rfl (zgq _ _ _) ?_|exact z5 rfl rfl|((first|refine tR ?_ ?_|refine tB ?_ ?_|refine tN ?_ ?_) <;> intro h)|fail)
    all_goals (refine z4 (zp (r:=[c].map zb) rfl rfl (by simp)) ?_;refine z4 (zct (l:=s) (l':=[c]) rfl rfl (by have:=hI.cnt;simp only at this ⊢;simp only [zY1b];omega)) ?_;refine z4 (z47 rfl rfl (by omega)) ?_;refine z4 (z1z rfl (z8d _ _ _ ⟨by omega,by omega,by omega⟩) rfl) ?_;refine z4 (z47 rfl rfl (by omega)) ?_;rw [e1,e2];exact z6 rfl rfl (hag (r.take (zi r x.p)++r.drop (zi r x.p+1),s++[c]) (hI.cut hc)))
   ·rintro ⟨r,s⟩ hI again
    rw [z2p]
    repeat' (first|refine dq1 ?_|refine dqk rfl (zwi t s (hI.fee okt)) ?_|exact z5 rfl rfl|refine tR (fun h=>?_) fun h=>?_|refine dqF ?_|fail)
    (refine z0k (fun (r:List Coin) k=>[.l 6 (([]:List Coin).map zb),I 0,.l 6 (r.map zb),I k]) (fun (r:List Coin) k (os:List Out)=>z2d nm ht (decide ((t.ins.length:Int)=0)) z19 (z3p s) r k os) (fun r k=>z0a r∧r.length≤l.length+k) r t.outs ?_ ?_ ?_ ?_ ?_;rfl;exact ⟨hI.sorted,hI.len⟩;omega)
    ·rintro r k o os hx hd hk ⟨hs,hrl⟩ again' hag
     rw [z2d];have hol:=z6j (okt.good o (zY0o hx)).2.2;have hpl:=zb9 r ⟨nm,k⟩;have e1:((zi r ⟨nm,k⟩:Int)).toNat=zi r ⟨nm,k⟩:=by omega
     repeat' (first|refine dq1 ?_|refine dqc ?_|refine dqm ?_|refine dqK rfl (z42 r ⟨nm,k⟩ hs (by omega)) ?_|refine dqk rfl (zbh _ (by omega)) ?_|exact z5 rfl rfl|refine tB (fun h=>?_) fun h=>?_|refine dqT ?_|fail)
     have hno:=h;refine z4 (zp (r:=[(⟨⟨nm,k⟩,o,ht,decide ((t.ins.length:Int)=0)⟩:Coin)].map zb) rfl rfl (by simp)) ?_;refine z4 (z1z rfl (z8e _ _ _ ⟨by omega,by omega,by omega⟩) rfl) ?_;refine z4 (z47 rfl rfl (by omega)) ?_;rw [e1];exact z6 rfl rfl (hag _ ⟨z3y hs (c:=⟨⟨nm,k⟩,o,ht,decide ((t.ins.length:Int)=0)⟩) hno,by simp only [zY01,zY0d,zY0r,zY1b];omega⟩)
    ·rintro r hr again'
     rw [z2d];unfold z3p
     repeat' (first|refine dq1 ?_|refine dqk rfl (z29 _) ?_|exact z5 rfl rfl|refine tR (fun h=>?_) fun h=>?_|refine dqF ?_|fail)
end
section
open Go.RowKit
set_option maxRecDepth 100000
set_option maxHeartbeats 4000000
theorem zgt (p:Point):∀ (r:List Coin) (k:Nat),(zd0 p r k = -1∧z1g r p=false)∨∃ j,∃ (hj:j<r.length),zd0 p r k=((k+j:Nat):Int)∧r[j].p=p
 | [],k=>.inl ⟨rfl,rfl⟩
 | c::r,k=>by
  rw [zd0]
  by_cases h:c.p=p
  ·rw [if_pos h]
   exact .inr ⟨0,by simp,by simp,h⟩
  ·rw [if_neg h]
   rcases zgt p r (k+1) with ⟨h1,h2⟩|⟨j,hj,h1,h2⟩
   ·refine .inl ⟨h1,?_⟩
    unfold z1g at h2 ⊢;rw [zY2w,h2,decide_eq_false h];rfl
   ·exact .inr ⟨j+1,by simpa using hj,by rw [h1];omega,by simpa using h2⟩
theorem z3c (r:List Coin) (p:Point):(z0d r p = -1∧z1g r p=false)∨∃ j,∃ (hj:j<r.length),z0d r p=(j:Int)∧r[j].p=p:=by
 rcases zgt p r 0 with h|⟨j,hj,h1,h2⟩
 ·exact .inl h
 ·exact .inr ⟨j,hj,by unfold z0d;rw [h1];simp,h2⟩
theorem zf4 {r:List Coin} (h:z0y r) (k:Nat):z0y (r.take k++r.drop (k+1)):=by
 have:(r.take k++r.drop (k+1))=r.eraseIdx k:=(List.eraseIdx_eq_take_drop_succ r k).symm;rw [this];exact h.sublist (List.eraseIdx_sublist r k)
theorem zbr {r:List Coin} {c:Coin} (h:z0y r) (hc:z1g r c.p=false):z0y (r++[c]):=by
 unfold z0y at *;rw [zY2c];refine ⟨h,List.pairwise_singleton _ _,fun a ha b hb=>?_⟩;rw [zY13.1 hb];intro e;unfold z1g at hc;rw [List.any_eq_false] at hc;exact hc a ha (by simpa using e)
def z9x (nm:Int) (K:List Coin→List Coin × Int):List Coin→Nat→List Out→List Coin × Int
 | r,_,[]=>K r
 | r,i,o::os=>if z0d r ⟨nm,i⟩<0 then z4p 7 else if decide ((z1a r (z0d r ⟨nm,i⟩)).o=o)=true then z9x nm K (r.take (z0d r ⟨nm,i⟩).toNat++r.drop (z0d r ⟨nm,i⟩+1).toNat) (i+1) os else z4p 7
def z8p (ins:List In):List Coin→Nat→List Coin→List Coin × Int
 | r,_,[]=>zcz (z0g r)
 | r,i,c::cs=>if z0d r c.p ≥ 0 then z4p 6 else if c.p≠((ins[i]?).getD ⟨⟨0,0⟩,[]⟩).p then z4p 6 else z8p ins (r++[c]) (i+1) cs
def z2w (l:List Coin) (t:Tx) (nm:Int) (u:List Coin):List Coin × Int :=
 if (u.length:Int)≠t.ins.length then z4p 4 else z9x nm (fun r=>z8p t.ins r 0 u) l 0 t.outs
attribute [local irreducible] z0p spD z14 ze zr zd z0g
attribute [local irreducible] den denX z1b z1q
noncomputable def z4s:zh:=spD (fun x:List Coin × Tx × Int × List Coin=>z0y x.1∧x.1.length≤1000∧x.2.1.ins.length≤1000∧x.2.1.outs.length≤1000) fun x=>z2w x.1 x.2.1 x.2.2.1 x.2.2.2
theorem zgu (l:List Coin) (t:Tx) (nm:Int) (u:List Coin) (h:z0y l∧l.length≤1000∧t.ins.length≤1000∧t.outs.length≤1000):z4s [.l 6 (l.map zb),I t.height,.l 3 (t.ins.map eIn),.l 2 (t.outs.map z1p),I nm,.l 6 (u.map zb)]=some [.l 6 ((z2w l t nm u).1.map zb),I (z2w l t nm u).2]:=z09 (f:=fun x:List Coin × Tx × Int × List Coin=>z2w x.1 x.2.1 x.2.2.1 x.2.2.2) (l,t,nm,u) h
def zk9:T :=
 .lets [.bin .add 18 (zI 1)] [] (.lets [.call 14 [13,18,24] 0] [] (.lets [.bin .add 14 (zI 1)] [] (.again 0 [11,12,25,26])))
def zka:T :=
 .lets [.idx 13 18 2,.idx 13 18 3] [] (.lets [.call 24 [20,21,16,17] 0] [] (.lets [.not 22] [] (.ite 23 (.ret [.c (.nil 6),.c (.i .i64
 7)]) zk9)))
def zkb:T :=
 .lets [.call 43 [13,4,14] 0] [] (.lets [.bin .lss 18 (zI 0)] [] (.ite 19 (.ret [.c (.nil 6),zI 7]) (.lets [] [.inr 6 13 18]
 zka)))
def zkc:T :=
 .lets [.mk 6 [[22,23,24,25,26,27]]] [] (.lets [.app 6 19 33] [] (.lets [.bin .add 20 (zI 1)] [] (.again 1 [17,18,34,.v
 35])))
def zkd:T :=
 .lets [.idx 2 20 0,.idx 2 20 1] [] (.lets [.eqs true [(.v 22,.v 30),(.v 23,.v 31)]] [] (.ite 32 (.ret [.c (.nil 6),zI 6]) zkc))
def zke:T :=
 .lets [.call 43 [19,22,23] 0] [] (.lets [.bin .geq 28 (zI 0)] [] (.ite 29 (.ret [.c (.nil 6),zI 6]) (.lets [] [.inr 3 2 20]
 zkd)))
def zkf:T :=
 .lets [.idx 5 20 0,.idx 5 20 1,.idx 5 20 2,.idx 5 20 3,.idx 5 20 4,.idx 5 20 5] [] zke
def zkg:T :=
 .lets [.call 44 [19] 0] [] (.lets [.call 27 [22] 0] [] (.lets [.bin .neq 23 (zI 0)] [] (.ite 24 (.ret [.c (.nil 6),23]) (.ret [22,.c (.i .i64
 0)]))))
def zkh:T :=
 .lets [.len 5] [] (.loop [11,12,13,zI 0] (.lets [.bin .lss 20 16] [] (.ite 21 (.lets [] [.inr 6 5 20] zkf)
 zkg)))
def zki:T :=
 .lets [.bin .lss 14 10] [] (.ite 15 (.lets [] [.inr 2 3 14] (.lets [.idx 3 14 0,.idx 3 14 1] [] zkb)) zkh)
def zhy:T :=
 .ite 8 (.ret [.c (.nil 6),zI 4]) (.lets [.call 9 [0] 0] [] (.lets [.len 3] [] (.loop [.c (.nil 6),zI 0,9,zI 0] zki)))
def za7:T :=
 .lets [.len 5] [] (.lets [.len 2] [] (.lets [.bin .neq 6 7] [] zhy))
attribute [local irreducible] z2v z2t z0r z3t z3m z3e
theorem zxk:Meets Tryz.prog z4s 13 ⟨[.one,.agg 3,.one,.agg 1],[(false,[.pure]),(false,[.scal])],false⟩:=by
 refine z06 (sp:=(z0w [(9,z2v),(14,z2t),(24,z3m),(27,z0r),(43,z3t),(44,z3e)])) (sigs:=z17) (cut:=[]) (hints:=[⟨5,[.r 8 57 6,.t 9,.r 0 57 6,.t 28,.z 24]⟩,⟨13,[.r 8 57 6,.t 9,.r 0 57 6,.t 59]⟩]) (fn:=Tryz.f13) (t:=za7) (by kernel_rfl) (by kernel_rfl) (by kernel_rfl) ?_ ?_
 ·exact (z0q (L:=[(9,z2v),(14,z2t),(24,z3m),(27,z0r),(43,z3t),(44,z3e)]) ⟨zj rfl zeu,zj rfl zd6,zj rfl zg9,zj rfl z5p,zj rfl zp4,zj rfl zj1,trivial⟩)
 ·rintro ds rs - h
  obtain ⟨⟨l,t,nm,u⟩,⟨hd,hl,hti,hto⟩,rfl,rfl⟩:=z01 h;clear h;simp only at hd hl hti hto;refine ⟨⟨u.length+t.outs.length+1,?_⟩,zj4⟩
  show den _ _ za7 [.l 6 (l.map zb),I t.height,.l 3 (t.ins.map eIn),.l 2 (t.outs.map z1p),I nm,.l 6 (u.map zb)] []=ret (z2w l t nm u)
  unfold za7 z2w
  repeat' (first|refine dq1 ?_|refine dqk rfl (z4n l (by omega)) ?_|exact z5 rfl rfl|refine tR (fun h=>?_) fun h=>?_|fail)
  have hul:u.length=t.ins.length:=by omega
  (refine z0k (fun (r:List Coin) k=>[.l 6 (([]:List Coin).map zb),I 0,.l 6 (r.map zb),I k]) (fun (r:List Coin) k (os:List Out)=>z9x nm (fun r=>z8p t.ins r 0 u) r k os) (fun r k=>z0y r∧r.length≤l.length) l t.outs ?_ ?_ ?_ ?_ ?_;rfl;exact ⟨hd,zY0t _⟩;omega)
  ·rintro r k o os hx hk1 hk ⟨hs,hrl⟩ again hag
   rw [z9x];have hp:=z4q r ⟨nm,k⟩;rcases z3c r ⟨nm,k⟩ with ⟨h1,h2⟩|⟨j,hj,h1,h2⟩
   ·rw [h1] at hp ⊢
    have hn0:(-1:Int)<0:=by omega
    rw [if_pos hn0];have hxo:=hx
    repeat' (first|refine dq1 ?_|refine dqc ?_|refine dqm ?_|refine dqk rfl (hp) ?_|exact z5 rfl rfl|refine dqT ?_|fail)
   ·rw [h1] at hp ⊢
    have hc:r[j]? = some r[j]:=zY08 hj;have hca:z1a r (j:Int)=r[j]:=by unfold z1a;rw [zY38,hc];rfl
    have e1:((j:Int)).toNat=j:=by omega
    have e2:((j:Int)+1).toNat=j+1:=by omega
    rw [hca,e1,e2];generalize r[j]=c at *;have hn0:¬ (j:Int)<0:=by omega
    rw [if_neg hn0];have hxo:=hx;have hx:=hc;have hag:=hag (r.take j++r.drop (j+1)) ⟨zf4 hs _,by simp only [zY01,zY0d,zY0r];omega⟩;have hdl:=z8d r (j:Int) ((j:Int)+1) ⟨by omega,by omega,by omega⟩;rw [e1,e2] at hdl
    repeat' (first|refine dq1 ?_|refine dqc ?_|refine dqm ?_|refine dqk rfl (hp) ?_|refine dqk rfl (zak c.o o) ?_|refine dqk rfl (hdl) ?_|exact z6 rfl rfl hag|exact z5 rfl rfl|refine tN (fun h=>?_) fun h=>?_|refine dqT ?_|refine dqF ?_|fail)
  ·rintro r ⟨hs,hrl⟩ again
   rw [z9x]
   repeat' (first|refine dq1 ?_|refine dqF ?_|fail)
   (refine z0k (fun (r:List Coin) k=>[.l 6 (([]:List Coin).map zb),I 0,.l 6 (r.map zb),I k]) (fun (r:List Coin) k (cs:List Coin)=>z8p t.ins r k cs) (fun r k=>z0y r∧r.length≤l.length+k) r u ?_ ?_ ?_ ?_ ?_;rfl;exact ⟨hs,by omega⟩;omega)
   ·rintro r k c cs hx hk1 hk ⟨hs,hrl⟩ again' hag
    rw [z8p];have hki:k<t.ins.length:=by omega
    obtain ⟨x,hxi⟩:∃ x,t.ins[k]? = some x:=⟨_,zY08 hki⟩
    rw [hxi];simp only [zY1i];have hp:=z4q r c.p;rcases z3c r c.p with ⟨h1,h2⟩|⟨j,hj,h1,h2⟩
    ·rw [h1] at hp ⊢
     have hag:=hag (r++[c]) ⟨zbr hs h2,by rw [zY01,zY1b];omega⟩;have hn0:¬ (-1:Int) ≥ 0:=by omega
     rw [if_neg hn0];have hlr:r.length+1≤1000000:=by omega
     repeat' (first|refine dq1 ?_|refine dqc ?_|refine dqm ?_|refine dqk rfl (hp) ?_|refine z4 (zp (r:=[zb c]) rfl rfl (by simp)) ?_|exact z6 rfl rfl hag|exact z5 rfl rfl|refine tR (fun h=>?_) fun h=>?_|refine dqT ?_|refine dqF ?_|fail)
    ·rw [h1] at hp ⊢
     have hn0:(j:Int) ≥ 0:=by omega
     rw [if_pos hn0]
     repeat' (first|refine dq1 ?_|refine dqc ?_|refine dqm ?_|refine dqk rfl (hp) ?_|exact z5 rfl rfl|refine dqT ?_|fail)
   ·rintro r ⟨hs,hrl⟩ again'
    rw [z8p];unfold zcz
    repeat' (first|refine dq1 ?_|refine dqk rfl (z8c r ⟨by omega,hs⟩) ?_|refine dqk rfl (z2o (z0g r)) ?_|exact z5 rfl rfl|refine tR (fun h=>?_) fun h=>?_|refine dqF ?_|fail)
end
section
open Go.RowKit
theorem hasP_mem {l:List Coin} {p:Point}:z1g l p=true↔∃ c ∈ l,c.p=p:=by
 unfold z1g;rw [zY2t];constructor
 ·rintro ⟨c,hc,h⟩;exact ⟨c,hc,of_decide_eq_true h⟩
 ·rintro ⟨c,hc,h⟩;exact ⟨c,hc,decide_eq_true h⟩
theorem hasP_not {l:List Coin} {p:Point}:z1g l p=false↔∀ c ∈ l,c.p≠p:=by
 rw [← zY2u,hasP_mem];constructor
 ·intro h c hc he;exact h ⟨c,hc,he⟩
 ·rintro h ⟨c,hc,he⟩;exact h c hc he
theorem zxl {l:List Coin} (h:z0a l) {c d:Coin} (hc:c ∈ l) (hd:d ∈ l) (hp:c.p=d.p):c=d:=by
 obtain ⟨i,hi,rfl⟩:=zY2f hc;obtain ⟨j,hj,rfl⟩:=zY2f hd;rcases Nat.lt_trichotomy i j with hij|rfl|hij
 ·have:=z60 h hij hj;rw [hp] at this;exact absurd this (z3x _)
 ·rfl
 ·have:=z60 h hij hi;rw [hp] at this;exact absurd this (z3x _)
theorem z03r {l:List Coin} (h:z0a l) {c:Coin} (hc:c ∈ l):l[zi l c.p]? = some c:=by
 obtain ⟨hlt,hp⟩:=(zba h c.p).1 (hasP_mem.2 ⟨c,hc,rfl⟩);rw [zY08 hlt];exact congrArg some (zxl h (zY1r hlt) hc hp)
theorem zyw {l:List Coin} (h:z0a l) {c:Coin} {k:Nat} (hk:l[k]? = some c) {d:Coin}:d ∈ l.take k++l.drop (k+1)↔d ∈ l∧d.p≠c.p:=by
 obtain ⟨hlt,rfl⟩:=zY06.1 hk;have hsplit:l=l.take k++l[k]::l.drop (k+1):=by rw [List.getElem_cons_drop,zY0q]
 have hs:z0a (l.take k++l[k]::l.drop (k+1)):=by rw [← hsplit];exact h
 obtain ⟨_,h2,h3⟩:=zY2c.1 hs;have h2':=zY1p.1 h2;constructor
 ·intro hd
  refine ⟨?_,?_⟩
  ·rcases zY0z.1 hd with hd|hd
   ·exact zY2b hd
   ·exact zY1x hd
  ·rcases zY0z.1 hd with hd|hd
   ·intro e;have:=h3 d hd l[k] (zY0l ..);rw [e] at this;exact z3x _ this
   ·intro e;have:=h2'.1 d hd;rw [e] at this;exact z3x _ this
 ·rintro ⟨hd,hne⟩
  rw [hsplit] at hd;rcases zY0z.1 hd with hd|hd
  ·exact List.mem_append_left _ hd
  ·rcases zY0m.1 hd with rfl|hd
   ·exact absurd rfl hne
   ·exact List.mem_append_right _ hd
theorem put_mem {l:List Coin} {c d:Coin} {k:Nat}:d ∈ l.take k++[c]++l.drop k↔d=c∨d ∈ l:=by
 have:d ∈ l↔d ∈ l.take k∨d ∈ l.drop k:=by rw [← zY0z,zY0q]
 rw [zY0z,zY0z,zY13,this];constructor
 ·rintro ((h|h)|h)
  ·exact .inr (.inl h)
  ·exact .inl h
  ·exact .inr (.inr h)
 ·rintro (h|h|h)
  ·exact .inl (.inr h)
  ·exact .inl (.inl h)
  ·exact .inr h
theorem z03s {l:List Coin} {c:Coin} {k:Nat} (hk:l[k]? = some c):zu l=zu (l.take k++l.drop (k+1))+c.o.coin:=by
 obtain ⟨hlt,rfl⟩:=zY06.1 hk;have hsplit:l=l.take k++l[k]::l.drop (k+1):=by rw [List.getElem_cons_drop,zY0q]
 have e:zu l=zu (l.take k++l[k]::l.drop (k+1)):=by rw [← hsplit]
 rw [e,z33,z33,zu];omega
theorem z03t {l:List Coin} {c:Coin} {k:Nat}:zu (l.take k++[c]++l.drop k)=zu l+c.o.coin:=by
 have e:zu l=zu (l.take k++l.drop k):=by rw [zY0q]
 rw [e,z33,z33,z33,zu,zu];omega
structure Fine (h:Int) (x:In) (c:Coin):Prop where
 p:c.p=x.p
 ripe:c.reward=true→c.height+2≤h
 opens:(z21 c.o.lock x.key h).1=true
inductive Spent (h:Int):List Coin→List Coin→List In→List Coin→List Coin→Prop
 | nil (r s):Spent h r s [] r s
 | cons {r s x xs r' s' c}:c ∈ r→r[zi r x.p]? = some c→Fine h x c→Spent h (r.take (zi r x.p)++r.drop (zi r x.p+1)) (s++[c]) xs r' s'→Spent h r s (x::xs) r' s'
theorem z00j {ρ:Type} {h:Int} {bad:Int→ρ} {K:List Coin→List Coin→ρ} {r s:List Coin} {x:In} {xs:List In} {c:Coin} (hm:c ∈ r) (hc:r[zi r x.p]? = some c) (hf:Fine h x c):z2p h bad K r s (x::xs)=z2p h bad K (r.take (zi r x.p)++r.drop (zi r x.p+1)) (s++[c]) xs:=by
 have hp:z1g r x.p=true:=hasP_mem.2 ⟨c,hm,hf.p⟩;rw [z2p,if_pos hp,hc];simp only [zY1i];rw [if_pos hf.opens]
 by_cases hr:c.reward=true
 ·rw [if_pos hr,if_neg (by have:=hf.ripe hr;omega)]
 ·rw [if_neg hr]
theorem Spent.run {ρ:Type} {h:Int} {bad:Int→ρ} {K:List Coin→List Coin→ρ} {r s r' s':List Coin} {xs:List In} (hs:Spent h r s xs r' s'):z2p h bad K r s xs=K r' s':=by
 induction hs with
 | nil r s=>rfl
 | cons hm hc hf _ ih=>rw [z00j hm hc hf,ih]
structure SpentAs (h:Int) (r:List Coin) (xs:List In) (r' cs:List Coin):Prop where
 sorted:z0a r'
 mem:∀ c,c ∈ r'↔c ∈ r∧∀ x ∈ xs,x.p≠c.p
 len:cs.length=xs.length
 fine:∀ (i:Nat) (x:In),xs[i]? = some x→∃ c,cs[i]? = some c∧c ∈ r∧Fine h x c
 apart:xs.Pairwise fun x y=>x.p≠y.p
 total:zu r=zu r'+zu cs
theorem Spent.as {h:Int} {r s r' s':List Coin} {xs:List In} (hs:Spent h r s xs r' s'):z0a r→∃ cs,s'=s++cs∧SpentAs h r xs r' cs:=by
 induction hs with
 | nil r s=>exact fun hr=>⟨[],(zY2e s).symm,hr,fun c=>by simp,rfl,fun i x hx=>by simp at hx,.nil,by simp [zu]⟩
 | @cons r s x xs r' s' c hm hc hf hs ih =>
  intro hr;obtain ⟨cs,rfl,H⟩:=ih (z6o hr _);have hcm:=fun d=>zyw hr hc (d:=d)
  refine ⟨c::cs,by simp,H.sorted,fun d=>?_,by simp [H.len],fun i y hy=>?_,?_,?_⟩
  ·rw [H.mem,hcm]
   constructor
   ·rintro ⟨⟨h1,h2⟩,h3⟩
    refine ⟨h1,fun y hy=>?_⟩;rcases zY0m.1 hy with rfl|hy
    ·rw [← hf.p];exact fun e=>h2 e.symm
    ·exact h3 y hy
   ·rintro ⟨h1,h2⟩
    exact ⟨⟨h1,fun e=>h2 x (zY0l ..) (by rw [← hf.p,e])⟩,fun y hy=>h2 y (zY0j _ hy)⟩
  ·cases i with
   | zero =>
    simp only [zY09,zY00] at hy;subst hy;exact ⟨c,rfl,hm,hf⟩
   | succ i =>
    obtain ⟨d,h1,h2,h3⟩:=H.fine i y (by simpa using hy);exact ⟨d,by simpa using h1,(hcm d).1 h2 |>.1,h3⟩
  ·refine zY1p.2 ⟨fun y hy=>?_,H.apart⟩
   obtain ⟨i,hi⟩:=zY2x hy;obtain ⟨d,_,h2,h3⟩:=H.fine i y hi;have:=((hcm d).1 h2).2;rw [h3.p,hf.p] at this;exact fun e=>this e.symm
  ·rw [z03s hc,H.total,zu];omega
theorem Spent.of {h:Int}:∀ {xs:List In} {r s cs:List Coin},z0a r→xs.Pairwise (fun x y=>x.p≠y.p)→cs.length=xs.length→(∀ (i:Nat) (x:In),xs[i]? = some x→∃ c,cs[i]? = some c∧c ∈ r∧Fine h x c)→∃ r',Spent h r s xs r' (s++cs)
 | [],r,s,cs,hr,ha,hl,hf=>by
  have:cs=[]:=zY0b hl;subst this;exact ⟨r,by rw [zY2e];exact .nil r s⟩
 | x::xs,r,s,[],hr,ha,hl,hf=>by cases hl
 | x::xs,r,s,c::cs,hr,ha,hl,hf=>by
  obtain ⟨c',h1,hm,hfx⟩:=hf 0 x rfl;simp only [zY09,zY00] at h1;subst h1;have hc:r[zi r x.p]? = some c:=by rw [← hfx.p];exact z03r hr hm
  have ha':=zY1p.1 ha;obtain ⟨r',hs⟩:=Spent.of (s:=s++[c]) (cs:=cs) (z6o hr (zi r x.p)) ha'.2 (by simpa using hl) fun i y hy=>by
   obtain ⟨d,k1,k2,k3⟩:=hf (i+1) y (by simpa using hy);refine ⟨d,by simpa using k1,(zyw hr hc).2 ⟨k2,?_⟩,k3⟩;rw [k3.p,hfx.p];exact fun e=>ha'.1 y (zY0o hy) e.symm
  exact ⟨r',.cons hm hc hfx (by rw [zY15] at hs;exact hs)⟩
def z8x (nm h:Int) (rw:Bool) (i:Nat) (o:Out):Coin:=⟨⟨nm,i⟩,o,h,rw⟩
inductive Brought (nm h:Int) (rw:Bool):List Coin→Nat→List Out→List Coin→Prop
 | nil (r i):Brought nm h rw r i [] r
 | cons {r:List Coin} {i:Nat} {o:Out} {os:List Out} {m:List Coin}:z1g r ⟨nm,i⟩=false→Brought nm h rw (r.take (zi r ⟨nm,i⟩)++[z8x nm h rw i o]++r.drop (zi r ⟨nm,i⟩)) (i+1) os m→Brought nm h rw r i (o::os) m
theorem Brought.run {ρ:Type} {nm h:Int} {rw:Bool} {bad:Int→ρ} {K:List Coin→ρ} {r m:List Coin} {i:Nat} {os:List Out} (hb:Brought nm h rw r i os m):z2d nm h rw bad K r i os=K m:=by
 induction hb with
 | nil r i=>rfl
 | cons hn _ ih=>rw [z2d,if_neg (by simp [hn])];exact ih
def zd8 (os:List Out):Int:=(os.map Out.coin).sum
structure BroughtAs (nm h:Int) (rw:Bool) (r:List Coin) (i:Nat) (os:List Out) (m:List Coin):Prop where
 sorted:z0a m
 mem:∀ c,c ∈ m↔c ∈ r∨∃ (j:Nat) (o:Out),os[j]? = some o∧c=z8x nm h rw (i+j) o
 free:∀ c ∈ r,∀ j,j<os.length→c.p≠⟨nm,((i+j:Nat):Int)⟩
 total:zu m=zu r+zd8 os
 len:m.length=r.length+os.length
theorem Brought.as {nm h:Int} {rw:Bool} {r m:List Coin} {i:Nat} {os:List Out} (hb:Brought nm h rw r i os m):z0a r→BroughtAs nm h rw r i os m:=by
 induction hb with
 | nil r i=>exact fun hr=>⟨hr,fun c=>by simp,fun c _ j hj=>by simp at hj,by simp [zd8],by simp⟩
 | @cons r i o os m hn hb ih =>
  intro hr;have H:=ih (z3y hr (c:=z8x nm h rw i o) hn);refine ⟨H.sorted,fun c=>?_,fun c hc j hj=>?_,?_,?_⟩
  ·rw [H.mem,put_mem]
   constructor
   ·rintro ((rfl|h1)|⟨j,q,h1,h2⟩)
    ·exact .inr ⟨0,o,rfl,rfl⟩
    ·exact .inl h1
    ·exact .inr ⟨j+1,q,by simpa using h1,by rw [h2,show i+1+j=i+(j+1) by omega]⟩
   ·rintro (h1|⟨j,q,h1,h2⟩)
    ·exact .inl (.inr h1)
    ·cases j with
     | zero =>
      simp only [zY09,zY00] at h1;subst h1;exact .inl (.inl h2)
     | succ j=>exact .inr ⟨j,q,by simpa using h1,by rw [h2,show i+1+j=i+(j+1) by omega]⟩
  ·cases j with
   | zero=>exact hasP_not.1 hn c hc
   | succ j =>
    have:=H.free c (put_mem.2 (.inr hc)) j (by simpa using hj)
    rwa [show i+1+j=i+(j+1) by omega] at this
  ·rw [H.total,z03t]
   simp only [zd8,zY1t,List.sum_cons,z8x];omega
  ·rw [H.len]
   simp only [zY01,zY0d,zY0r,zY03,zY04];omega
theorem Brought.of {nm h:Int} {rw:Bool}:∀ {os:List Out} {r:List Coin} {i:Nat},z0a r→(∀ c ∈ r,∀ j,j<os.length→c.p≠⟨nm,((i+j:Nat):Int)⟩)→∃ m,Brought nm h rw r i os m
 | [],r,i,_,_=>⟨r,.nil r i⟩
 | o::os,r,i,hr,hf=>by
  have hn:z1g r ⟨nm,i⟩=false:=hasP_not.2 fun c hc=>hf c hc 0 (by simp)
  obtain ⟨m,hb⟩:=Brought.of (os:=os) (i:=i+1) (z3y hr (c:=z8x nm h rw i o) hn) fun c hc j hj=>by
   rcases put_mem.1 hc with rfl|hc
   ·simp only [z8x,ne_eq,Point.mk.injEq,not_and]
    intro _;omega
   ·have:=hf c hc (j+1) (by simpa using hj)
    rwa [show i+(j+1)=i+1+j by omega] at this
  exact ⟨m,.cons hn hb⟩
structure Done (l:List Coin) (t:Tx) (nm h:Int) (r s m:List Coin):Prop where
 ok:CoinsOK l
 tx:zr t=0
 nm1:1≤nm
 nm2:nm≤120
 h1:1≤h
 h2:h≤1000
 height:t.ins.length=0→t.height=h
 spent:Spent h l [] t.ins r s
 fee:t.ins.length≠0→0≤z2s t s
 brought:Brought nm h (decide ((t.ins.length:Int)=0)) r 0 t.outs m
 end_:CoinsOK m
theorem Done.run {l:List Coin} {t:Tx} {nm h:Int} {r s m:List Coin} (d:Done l t nm h r s m):z1i l t nm h=(m,s,0):=by
 unfold z1i;have hE:z3p s m=(m,s,0):=by
  unfold z3p;rw [if_neg (by rw [(z1l m).2 d.end_];decide)]
 have a:=d.nm1;have b:=d.nm2;have c:=d.h1;have e:=d.h2;rw [if_neg (by rw [(z1l l).2 d.ok];decide),if_neg (by rw [d.tx];decide),if_neg (by omega)]
 by_cases h0:(t.ins.length:Int)=0
 ·rw [if_pos h0,if_neg (by rw [d.height (by omega)];simp),d.spent.run,d.brought.run,hE]
 ·rw [if_neg h0,d.spent.run,if_neg (by have:=d.fee (by omega);omega),d.brought.run,hE]
end
section
open Go.RowKit
theorem z07y {r:List Coin} {i:Nat} {c:Coin} (h:r[i]? = some c):(r.take i++c::r.drop (i+1))=r:=by
 obtain ⟨hi,rfl⟩:=zY06.1 h;rw [← zY1v hi,zY0q]
theorem zso {r:List Coin} {i:Nat} {c:Coin} (h:r[i]? = some c):(c::(r.take i++r.drop (i+1))).Perm r:=by
 have hp:=(List.perm_middle (a:=c) (l₁:=r.take i) (l₂:=r.drop (i+1))).symm;rw [z07y h] at hp;exact hp
theorem z6t {r:List Coin} (h:z0y r) {p:Point}:(z0d r p<0∧z1g (z0g r) p=false) ∨
  ∃ c,0≤z0d r p∧z1g (z0g r) p=true∧c ∈ r∧c.p=p∧z1a r (z0d r p)=c∧((z0g r)[zi (z0g r) p]?).getD z55=c∧(z0g r)[zi (z0g r) p]? = some c∧z0y (r.take (z0d r p).toNat++r.drop (z0d r p+1).toNat)∧(r.take (z0d r p).toNat++r.drop (z0d r p+1).toNat).length≤r.length ∧
   (z0g r).take (zi (z0g r) p)++(z0g r).drop (zi (z0g r) p+1)=z0g (r.take (z0d r p).toNat++r.drop (z0d r p+1).toNat):=by
 rcases z3c r p with ⟨h1,h2⟩|⟨j,hj,h1,h2⟩
 ·exact .inl ⟨by omega,(z81 (z1m r) p).trans h2⟩
 ·refine .inr ⟨r[j],?_⟩
  have hs:=z35 h;have hm:r[j] ∈ r:=zY1r hj;have hm':r[j] ∈ z0g r:=(z1m r).mem_iff.2 hm;have hp:=z03r hs hm';have e1:((j:Int)).toNat=j:=by omega
  have e2:((j:Int)+1).toNat=j+1:=by omega
  have hc:r[j]? = some r[j]:=zY08 hj;have hd:=zf4 h j;rw [h2] at hp;rw [h1,e1,e2];refine ⟨by omega,hasP_mem.2 ⟨_,hm',h2⟩,hm,h2,?_,?_,hp,hd,?_,?_⟩
  ·unfold z1a;rw [e1,hc];rfl
  ·rw [hp];rfl
  ·simp only [zY01,zY0d,zY0r];omega
  ·refine z7p (List.Perm.cons_inv (a:=r[j]) ?_) (z6o hs _) (z35 hd)
   exact (zso hp).trans ((z1m r).trans ((zso hc).symm.trans ((z1m _).symm.cons _)))
theorem zsp {r:List Coin} (h:z0y r) {c:Coin} (hc:z1g r c.p=false):z0y (r++[c])∧(z0g r).take (zi (z0g r) c.p)++[c]++(z0g r).drop (zi (z0g r) c.p)=z0g (r++[c]):=by
 have hd:=zbr h hc;refine ⟨hd,z7p ?_ (z3y (z35 h) ((z81 (z1m r) _).trans hc)) (z35 hd)⟩;rw [zY15,zY2s];refine List.perm_middle.trans ?_;rw [zY0q];exact ((z1m r).cons c).trans ((List.perm_append_singleton c r).symm.trans (z1m _).symm)
theorem zsq {r:List Coin} (h:z0a r):z0g r=r:=z7p (z1m r) (z35 (z4a h)) h
theorem zj6 (ins:List In):∀ (u r:List Coin) (k:Nat),z0y r→z8p ins r k u=z7o ins z4p zcz (z0g r) k u
 | [],r,k,_=>by rw [z8p,z7o]
 | c::u,r,k,h=>by
  rw [z8p,z7o]
  by_cases hh:z1g (z0g r) c.p=true
  ·rw [if_pos hh]
   rcases z6t h (p:=c.p) with ⟨_,h2⟩|⟨d,h1,_⟩
   ·rw [hh] at h2;cases h2
   ·rw [if_pos h1]
  ·rw [if_neg hh]
   rcases z6t h (p:=c.p) with ⟨h1,h2⟩|⟨d,_,h2,_⟩
   ·have hn:¬ z0d r c.p ≥ 0:=by omega
    rw [if_neg hn];obtain ⟨hd,he⟩:=zsp h ((z81 (z1m r) c.p).symm.trans h2);rw [he,zj6 ins u _ _ hd]
    by_cases e:c.p=((ins[k]?).getD ⟨⟨0,0⟩,[]⟩).p
    ·rw [if_neg (fun x=>x e),if_neg (fun x=>x e.symm)]
    ·rw [if_pos e,if_pos (fun x=>e x.symm)]
   ·exact absurd h2 hh
theorem zj7 (nm:Int) {K K':List Coin→List Coin × Int} (hK:∀ r,z0y r→K r=K' (z0g r)):∀ (os:List Out) (r:List Coin) (k:Nat),z0y r→z9x nm K r k os=z9u nm z4p K' (z0g r) k os
 | [],r,k,h=>by rw [z9x,z9u,hK r h]
 | o::os,r,k,h=>by
  rw [z9x,z9u];rcases z6t h (p:=⟨nm,k⟩) with ⟨h1,h2⟩|⟨d,h1,h2,h3,h4,h5,h6,_,h7,_,h8⟩
  ·rw [if_pos h1,if_neg (by rw [h2];decide)]
  ·have hn:¬ z0d r ⟨nm,k⟩<0:=by omega
   rw [if_neg hn,if_pos h2,h5,h6,h8,zj7 nm hK os _ _ h7]
theorem zxm {l:List Coin} {t:Tx} {nm:Int} {u:List Coin} (hl:ze l=0) (ht:zr t=0):z2w l t nm u=z27 l t nm u:=by
 have ok:=(z1l l).1 hl;unfold z2w z27;rw [if_neg (show ¬ ze l≠0 by rw [hl];decide),if_neg (show ¬ zr t≠0 by rw [ht];decide)]
 by_cases h:(u.length:Int)≠t.ins.length
 ·rw [if_pos h,if_pos h]
 ·rw [if_neg h,if_neg h,zj7 nm (K':=fun r=>z7o t.ins z4p zcz r 0 u) (fun r h=>zj6 t.ins u r 0 h) t.outs l 0 (z4a ok.sorted),zsq ok.sorted]
end
section
open Go.RowKit
theorem z03u {l seen:List In} (h:z0x l seen=0):∀ x ∈ l,zd x.key=0:=by
 induction l generalizing seen with
 | nil=>intro x hx;cases hx
 | cons y l ih =>
  rw [z0x] at h
  by_cases hb:z2r y≠0
  ·rw [if_pos hb] at h;exact absurd h hb
  ·rw [if_neg hb] at h
   by_cases hi:0≤z38 seen y.p 0
   ·rw [if_pos hi] at h;cases h
   ·rw [if_neg hi] at h
    intro x hx;rcases zY0m.1 hx with rfl|hx
    ·have hb':z2r x=0:=zY0w.1 hb
     unfold z2r at hb'
     split at hb'
     ·cases hb'
     ·exact hb'
    ·exact ih h x hx
section
variable {ρ:Type}
def z45 (h:Int) (bad:Int→ρ) (K:List Coin→List Coin→ρ):List Coin→List Coin→List In→ρ
 | r,s,[]=>K r s
 | r,s,x::xs=>if z0d r x.p<0 then bad 7 else
   if (z1a r (z0d r x.p)).reward=true then
    if (z1a r (z0d r x.p)).height+2 > h then bad 10
    else if (z21 (z1a r (z0d r x.p)).o.lock x.key h).1=true then z45 h bad K (r.take (z0d r x.p).toNat++r.drop (z0d r x.p+1).toNat) (s++[z1a r (z0d r x.p)]) xs else bad 8
   else if (z21 (z1a r (z0d r x.p)).o.lock x.key h).1=true then z45 h bad K (r.take (z0d r x.p).toNat++r.drop (z0d r x.p+1).toNat) (s++[z1a r (z0d r x.p)]) xs else bad 8
def z3f (nm h:Int) (rw:Bool) (bad:Int→ρ) (K:List Coin→ρ):List Coin→Nat→List Out→ρ
 | r,_,[]=>K r
 | r,i,o::os=>if z0d r ⟨nm,i⟩ ≥ 0 then bad 6 else z3f nm h rw bad K (r++[⟨⟨nm,i⟩,o,h,rw⟩]) (i+1) os
theorem zbs (h:Int) (bad:Int→ρ) {K K':List Coin→List Coin→ρ} (hK:∀ r s,z0y r→K r s=K' (z0g r) s):∀ (xs:List In) (r s:List Coin),z0y r→z45 h bad K r s xs=z2p h bad K' (z0g r) s xs
 | [],r,s,hd=>by rw [z45,z2p,hK r s hd]
 | x::xs,r,s,hd=>by
  rw [z45,z2p];rcases z6t hd (p:=x.p) with ⟨h1,h2⟩|⟨d,h1,h2,h3,h4,h5,h6,_,h7,_,h8⟩
  ·rw [if_pos h1,if_neg (by rw [h2];decide)]
  ·have hn:¬ z0d r x.p<0:=by omega
   rw [if_neg hn,if_pos h2,h5,h6,h8,zbs h bad hK xs _ _ h7]
theorem zbt (nm h:Int) (rw_:Bool) (bad:Int→ρ) {K K':List Coin→ρ} (hK:∀ r,z0y r→K r=K' (z0g r)):∀ (os:List Out) (r:List Coin) (k:Nat),z0y r→z3f nm h rw_ bad K r k os=z2d nm h rw_ bad K' (z0g r) k os
 | [],r,k,hd=>by rw [z3f,z2d,hK r hd]
 | o::os,r,k,hd=>by
  rw [z3f,z2d];rcases z6t hd (p:=⟨nm,k⟩) with ⟨h1,h2⟩|⟨d,h1,h2,_⟩
  ·have hn:¬ z0d r ⟨nm,k⟩ ≥ 0:=by omega
   obtain ⟨hd',he⟩:=zsp hd (c:=⟨⟨nm,k⟩,o,h,rw_⟩) ((z81 (z1m r) _).symm.trans h2);simp only at he;rw [if_neg hn,if_neg (by rw [h2];decide),he,zbt nm h rw_ bad hK os _ _ hd']
  ·rw [if_pos h1,if_pos h2]
end
def z36 (l:List Coin) (t:Tx) (nm h:Int):List Coin × List Coin × Int :=
 if nm<1 then z19 3 else if nm > 120 then z19 3 else if h<1 then z19 3 else if h > 1000 then z19 3 else
 if (t.ins.length:Int)=0 then
  if t.height≠h then z19 4 else z45 h z19 (fun r s=>z3f nm h (decide ((t.ins.length:Int)=0)) z19 (fun r=>z3p s (z0g r)) r 0 t.outs) l [] t.ins
 else z45 h z19 (fun r s=>if z2s t s<0 then z19 9 else z3f nm h (decide ((t.ins.length:Int)=0)) z19 (fun r=>z3p s (z0g r)) r 0 t.outs) l [] t.ins
theorem z00k {l:List Coin} {t:Tx} {nm h:Int} (hl:ze l=0) (ht:zr t=0):z36 l t nm h=z1i l t nm h:=by
 have ok:=(z1l l).1 hl;unfold z36 z1i;rw [if_neg (show ¬ ze l≠0 by rw [hl];decide),if_neg (show ¬ zr t≠0 by rw [ht];decide)]
 by_cases a1:nm<1
 ·rw [if_pos a1,if_pos (show nm<1∨120<nm∨h<1∨1000<h by omega)]
 rw [if_neg a1]
 by_cases a2:nm > 120
 ·rw [if_pos a2,if_pos (show nm<1∨120<nm∨h<1∨1000<h by omega)]
 rw [if_neg a2]
 by_cases a3:h<1
 ·rw [if_pos a3,if_pos (show nm<1∨120<nm∨h<1∨1000<h by omega)]
 rw [if_neg a3]
 by_cases a4:h > 1000
 ·rw [if_pos a4,if_pos (show nm<1∨120<nm∨h<1∨1000<h by omega)]
 rw [if_neg a4,if_neg (show ¬ (nm<1∨120<nm∨h<1∨1000<h) by omega)];have hs:=zsq ok.sorted;have hd:=z4a ok.sorted
 by_cases e:(t.ins.length:Int)=0
 ·rw [if_pos e,if_pos e]
  by_cases e2:t.height≠h
  ·rw [if_pos e2,if_pos e2]
  ·rw [if_neg e2,if_neg e2,zbs h z19 (K':=fun r s=>z2d nm h (decide ((t.ins.length:Int)=0)) z19 (z3p s) r 0 t.outs) (fun r s hr=>zbt nm h _ z19 (fun r _=>rfl) t.outs r 0 hr) t.ins l [] hd,hs]
 ·rw [if_neg e,if_neg e,zbs h z19 (K':=fun r s=>if z2s t s<0 then z19 9 else z2d nm h (decide ((t.ins.length:Int)=0)) z19 (z3p s) r 0 t.outs) (fun r s hr=>by
   by_cases f:z2s t s<0
   ·rw [if_pos f,if_pos f]
   ·rw [if_neg f,if_neg f];exact zbt nm h _ z19 (fun r _=>rfl) t.outs r 0 hr) t.ins l [] hd,hs]
end
section
open Go.RowKit
set_option maxRecDepth 100000
set_option maxHeartbeats 8000000
attribute [local irreducible] z0p spD z14
def za8 (r:Option (List Int)):List Int × Bool:=match r with
 | none=>([],false)
 | some s=>(s,true)
noncomputable def z40:zh:=spD (fun _:Int=>True) fun n=>decide (-1000000≤n∧n≤1000000)
theorem zg (n:Int):z40 [I n]=some [.b (decide (-1000000≤n∧n≤1000000))]:=z09 (f:=fun n:Int=>decide (-1000000≤n∧n≤1000000)) n trivial
def zhz:T :=
 .lets [.bin .geq 0 (.c (.i .i64 (-1000000)))] [] (.ite 1 (.lets [.bin .leq 0 (zI 1000000)] [] (.ret [2])) (.ret [.c (.b false)]))
def zxn:T :=
 .ite 53 (.ret [.c (.nil 1),.c (.b false)]) (.lets [.mk 1 [[49]]] [] (.lets [.app 1 46 54] [] (.lets [.bin .add 47 (zI 1)] [] (.again 1 [44,.v
 45,55,56]))))
def zxo:T :=
 .lets [.bin .geq 50 (zI 16)] [] (.ite 51 (.ret [.c (.nil 1),.c (.b false)]) (.lets [.call 40 [49] 0] [] (.lets [.not 52] [] zxn)))
def z5h:T :=
 .ite 48 (.lets [] [.inr 1 42 47] (.lets [.idx 42 47 0] [] (.lets [.len 46] [] zxo))) (.lets [.bin .add 20 (zI 1)] [] (.again 0
 [44,45,46,49]))
def zxp:T :=
 .ite 54 (.ret [.c (.nil 1),.c (.b false)]) (.lets [.mk 1 [[50]]] [] (.lets [.app 1 47 55] [] (.lets [.bin .add 48 (zI 1)] [] (.again 1 [45,.v
 46,56,57]))))
def zeh:T :=
 .lets [.bin .geq 51 (zI 16)] [] (.ite 52 (.ret [.c (.nil 1),.c (.b false)]) (.lets [.call 40 [50] 0] [] (.lets [.not 53] [] zxp)))
def z5i:T :=
 .ite 49 (.lets [] [.inr 1 43 48] (.lets [.idx 43 48 0] [] (.lets [.len 47] [] zeh))) (.lets [.bin .add 20 (zI 1)] [] (.again 0
 [45,46,47,50]))
def zxq:T :=
 .ite 55 (.ret [.c (.nil 1),.c (.b false)]) (.lets [.mk 1 [[51]]] [] (.lets [.app 1 48 56] [] (.lets [.bin .add 49 (zI 1)] [] (.again 1 [46,.v
 47,57,58]))))
def zxr:T :=
 .lets [.bin .geq 52 (zI 16)] [] (.ite 53 (.ret [.c (.nil 1),.c (.b false)]) (.lets [.call 40 [51] 0] [] (.lets [.not 54] [] zxq)))
def zei:T :=
 .ite 50 (.lets [] [.inr 1 44 49] (.lets [.idx 44 49 0] [] (.lets [.len 48] [] zxr))) (.lets [.bin .add 20 (zI 1)] [] (.again 0
 [46,47,48,51]))
def zxs:T :=
 .ite 57 (.ret [.c (.nil 1),.c (.b false)]) (.lets [.mk 1 [[53]]] [] (.lets [.app 1 50 58] [] (.lets [.bin .add 51 (zI 1)] [] (.again 1 [48,.v
 49,59,60]))))
def zd9:T :=
 .lets [.bin .geq 54 (zI 16)] [] (.ite 55 (.ret [.c (.nil 1),.c (.b false)]) (.lets [.call 40 [53] 0] [] (.lets [.not 56] [] zxs)))
def z6u:T :=
 .ite 52 (.lets [] [.inr 1 46 51] (.lets [.idx 46 51 0] [] (.lets [.len 50] [] zd9))) (.lets [.bin .add 20 (zI 1)] [] (.again 0
 [48,49,50,53]))
def zsr:T :=
 .lets [.bin .add 34 37] [] (.lets [.mk 1 [[45]]] [] (.lets [.len 46] [] (.loop [17,18,40,zI 0] (.lets [.bin .lss 51 47] []
 z6u))))
def zss:T :=
 .ite 58 (.ret [.c (.nil 1),.c (.b false)]) (.lets [.mk 1 [[54]]] [] (.lets [.app 1 51 59] [] (.lets [.bin .add 52 (zI 1)] [] (.again 1 [49,.v
 50,60,61]))))
def zst:T :=
 .lets [.bin .geq 55 (zI 16)] [] (.ite 56 (.ret [.c (.nil 1),.c (.b false)]) (.lets [.call 40 [54] 0] [] (.lets [.not 57] [] zss)))
def zsu:T :=
 .ite 53 (.lets [] [.inr 1 47 52] (.lets [.idx 47 52 0] [] (.lets [.len 51] [] zst))) (.lets [.bin .add 20 (zI 1)] [] (.again 0
 [49,50,51,54]))
def zsv:T :=
 .lets [.bin .sub 34 37] [] (.lets [.mk 1 [[46]]] [] (.lets [.len 47] [] (.loop [17,18,40,zI 0] (.lets [.bin .lss 52 48] []
 zsu))))
def zsw:T :=
 .ite 59 (.ret [.c (.nil 1),.c (.b false)]) (.lets [.mk 1 [[55]]] [] (.lets [.app 1 52 60] [] (.lets [.bin .add 53 (zI 1)] [] (.again 1 [50,.v
 51,61,62]))))
def zda:T :=
 .lets [.bin .geq 56 (zI 16)] [] (.ite 57 (.ret [.c (.nil 1),.c (.b false)]) (.lets [.call 40 [55] 0] [] (.lets [.not 58] [] zsw)))
def z6v:T :=
 .ite 54 (.lets [] [.inr 1 48 53] (.lets [.idx 48 53 0] [] (.lets [.len 52] [] zda))) (.lets [.bin .add 20 (zI 1)] [] (.again 0
 [50,51,52,55]))
def zsx:T :=
 .ite 47 (.lets [.mk 1 [[zI 1]]] [] (.lets [.len 48] [] (.loop [17,18,40,zI 0] (.lets [.bin .lss 53 49] [] z6v)))) (.lets
 [.mk 1 [[zI 0]]] [] (.lets [.len 48] [] (.loop [17,18,40,zI 0] (.lets [.bin .lss 53 49] [] z6v))))
def zsy:T :=
 .ite 60 (.ret [.c (.nil 1),.c (.b false)]) (.lets [.mk 1 [[56]]] [] (.lets [.app 1 53 61] [] (.lets [.bin .add 54 (zI 1)] [] (.again 1 [51,.v
 52,62,63]))))
def zdb:T :=
 .lets [.bin .geq 57 (zI 16)] [] (.ite 58 (.ret [.c (.nil 1),.c (.b false)]) (.lets [.call 40 [56] 0] [] (.lets [.not 59] [] zsy)))
def z9j:T :=
 .ite 55 (.lets [] [.inr 1 49 54] (.lets [.idx 49 54 0] [] (.lets [.len 53] [] zdb))) (.lets [.bin .add 20 (zI 1)] [] (.again 0
 [51,52,53,56]))
def zsz:T :=
 .ite 48 (.lets [.mk 1 [[zI 1]]] [] (.lets [.len 49] [] (.loop [17,18,40,zI 0] (.lets [.bin .lss 54 50] [] z9j)))) (.lets
 [.mk 1 [[zI 0]]] [] (.lets [.len 49] [] (.loop [17,18,40,zI 0] (.lets [.bin .lss 54 50] [] z9j))))
def zt0:T :=
 .ite 62 (.ret [.c (.nil 1),.c (.b false)]) (.lets [.mk 1 [[58]]] [] (.lets [.app 1 55 63] [] (.lets [.bin .add 56 (zI 1)] [] (.again 1 [53,.v
 54,64,65]))))
def zdc:T :=
 .lets [.bin .geq 59 (zI 16)] [] (.ite 60 (.ret [.c (.nil 1),.c (.b false)]) (.lets [.call 40 [58] 0] [] (.lets [.not 61] [] zt0)))
def zdd:T :=
 .ite 57 (.lets [] [.inr 1 51 56] (.lets [.idx 51 56 0] [] (.lets [.len 55] [] zdc))) (.lets [.bin .add 20 (zI 1)] [] (.again 0
 [53,54,55,58]))
def zde:T :=
 .ite 50 (.lets [.mk 1 [[zI 1]]] [] (.lets [.len 51] [] (.loop [17,18,40,zI 0] (.lets [.bin .lss 56 52] [] zdd)))) (.lets
 [.mk 1 [[zI 0]]] [] (.lets [.len 51] [] (.loop [17,18,40,zI 0] (.lets [.bin .lss 56 52] [] zdd))))
def zt1:T :=
 .ite 57 (.lets [] [.inr 1 (.c (.nil 1)) 56] (.lets [.idx (.c (.nil 1)) 56 0] [] (.lets [.len 55] [] zdc))) (.lets [.bin .add 20 (zI 1)]
 [] (.again 0 [53,54,55,58]))
def zt2:T :=
 .ite 51 (.ret [.c (.nil 1),.c (.b false)]) (.lets [.len (.c (.nil 1))] [] (.loop [17,18,40,zI 0] (.lets [.bin .lss 56 52] [] zt1)))
def zt3:T :=
 .ite 63 (.ret [.c (.nil 1),.c (.b false)]) (.lets [.mk 1 [[59]]] [] (.lets [.app 1 56 64] [] (.lets [.bin .add 57 (zI 1)] [] (.again 1 [54,.v
 55,65,66]))))
def zdf:T :=
 .lets [.bin .geq 60 (zI 16)] [] (.ite 61 (.ret [.c (.nil 1),.c (.b false)]) (.lets [.call 40 [59] 0] [] (.lets [.not 62] [] zt3)))
def zt4:T :=
 .ite 58 (.lets [] [.inr 1 52 57] (.lets [.idx 52 57 0] [] (.lets [.len 56] [] zdf))) (.lets [.bin .add 20 (zI 1)] [] (.again 0
 [54,55,56,59]))
def zt5:T :=
 .lets [.bin .add 57 (zI 104729)] [] (.lets [.bin .rem 58 (zI 1000003)] [] (.lets [.bin .add 55 (zI 1)] [] (.again 1 [59,60])))
def zt6:T :=
 .ite 69 (.ret [.c (.nil 1),.c (.b false)]) (.lets [.mk 1 [[65]]] [] (.lets [.app 1 62 70] [] (.lets [.bin .add 63 (zI 1)] [] (.again 2 [60,.v
 61,71,72]))))
def zt7:T :=
 .lets [.bin .geq 66 (zI 16)] [] (.ite 67 (.ret [.c (.nil 1),.c (.b false)]) (.lets [.call 40 [65] 0] [] (.lets [.not 68] [] zt6)))
def zt8:T :=
 .ite 64 (.lets [] [.inr 1 58 63] (.lets [.idx 58 63 0] [] (.lets [.len 62] [] zt7))) (.lets [.bin .add 20 (zI 1)] [] (.again 0
 [60,61,62,65]))
def zt9:T :=
 .lets [.bin .rem 54 (zI 1000001)] [] (.lets [.mk 1 [[57]]] [] (.lets [.len 58] [] (.loop [17,18,40,zI 0] (.lets [.bin .lss 63 (.v
 59)] [] zt8))))
def zta:T :=
 .loop [53,zI 0] (.lets [.bin .lss 55 (zI 3)] [] (.ite 56 (.lets [.bin .mul 54 (zI 7919)] [] zt5) zt9))
def ztb:T :=
 .ite 58 (.lets [] [.inr 1 (.c (.nil 1)) 57] (.lets [.idx (.c (.nil 1)) 57 0] [] (.lets [.len 56] [] zdf))) (.lets [.bin .add 20 (zI 1)]
 [] (.again 0 [54,55,56,59]))
def ztc:T :=
 .ite 52 (.lets [.bin .add 34 (zI 1000000)] [] zta) (.lets [.len (.c (.nil 1))] [] (.loop [17,18,40,zI 0] (.lets [.bin .lss 57
 53] [] ztb)))
def ztd:T :=
 .ite 51 (.lets [.mk 1 [[2]]] [] (.lets [.len 52] [] (.loop [17,18,40,zI 0] (.lets [.bin .lss 57 53] [] zt4)))) (.lets [.bin
 .eql 22 (zI 13)] [] ztc)
def zte:T :=
 .lets [.bin .eql 22 (zI 11)] [] (.ite 50 (.lets [.bin .eql 34 (zI 0)] [] zt2) (.lets [.bin .eql 22 (zI 12)] []
 ztd))
def ztf:T :=
 .ite 48 (.lets [.bin .mul 34 37] [] (.lets [.bin .neq 49 (zI 0)] [] zde)) (.lets [.bin .eql 22 (zI 9)] [] (.ite 49 (.lets
 [.bin .eql 34 (zI 0)] [] zde) zte))
def ztg:T :=
 .lets [.bin .eql 22 (zI 8)] [] (.ite 47 (.lets [.bin .lss 34 37] [] zsz) (.lets [.bin .eql 22 (zI 10)] [] ztf))
def zth:T :=
 .lets [.bin .eql 22 (zI 6)] [] (.ite 45 zsv (.lets [.bin .eql 22 (zI 7)] [] (.ite 46 (.lets [.bin .eql 34 37] []
 zsx) ztg)))
def zti:T :=
 .ite 43 (.lets [.mk 1 [[37],[34]]] [] (.lets [.len 44] [] (.loop [17,18,40,zI 0] (.lets [.bin .lss 49 45] [] zei)))) (.lets
 [.bin .eql 22 (zI 5)] [] (.ite 44 zsr zth))
def ztj:T :=
 .ite 42 (.lets [.mk 1 [[34],[34]]] [] (.lets [.len 43] [] (.loop [17,18,40,zI 0] (.lets [.bin .lss 48 44] [] z5i)))) (.lets
 [.bin .eql 22 (zI 3)] [] zti)
def ztk:T :=
 .ite 41 (.lets [.mk 1 [[23]]] [] (.lets [.len 42] [] (.loop [17,18,40,zI 0] (.lets [.bin .lss 47 43] [] z5h)))) (.lets [.bin
 .eql 22 (zI 2)] [] ztj)
def ztl:T :=
 .lets [.len 19] [] (.lets [.bin .sub 38 24] [] (.lets [.sub 1 19 none (some 39)] [] (.lets [.bin .eql 22 (zI 1)] [] ztk)))
def ztm:T :=
 .lets [.idx 19 33 0] [] (.lets [.len 19] [] (.lets [.bin .sub 35 (zI 1)] [] (.lets [] [.inr 1 19 36] (.lets [.idx 19 36 0] []
 ztl))))
def ztn:T :=
 .ite 47 (.ret [.c (.nil 1),.c (.b false)]) (.lets [.mk 1 [[43]]] [] (.lets [.app 1 40 48] [] (.lets [.bin .add 41 (zI 1)] [] (.again 1 [38,.v
 39,49,50]))))
def zto:T :=
 .lets [.bin .geq 44 (zI 16)] [] (.ite 45 (.ret [.c (.nil 1),.c (.b false)]) (.lets [.call 40 [43] 0] [] (.lets [.not 46] [] ztn)))
def ztp:T :=
 .ite 42 (.lets [] [.inr 1 36 41] (.lets [.idx 36 41 0] [] (.lets [.len 40] [] zto))) (.lets [.bin .add 20 (zI 1)] [] (.again 0
 [38,39,40,43]))
def ztq:T :=
 .ite 48 (.ret [.c (.nil 1),.c (.b false)]) (.lets [.mk 1 [[44]]] [] (.lets [.app 1 41 49] [] (.lets [.bin .add 42 (zI 1)] [] (.again 1 [39,.v
 40,50,51]))))
def ztr:T :=
 .lets [.bin .geq 45 (zI 16)] [] (.ite 46 (.ret [.c (.nil 1),.c (.b false)]) (.lets [.call 40 [44] 0] [] (.lets [.not 47] [] ztq)))
def zdg:T :=
 .ite 43 (.lets [] [.inr 1 37 42] (.lets [.idx 37 42 0] [] (.lets [.len 41] [] ztr))) (.lets [.bin .add 20 (zI 1)] [] (.again 0
 [39,40,41,44]))
def zts:T :=
 .ite 49 (.ret [.c (.nil 1),.c (.b false)]) (.lets [.mk 1 [[45]]] [] (.lets [.app 1 42 50] [] (.lets [.bin .add 43 (zI 1)] [] (.again 1 [40,.v
 41,51,52]))))
def ztt:T :=
 .lets [.bin .geq 46 (zI 16)] [] (.ite 47 (.ret [.c (.nil 1),.c (.b false)]) (.lets [.call 40 [45] 0] [] (.lets [.not 48] [] zts)))
def z9k:T :=
 .ite 44 (.lets [] [.inr 1 38 43] (.lets [.idx 38 43 0] [] (.lets [.len 42] [] ztt))) (.lets [.bin .add 20 (zI 1)] [] (.again 0
 [40,41,42,45]))
def ztu:T :=
 .lets [.mk 1 [[zI 0],[30]]] [] (.lets [.len 38] [] (.loop [17,18,34,zI 0] (.lets [.bin .lss 43 39] [] z9k)))
def ztv:T :=
 .ite 51 (.ret [.c (.nil 1),.c (.b false)]) (.lets [.mk 1 [[47]]] [] (.lets [.app 1 44 52] [] (.lets [.bin .add 45 (zI 1)] [] (.again 1 [42,.v
 43,53,54]))))
def ztw:T :=
 .lets [.bin .geq 48 (zI 16)] [] (.ite 49 (.ret [.c (.nil 1),.c (.b false)]) (.lets [.call 40 [47] 0] [] (.lets [.not 50] [] ztv)))
def z6w:T :=
 .ite 46 (.lets [] [.inr 1 40 45] (.lets [.idx 40 45 0] [] (.lets [.len 44] [] ztw))) (.lets [.bin .add 20 (zI 1)] [] (.again 0
 [42,43,44,47]))
def zty:T :=
 .lets [.bin .add 30 (zI 0)] [] (.lets [.mk 1 [[39]]] [] (.lets [.len 40] [] (.loop [17,18,34,zI 0] (.lets [.bin .lss 45 41] []
 z6w))))
def ztz:T :=
 .ite 52 (.ret [.c (.nil 1),.c (.b false)]) (.lets [.mk 1 [[48]]] [] (.lets [.app 1 45 53] [] (.lets [.bin .add 46 (zI 1)] [] (.again 1 [43,.v
 44,54,55]))))
def zu0:T :=
 .lets [.bin .geq 49 (zI 16)] [] (.ite 50 (.ret [.c (.nil 1),.c (.b false)]) (.lets [.call 40 [48] 0] [] (.lets [.not 51] [] ztz)))
def z9l:T :=
 .ite 47 (.lets [] [.inr 1 41 46] (.lets [.idx 41 46 0] [] (.lets [.len 45] [] zu0))) (.lets [.bin .add 20 (zI 1)] [] (.again 0
 [43,44,45,48]))
def zu1:T :=
 .lets [.bin .sub 30 (zI 0)] [] (.lets [.mk 1 [[40]]] [] (.lets [.len 41] [] (.loop [17,18,34,zI 0] (.lets [.bin .lss 46 42] []
 z9l))))
def zu2:T :=
 .ite 41 (.lets [.mk 1 [[zI 1]]] [] (.lets [.len 42] [] (.loop [17,18,34,zI 0] (.lets [.bin .lss 47 43] [] z5h)))) (.lets
 [.mk 1 [[zI 0]]] [] (.lets [.len 42] [] (.loop [17,18,34,zI 0] (.lets [.bin .lss 47 43] [] z5h))))
def zu3:T :=
 .ite 42 (.lets [.mk 1 [[zI 1]]] [] (.lets [.len 43] [] (.loop [17,18,34,zI 0] (.lets [.bin .lss 48 44] [] z5i)))) (.lets
 [.mk 1 [[zI 0]]] [] (.lets [.len 43] [] (.loop [17,18,34,zI 0] (.lets [.bin .lss 48 44] [] z5i))))
def zu4:T :=
 .ite 56 (.ret [.c (.nil 1),.c (.b false)]) (.lets [.mk 1 [[52]]] [] (.lets [.app 1 49 57] [] (.lets [.bin .add 50 (zI 1)] [] (.again 1 [47,.v
 48,58,59]))))
def zdh:T :=
 .lets [.bin .geq 53 (zI 16)] [] (.ite 54 (.ret [.c (.nil 1),.c (.b false)]) (.lets [.call 40 [52] 0] [] (.lets [.not 55] [] zu4)))
def z6x:T :=
 .ite 51 (.lets [] [.inr 1 45 50] (.lets [.idx 45 50 0] [] (.lets [.len 49] [] zdh))) (.lets [.bin .add 20 (zI 1)] [] (.again 0
 [47,48,49,52]))
def zdi:T :=
 .ite 44 (.lets [.mk 1 [[zI 1]]] [] (.lets [.len 45] [] (.loop [17,18,34,zI 0] (.lets [.bin .lss 50 46] [] z6x)))) (.lets
 [.mk 1 [[zI 0]]] [] (.lets [.len 45] [] (.loop [17,18,34,zI 0] (.lets [.bin .lss 50 46] [] z6x))))
def zu5:T :=
 .ite 51 (.lets [] [.inr 1 (.c (.nil 1)) 50] (.lets [.idx (.c (.nil 1)) 50 0] [] (.lets [.len 49] [] zdh))) (.lets [.bin .add 20 (zI 1)]
 [] (.again 0 [47,48,49,52]))
def zu6:T :=
 .ite 45 (.ret [.c (.nil 1),.c (.b false)]) (.lets [.len (.c (.nil 1))] [] (.loop [17,18,34,zI 0] (.lets [.bin .lss 50 46] [] zu5)))
def zu7:T :=
 .lets [.bin .add 51 (zI 104729)] [] (.lets [.bin .rem 52 (zI 1000003)] [] (.lets [.bin .add 49 (zI 1)] [] (.again 1 [53,54])))
def zu8:T :=
 .ite 63 (.ret [.c (.nil 1),.c (.b false)]) (.lets [.mk 1 [[59]]] [] (.lets [.app 1 56 64] [] (.lets [.bin .add 57 (zI 1)] [] (.again 2 [54,.v
 55,65,66]))))
def zu9:T :=
 .lets [.bin .geq 60 (zI 16)] [] (.ite 61 (.ret [.c (.nil 1),.c (.b false)]) (.lets [.call 40 [59] 0] [] (.lets [.not 62] [] zu8)))
def zua:T :=
 .ite 58 (.lets [] [.inr 1 52 57] (.lets [.idx 52 57 0] [] (.lets [.len 56] [] zu9))) (.lets [.bin .add 20 (zI 1)] [] (.again 0
 [54,55,56,59]))
def zub:T :=
 .lets [.bin .rem 48 (zI 1000001)] [] (.lets [.mk 1 [[51]]] [] (.lets [.len 52] [] (.loop [17,18,34,zI 0] (.lets [.bin .lss 57 (.v
 53)] [] zua))))
def zuc:T :=
 .loop [47,zI 0] (.lets [.bin .lss 49 (zI 3)] [] (.ite 50 (.lets [.bin .mul 48 (zI 7919)] [] zu7) zub))
def zud:T :=
 .ite 52 (.lets [] [.inr 1 (.c (.nil 1)) 51] (.lets [.idx (.c (.nil 1)) 51 0] [] (.lets [.len 50] [] zd9))) (.lets [.bin .add 20 (zI 1)]
 [] (.again 0 [48,49,50,53]))
def zue:T :=
 .ite 46 (.lets [.bin .add 30 (zI 1000000)] [] zuc) (.lets [.len (.c (.nil 1))] [] (.loop [17,18,34,zI 0] (.lets [.bin .lss 51
 47] [] zud)))
def zuf:T :=
 .ite 45 (.lets [.mk 1 [[2]]] [] (.lets [.len 46] [] (.loop [17,18,34,zI 0] (.lets [.bin .lss 51 47] [] z6u)))) (.lets [.bin
 .eql 22 (zI 13)] [] zue)
def zug:T :=
 .lets [.bin .eql 22 (zI 11)] [] (.ite 44 (.lets [.bin .eql 30 (zI 0)] [] zu6) (.lets [.bin .eql 22 (zI 12)] []
 zuf))
def zuh:T :=
 .ite 42 (.lets [.bin .mul 30 (zI 0)] [] (.lets [.bin .neq 43 (zI 0)] [] zdi)) (.lets [.bin .eql 22 (zI 9)] [] (.ite (.v
 43) (.lets [.bin .eql 30 (zI 0)] [] zdi) zug))
def zui:T :=
 .lets [.bin .eql 22 (zI 8)] [] (.ite 41 (.lets [.bin .lss 30 (zI 0)] [] zu3) (.lets [.bin .eql 22 (zI 10)] []
 zuh))
def zuj:T :=
 .ite 39 zu1 (.lets [.bin .eql 22 (zI 7)] [] (.ite 40 (.lets [.bin .eql 30 (zI 0)] [] zu2) zui))
def zuk:T :=
 .ite 37 ztu (.lets [.bin .eql 22 (zI 5)] [] (.ite 38 zty (.lets [.bin .eql 22 (zI 6)] [] zuj)))
def zul:T :=
 .ite 36 (.lets [.mk 1 [[30],[30]]] [] (.lets [.len 37] [] (.loop [17,18,34,zI 0] (.lets [.bin .lss 42 38] [] zdg)))) (.lets
 [.bin .eql 22 (zI 3)] [] zuk)
def zum:T :=
 .ite 35 (.lets [.mk 1 [[23]]] [] (.lets [.len 36] [] (.loop [17,18,34,zI 0] (.lets [.bin .lss 41 37] [] ztp)))) (.lets [.bin
 .eql 22 (zI 2)] [] zul)
def zun:T :=
 .lets [.len 19] [] (.lets [.bin .sub 32 24] [] (.lets [.sub 1 19 none (some 33)] [] (.lets [.bin .eql 22 (zI 1)] [] zum)))
def zuo:T :=
 .lets [.bin .eql 24 (zI 2)] [] (.ite 31 (.lets [.len 19] [] (.lets [.bin .sub 32 (zI 2)] [] (.lets [] [.inr 1 19 33]
 ztm))) zun)
def zup:T :=
 .ite 50 (.ret [.c (.nil 1),.c (.b false)]) (.lets [.mk 1 [[46]]] [] (.lets [.app 1 43 51] [] (.lets [.bin .add 44 (zI 1)] [] (.again 1 [41,.v
 42,52,53]))))
def zuq:T :=
 .lets [.bin .geq 47 (zI 16)] [] (.ite 48 (.ret [.c (.nil 1),.c (.b false)]) (.lets [.call 40 [46] 0] [] (.lets [.not 49] [] zup)))
def zur:T :=
 .ite 45 (.lets [] [.inr 1 39 44] (.lets [.idx 39 44 0] [] (.lets [.len 43] [] zuq))) (.lets [.bin .add 20 (zI 1)] [] (.again 0
 [41,42,43,46]))
def zus:T :=
 .lets [.bin .add 31 34] [] (.lets [.mk 1 [[42]]] [] (.lets [.len 43] [] (.loop [17,18,37,zI 0] (.lets [.bin .lss 48 44] []
 z5i))))
def zkj:T :=
 .lets [.bin .sub 31 34] [] (.lets [.mk 1 [[43]]] [] (.lets [.len 44] [] (.loop [17,18,37,zI 0] (.lets [.bin .lss 49 45] []
 zei))))
def zkk:T :=
 .ite 44 (.lets [.mk 1 [[zI 1]]] [] (.lets [.len 45] [] (.loop [17,18,37,zI 0] (.lets [.bin .lss 50 46] [] z6x)))) (.lets
 [.mk 1 [[zI 0]]] [] (.lets [.len 45] [] (.loop [17,18,37,zI 0] (.lets [.bin .lss 50 46] [] z6x))))
def zkl:T :=
 .ite 45 (.lets [.mk 1 [[zI 1]]] [] (.lets [.len 46] [] (.loop [17,18,37,zI 0] (.lets [.bin .lss 51 47] [] z6u)))) (.lets
 [.mk 1 [[zI 0]]] [] (.lets [.len 46] [] (.loop [17,18,37,zI 0] (.lets [.bin .lss 51 47] [] z6u))))
def zc6:T :=
 .ite 47 (.lets [.mk 1 [[zI 1]]] [] (.lets [.len 48] [] (.loop [17,18,37,zI 0] (.lets [.bin .lss 53 49] [] z6v)))) (.lets
 [.mk 1 [[zI 0]]] [] (.lets [.len 48] [] (.loop [17,18,37,zI 0] (.lets [.bin .lss 53 49] [] z6v))))
def zkm:T :=
 .ite 54 (.lets [] [.inr 1 (.c (.nil 1)) 53] (.lets [.idx (.c (.nil 1)) 53 0] [] (.lets [.len 52] [] zda))) (.lets [.bin .add 20 (zI 1)]
 [] (.again 0 [50,51,52,55]))
def zkn:T :=
 .ite 48 (.ret [.c (.nil 1),.c (.b false)]) (.lets [.len (.c (.nil 1))] [] (.loop [17,18,37,zI 0] (.lets [.bin .lss 53 49] [] zkm)))
def zko:T :=
 .lets [.bin .add 54 (zI 104729)] [] (.lets [.bin .rem 55 (zI 1000003)] [] (.lets [.bin .add 52 (zI 1)] [] (.again 1 [56,57])))
def zkp:T :=
 .ite 66 (.ret [.c (.nil 1),.c (.b false)]) (.lets [.mk 1 [[62]]] [] (.lets [.app 1 59 67] [] (.lets [.bin .add 60 (zI 1)] [] (.again 2 [57,.v
 58,68,69]))))
def zkq:T :=
 .lets [.bin .geq 63 (zI 16)] [] (.ite 64 (.ret [.c (.nil 1),.c (.b false)]) (.lets [.call 40 [62] 0] [] (.lets [.not 65] [] zkp)))
def zkr:T :=
 .ite 61 (.lets [] [.inr 1 55 60] (.lets [.idx 55 60 0] [] (.lets [.len 59] [] zkq))) (.lets [.bin .add 20 (zI 1)] [] (.again 0
 [57,58,59,62]))
def zks:T :=
 .lets [.bin .rem 51 (zI 1000001)] [] (.lets [.mk 1 [[54]]] [] (.lets [.len 55] [] (.loop [17,18,37,zI 0] (.lets [.bin .lss 60 (.v
 56)] [] zkr))))
def zkt:T :=
 .loop [50,zI 0] (.lets [.bin .lss 52 (zI 3)] [] (.ite 53 (.lets [.bin .mul 51 (zI 7919)] [] zko) zks))
def zku:T :=
 .ite 55 (.lets [] [.inr 1 (.c (.nil 1)) 54] (.lets [.idx (.c (.nil 1)) 54 0] [] (.lets [.len 53] [] zdb))) (.lets [.bin .add 20 (zI 1)]
 [] (.again 0 [51,52,53,56]))
def zkv:T :=
 .ite 49 (.lets [.bin .add 31 (zI 1000000)] [] zkt) (.lets [.len (.c (.nil 1))] [] (.loop [17,18,37,zI 0] (.lets [.bin .lss (.v
 54) 50] [] zku)))
def zkw:T :=
 .ite 48 (.lets [.mk 1 [[2]]] [] (.lets [.len 49] [] (.loop [17,18,37,zI 0] (.lets [.bin .lss 54 50] [] z9j)))) (.lets [.bin
 .eql 22 (zI 13)] [] zkv)
def zkx:T :=
 .lets [.bin .eql 22 (zI 11)] [] (.ite 47 (.lets [.bin .eql 31 (zI 0)] [] zkn) (.lets [.bin .eql 22 (zI 12)] []
 zkw))
def zky:T :=
 .ite 45 (.lets [.bin .mul 31 34] [] (.lets [.bin .neq 46 (zI 0)] [] zc6)) (.lets [.bin .eql 22 (zI 9)] [] (.ite 46 (.lets
 [.bin .eql 31 (zI 0)] [] zc6) zkx))
def zkz:T :=
 .lets [.bin .eql 22 (zI 8)] [] (.ite 44 (.lets [.bin .lss 31 34] [] zkl) (.lets [.bin .eql 22 (zI 10)] [] zky))
def zl0:T :=
 .lets [.bin .eql 22 (zI 6)] [] (.ite 42 zkj (.lets [.bin .eql 22 (zI 7)] [] (.ite 43 (.lets [.bin .eql 31 34] []
 zkk) zkz)))
def zl1:T :=
 .ite 40 (.lets [.mk 1 [[34],[31]]] [] (.lets [.len 41] [] (.loop [17,18,37,zI 0] (.lets [.bin .lss 46 42] [] z9l)))) (.lets
 [.bin .eql 22 (zI 5)] [] (.ite 41 zus zl0))
def zl2:T :=
 .ite 39 (.lets [.mk 1 [[31],[31]]] [] (.lets [.len 40] [] (.loop [17,18,37,zI 0] (.lets [.bin .lss 45 41] [] z6w)))) (.lets
 [.bin .eql 22 (zI 3)] [] zl1)
def zl3:T :=
 .ite 38 (.lets [.mk 1 [[23]]] [] (.lets [.len 39] [] (.loop [17,18,37,zI 0] (.lets [.bin .lss 44 40] [] zur)))) (.lets [.bin
 .eql 22 (zI 2)] [] zl2)
def zl4:T :=
 .lets [.len 19] [] (.lets [.bin .sub 35 24] [] (.lets [.sub 1 19 none (some 36)] [] (.lets [.bin .eql 22 (zI 1)] [] zl3)))
def zl5:T :=
 .lets [.idx 19 30 0] [] (.lets [.len 19] [] (.lets [.bin .sub 32 (zI 1)] [] (.lets [] [.inr 1 19 33] (.lets [.idx 19 33 0] []
 zl4))))
def zl6:T :=
 .ite 44 (.ret [.c (.nil 1),.c (.b false)]) (.lets [.mk 1 [[40]]] [] (.lets [.app 1 37 45] [] (.lets [.bin .add 38 (zI 1)] [] (.again 1 [35,.v
 36,46,47]))))
def zl7:T :=
 .lets [.bin .geq 41 (zI 16)] [] (.ite 42 (.ret [.c (.nil 1),.c (.b false)]) (.lets [.call 40 [40] 0] [] (.lets [.not 43] [] zl6)))
def zl8:T :=
 .ite 39 (.lets [] [.inr 1 33 38] (.lets [.idx 33 38 0] [] (.lets [.len 37] [] zl7))) (.lets [.bin .add 20 (zI 1)] [] (.again 0
 [35,36,37,40]))
def zl9:T :=
 .ite 45 (.ret [.c (.nil 1),.c (.b false)]) (.lets [.mk 1 [[41]]] [] (.lets [.app 1 38 46] [] (.lets [.bin .add 39 (zI 1)] [] (.again 1 [36,.v
 37,47,48]))))
def zla:T :=
 .lets [.bin .geq 42 (zI 16)] [] (.ite 43 (.ret [.c (.nil 1),.c (.b false)]) (.lets [.call 40 [41] 0] [] (.lets [.not 44] [] zl9)))
def zlb:T :=
 .ite 40 (.lets [] [.inr 1 34 39] (.lets [.idx 34 39 0] [] (.lets [.len 38] [] zla))) (.lets [.bin .add 20 (zI 1)] [] (.again 0
 [36,37,38,41]))
def zlc:T :=
 .lets [.mk 1 [[zI 0],[zI 0]]] [] (.lets [.len 34] [] (.loop [17,18,31,zI 0] (.lets [.bin .lss 39 35] [] zlb)))
def zld:T :=
 .ite 46 (.ret [.c (.nil 1),.c (.b false)]) (.lets [.mk 1 [[42]]] [] (.lets [.app 1 39 47] [] (.lets [.bin .add 40 (zI 1)] [] (.again 1 [37,.v
 38,48,49]))))
def zle:T :=
 .lets [.bin .geq 43 (zI 16)] [] (.ite 44 (.ret [.c (.nil 1),.c (.b false)]) (.lets [.call 40 [42] 0] [] (.lets [.not 45] [] zld)))
def zlf:T :=
 .ite 41 (.lets [] [.inr 1 35 40] (.lets [.idx 35 40 0] [] (.lets [.len 39] [] zle))) (.lets [.bin .add 20 (zI 1)] [] (.again 0
 [37,38,39,42]))
def zlg:T :=
 .lets [.mk 1 [[zI 0],[zI 0]]] [] (.lets [.len 35] [] (.loop [17,18,31,zI 0] (.lets [.bin .lss 40 36] [] zlf)))
def zlh:T :=
 .lets [.bin .add (zI 0) (zI 0)] [] (.lets [.mk 1 [[36]]] [] (.lets [.len 37] [] (.loop [17,18,31,zI 0] (.lets [.bin .lss 42
 38] [] zdg))))
def zli:T :=
 .lets [.bin .sub (zI 0) (zI 0)] [] (.lets [.mk 1 [[37]]] [] (.lets [.len 38] [] (.loop [17,18,31,zI 0] (.lets [.bin .lss 43
 39] [] z9k))))
def zlj:T :=
 .ite 39 (.lets [.mk 1 [[zI 1]]] [] (.lets [.len 40] [] (.loop [17,18,31,zI 0] (.lets [.bin .lss 45 41] [] z6w)))) (.lets
 [.mk 1 [[zI 0]]] [] (.lets [.len 40] [] (.loop [17,18,31,zI 0] (.lets [.bin .lss 45 41] [] z6w))))
def zlk:T :=
 .ite 41 (.lets [.mk 1 [[zI 1]]] [] (.lets [.len 42] [] (.loop [17,18,31,zI 0] (.lets [.bin .lss 47 43] [] z5h)))) (.lets
 [.mk 1 [[zI 0]]] [] (.lets [.len 42] [] (.loop [17,18,31,zI 0] (.lets [.bin .lss 47 43] [] z5h))))
def zll:T :=
 .lets [.bin .add 48 (zI 104729)] [] (.lets [.bin .rem 49 (zI 1000003)] [] (.lets [.bin .add 46 (zI 1)] [] (.again 1 [50,51])))
def zlm:T :=
 .ite 60 (.ret [.c (.nil 1),.c (.b false)]) (.lets [.mk 1 [[56]]] [] (.lets [.app 1 53 61] [] (.lets [.bin .add 54 (zI 1)] [] (.again 2 [51,.v
 52,62,63]))))
def zln:T :=
 .lets [.bin .geq 57 (zI 16)] [] (.ite 58 (.ret [.c (.nil 1),.c (.b false)]) (.lets [.call 40 [56] 0] [] (.lets [.not 59] [] zlm)))
def zlo:T :=
 .ite 55 (.lets [] [.inr 1 49 54] (.lets [.idx 49 54 0] [] (.lets [.len 53] [] zln))) (.lets [.bin .add 20 (zI 1)] [] (.again 0
 [51,52,53,56]))
def zlp:T :=
 .lets [.bin .rem 45 (zI 1000001)] [] (.lets [.mk 1 [[48]]] [] (.lets [.len 49] [] (.loop [17,18,31,zI 0] (.lets [.bin .lss 54 (.v
 50)] [] zlo))))
def zlq:T :=
 .loop [44,zI 0] (.lets [.bin .lss 46 (zI 3)] [] (.ite 47 (.lets [.bin .mul 45 (zI 7919)] [] zll) zlp))
def zlr:T :=
 .ite 49 (.lets [] [.inr 1 (.c (.nil 1)) 48] (.lets [.idx (.c (.nil 1)) 48 0] [] (.lets [.len 47] [] zeh))) (.lets [.bin .add 20 (zI 1)] []
 (.again 0 [45,46,47,50]))
def zls:T :=
 .ite 43 (.lets [.bin .add (zI 0) (zI 1000000)] [] zlq) (.lets [.len (.c (.nil 1))] [] (.loop [17,18,31,zI 0] (.lets [.bin
 .lss 48 44] [] zlr)))
def zlt:T :=
 .ite 42 (.lets [.mk 1 [[2]]] [] (.lets [.len 43] [] (.loop [17,18,31,zI 0] (.lets [.bin .lss 48 44] [] z5i)))) (.lets [.bin .eql
 22 (zI 13)] [] zls)
def zlu:T :=
 .ite 40 (.lets [.mk 1 [[zI 1]]] [] (.lets [.len 41] [] (.loop [17,18,31,zI 0] (.lets [.bin .lss 46 42] [] z9l)))) (.lets
 [.bin .eql 22 (zI 11)] [] (.ite 41 (.ret [.c (.nil 1),.c (.b false)]) (.lets [.bin .eql 22 (zI 12)] [] zlt)))
def zlv:T :=
 .ite 39 (.lets [.bin .mul (zI 0) (zI 0)] [] (.lets [.bin .neq 40 (zI 0)] [] zlk)) (.lets [.bin .eql 22 (zI 9)] []
 zlu)
def zlw:T :=
 .lets [.bin .eql 22 (zI 8)] [] (.ite 38 (.lets [.bin .lss (zI 0) (zI 0)] [] zlj) (.lets [.bin .eql 22 (zI 10)] []
 zlv))
def zlx:T :=
 .ite 37 (.lets [.mk 1 [[zI 1]]] [] (.lets [.len 38] [] (.loop [17,18,31,zI 0] (.lets [.bin .lss 43 39] [] z9k))))
 zlw
def zly:T :=
 .ite 35 zlh (.lets [.bin .eql 22 (zI 6)] [] (.ite 36 zli (.lets [.bin .eql 22 (zI 7)] [] zlx)))
def zlz:T :=
 .ite 33 zlc (.lets [.bin .eql 22 (zI 3)] [] (.ite 34 zlg (.lets [.bin .eql 22 (zI 5)] [] zly)))
def zm0:T :=
 .ite 32 (.lets [.mk 1 [[23]]] [] (.lets [.len 33] [] (.loop [17,18,31,zI 0] (.lets [.bin .lss 38 34] [] zl8)))) (.lets [.bin
 .eql 22 (zI 2)] [] zlz)
def zm1:T :=
 .lets [.len 19] [] (.lets [.bin .sub 29 24] [] (.lets [.sub 1 19 none (some 30)] [] (.lets [.bin .eql 22 (zI 1)] [] zm0)))
def zm2:T :=
 .lets [.bin .eql 24 (zI 2)] [] (.ite 28 (.lets [.len 19] [] (.lets [.bin .sub 29 (zI 2)] [] (.lets [] [.inr 1 19 30]
 zl5))) zm1)
def zm3:T :=
 .ite 27 (.lets [.len 19] [] (.lets [.bin .sub 28 (zI 1)] [] (.lets [] [.inr 1 19 29] (.lets [.idx 19 29 0] [] zuo))))
 zm2
def zm4:T :=
 .lets [.len 19] [] (.lets [.bin .lss 25 24] [] (.ite 26 (.ret [.c (.nil 1),.c (.b false)]) (.lets [.bin .eql 24 (zI 1)] [] zm3)))
def zm5:T :=
 .ite 21 (.lets [] [.inr 2 0 20] (.lets [.idx 0 20 0,.idx 0 20 1] [] (.lets [.mget [.i .i64 0] 15 22 0] [] zm4))) (.ret [.v
 19,.c (.b true)])
def zm6:T :=
 .lets [.mput 1 14 (zI 13) [zI 1]] [] (.lets [.len 0] [] (.loop [.c (.nil 1),.c (.b false),4,zI 0] (.lets [.bin .lss 20 16] []
 zm5)))
def zm7:T :=
 .lets [.mput 1 11 (zI 9) [zI 1]] [] (.lets [.mput 1 12 (zI 10) [zI 2]] [] (.lets [.mput 1 13 (zI 11) [.c (.i .i64
 1)]] [] zm6))
def zm8:T :=
 .lets [.mput 1 8 (zI 6) [zI 2]] [] (.lets [.mput 1 9 (zI 7) [zI 2]] [] (.lets [.mput 1 10 (zI 8) [zI 2]]
 [] zm7))
def zm9:T :=
 .lets [.mput 1 5 (zI 3) [zI 2]] [] (.lets [.mput 1 6 (zI 4) [zI 1]] [] (.lets [.mput 1 7 (zI 5) [zI 2]] []
 zm8))
def z0c:T :=
 .lets [.mk 1 []] [] (.lets [.app 1 3 1] [] (.lets [.mput 1 (.c (.nil 2)) (zI 2) [zI 1]] [] zm9))
def zxt:T :=
 .ite 8 (.lets [] [.inr 1 5 (zI 0)] (.lets [.idx 5 (zI 0) 0] [] (.lets [.bin .neq 9 (zI 0)] [] (.ret [10])))) (.ret [.c (.b
 false)])
def zxu:T :=
 .lets [.call 41 [0,3,2] 0,.call 41 [0,3,2] 1] [] (.ite 6 (.lets [.len 5] [] (.lets [.bin .eql 7 (zI 1)] [] zxt)) (.ret [.c
 (.b false)]))
def zdj:T :=
 .lets [.call 41 [1,.c (.nil 1),2] 0,.call 41 [1,.c (.nil 1),2] 1] [] (.ite 4 zxu (.ret [.c (.b false)]))
theorem z07z:Meets Tryz.prog z40 66 ⟨[.one],[(false,[.scal])],true⟩:=by
 refine z06 (sp:=(z0w [])) (sigs:=z17) (cut:=[]) (hints:=[]) (fn:=Tryz.f66) (t:=zhz) (by kernel_rfl) (by kernel_rfl) (by kernel_rfl) ?_ ?_
 ·exact (z0q (L:=[]) trivial)
 ·rintro ds rs - h
  obtain ⟨n,-,rfl,rfl⟩:=z01 h;clear h;refine ⟨⟨1,?_⟩,z0i rfl⟩
  show den _ _ zhz [I n] []=ret (decide (-1000000≤n∧n≤1000000))
  rw [Bool.decide_and];unfold zhz
  repeat' (first|refine dq1 ?_|refine dqc ?_|refine dqm ?_|exact z5 rfl rfl|((first|refine tR ?_ ?_|refine tB ?_ ?_|refine tC ?_ ?_|refine tN ?_ ?_|refine tF ?_ ?_|refine tG ?_ ?_|refine tP ?_ ?_|refine tQ ?_ ?_|refine tA ?_ ?_|refine tO ?_ ?_|refine tU ?_ ?_|refine tV ?_ ?_) <;> intro h)|refine dqT ?_|refine dqF ?_|refine zt rfl ?_|refine zq rfl ?_|refine z0e ?_|refine z0f ?_)
noncomputable def z8q:zh:=spD (fun x:List Op × List Int × Int=>zd x.1=0∧z11 x.2.1) fun x=>za8 (z1w x.2.2 x.2.1 x.1)
theorem zc7 (l:List Op) (s:List Int) (h:Int) (hl:zd l=0) (hs:z11 s):z8q [.l 2 (l.map eOp),.l 1 (s.map z13),I h]=some [.l 1 ((za8 (z1w h s l)).1.map z13),.b (za8 (z1w h s l)).2]:=z09 (p:=fun x:List Op × List Int × Int=>zd x.1=0∧z11 x.2.1) (f:=fun x:List Op × List Int × Int=>za8 (z1w x.2.2 x.2.1 x.1)) (l,s,h) ⟨hl,hs⟩
theorem zx {sp:Nat→zh} {E:Env} {a b:Atom} {m n y:Int} (ha:a.val E=some (I m)) (hb:b.val E=some (I n)) (h:n≠0) (hy:m.tmod n=y):denX sp E (.bin .rem a b)=some (I y):=by
 rw [zhf ha hb h,hy]
theorem z03v {o:Op} (h:z3v o=0):1≤o.kind∧o.kind≤13:=by
 unfold z3v at h
 split at h
 ·cases h
 ·split at h
  ·cases h
  ·omega
theorem z09z {l:List Op} (h:zd l=0):l.length≤16∧∀ o ∈ l,z3v o=0:=by
 have key:∀ l:List Op,z3w l=0→∀ o ∈ l,z3v o=0:=by
  intro l
  induction l with
  | nil=>intro _ o ho;cases ho
  | cons x l ih =>
   intro h;rw [z3w] at h
   split at h
   ·rename_i hx;exact absurd h hx
   ·rename_i hx
    intro o ho;rcases zY0m.1 ho with rfl|ho
    ·exact zY0w.1 hx
    ·exact ih h o ho
 unfold zd at h
 split at h
 ·cases h
 ·exact ⟨by omega,key l h⟩
noncomputable def z3g:Nat→zh:=z0w [(40,z40)]
def z16:T→T
 | .lets _ _ k=>z16 k
 | .loop _ b=>b
 | t=>t
def z6y (l:List Op) (s0:List Int) (ht:Int):Env:=[.l 2 (l.map eOp),.l 1 (s0.map z13),I ht,.l 1 [],.l 1 (s0.map z13),.l 2 [[I 2,I 1]],.l 2 [[I 2,I 1],[I 3,I 2]],.l 2 [[I 2,I 1],[I 3,I 2],[I 4,I 1]],.l 2 [[I 2,I 1],[I 3,I 2],[I 4,I 1],[I 5,I 2]],.l 2 [[I 2,I 1],[I 3,I 2],[I 4,I 1],[I 5,I 2],[I 6,I 2]],.l 2 [[I 2,I 1],[I 3,I 2],[I 4,I 1],[I 5,I 2],[I 6,I 2],[I 7,I 2]],.l 2 [[I 2,I 1],[I 3,I 2],[I 4,I 1],[I 5,I 2],[I 6,I 2],[I 7,I 2],[I 8,I 2]],.l 2 [[I 2,I 1],[I 3,I 2],[I 4,I 1],[I 5,I 2],[I 6,I 2],[I 7,I 2],[I 8,I 2],[I 9,I 1]],.l 2 [[I 2,I 1],[I 3,I 2],[I 4,I 1],[I 5,I 2],[I 6,I 2],[I 7,I 2],[I 8,I 2],[I 9,I 1],[I 10,I 2]],.l 2 [[I 2,I 1],[I 3,I 2],[I 4,I 1],[I 5,I 2],[I 6,I 2],[I 7,I 2],[I 8,I 2],[I 9,I 1],[I 10,I 2],[I 11,I 1]],.l 2 [[I 2,I 1],[I 3,I 2],[I 4,I 1],[I 5,I 2],[I 6,I 2],[I 7,I 2],[I 8,I 2],[I 9,I 1],[I 10,I 2],[I 11,I 1],[I 13,I 1]],I l.length]
def z4e (kd:Int):Prop:=∀ (l:List Op) (s0 s:List Int) (ht nn:Int) (k:Nat) (R:List Int × Bool) (again:List Dt→Option (List Dt)),l.length≤16→s.length≤16→z11 s→k<l.length→l[k]? = some ⟨kd,nn⟩ →
 (z1y ht s ⟨kd,nn⟩=none→R=([],false))→(∀ s',z1y ht s ⟨kd,nn⟩=some s'→again [.l 1 (([]:List Int).map z13),.b false,.l 1 (s'.map z13),I ((k:Int)+1)]=ret R) →
 den z3g (l.length+6) (z16 z0c) (z6y l s0 ht++[.l 1 (([]:List Int).map z13),.b false,.l 1 (s.map z13),I k]) [again]=ret R
theorem z22 {s:List Int} (hfit:z11 s):(s.length=0∧z39 s=none)∨(∃ a t,z2e a∧z39 s=some (a,t)∧(s.length:Int)=t.length+1∧s[((s.length:Int) - 1).toNat]? = some a∧s.take ((s.length:Int) - 1).toNat=t∧((t.length=0∧z39 t=none)∨∃ b u,z2e b∧z39 t=some (b,u)∧(t.length:Int)=u.length+1∧s[((s.length:Int) - 2).toNat]? = some b∧s.take ((s.length:Int) - 2).toNat=u)):=by
 by_cases h0:s.length=0
 ·exact .inl ⟨h0,z9s h0⟩
 ·obtain ⟨a,t,p1,p2,p3,p4,p5⟩:=z9t h0
  have f1:=z3b hfit p1;refine .inr ⟨a,t,f1.1,p1,p3,p4,p5,?_⟩
  by_cases h1:t.length=0
  ·exact .inl ⟨h1,z9s h1⟩
  ·obtain ⟨b,u,q1,q2,q3,q4,q5⟩:=z9t h1
   have e1:((s.length:Int) - 2).toNat=u.length:=by omega
   refine .inr ⟨b,u,(z3b f1.2 q1).1,q1,q3,?_,?_⟩
   ·rw [e1,p2,q2];simp
   ·rw [e1,p2,q2];simp
theorem z7 {sp:Nat→zh} {E:Env} {z:List Lit} {a ka:Atom} {j:Nat} {l:Nat} {rows:List (List Dt)} {n:Int} {d:Dt} (ha:a.val E=some (.l l rows)) (hk:ka.val E=some (I n)) (h:(match z5m n rows with|some v=>v[j]? | none=>(z[j]?).map Lit.dt)=some d):denX sp E (.mget z a ka j)=some d:=by
 simp only [denX,ha,hk,asI];exact h
end
section
open Go.RowKit
set_option maxRecDepth 100000
set_option maxHeartbeats 8000000
attribute [local irreducible] z0p spD z14 z6n z0v z40
attribute [local irreducible] den denX z1b z1q
theorem z080:z4e 1:=by
 intro l s0 s ht nn k R again' hl16 hsl hfit hk hx hF hO;have hcase:=z22 hfit;have hs0t:s.take (((s.length:Nat):Int) - 0).toNat=s:=(by rw [show (((s.length:Nat):Int) - 0).toNat=s.length by omega];exact zY1c);simp only [z1y,Int.reduceEq,if_true,if_false] at hF hO;unfold z6y;with_unfolding_all show den z3g _ (z16 z0c) [_,_,_,_,_,_,_,_,_,_,_,_,_,_,_,_,_,_,_,_,_] _=_;simp only [z0c,z16]
 rcases hcase with ⟨c1,c2⟩|⟨a,t,fa,p1,p3,p4,p5,⟨c1,c2⟩|⟨b,u,fb,q1,q3,q4,q5⟩⟩
 ·try simp only [c2,z10,z15,zY07] at hF hO
  repeat' (first|refine dq1 ?_|refine dqc ?_|refine dqm ?_|refine dqK rfl (zg _) ?_|refine dqT ?_|refine dqF ?_|refine zt rfl ?_|refine zq rfl ?_|refine z0e ?_|refine z0f ?_|refine z4 (z7 (d:=I 2) rfl rfl rfl) ?_|refine z4 (z7 (d:=I 1) rfl rfl rfl) ?_|refine z4 (z7 (d:=I 0) rfl rfl rfl) ?_|refine z07 (zm rfl rfl (by omega) (by simp)) ?_|refine z4 (zo rfl rfl (by omega) rfl rfl) ?_|refine z4 (zp rfl rfl (by simp)) ?_|refine z4 (z04 rfl rfl) ?_|refine z4 (z05 rfl rfl (by omega)) ?_|refine z4 (zx rfl rfl (by decide) (by assumption)) ?_|exact z5 rfl (by rw [hF (by (repeat' (first|rfl|rw [za (by first|omega|(simp only [zY01,zY03,zY04] at *;omega))]|rw [z9 (by first|omega|(simp only [zY01,zY03,zY04] at *;omega)) (by omega) (by omega)]|rw [if_pos (by omega)]|rw [if_neg (by omega)]|simp only [zY05,zY07])))];rfl)|exact z5 rfl (by rw [hF];rfl)|exact z6 rfl rfl (hO _ (by (repeat' (first|rfl|rw [za (by first|omega|(simp only [zY01,zY03,zY04] at *;omega))]|rw [z9 (by first|omega|(simp only [zY01,zY03,zY04] at *;omega)) (by omega) (by omega)]|rw [if_pos (by omega)]|rw [if_neg (by omega)]|simp only [zY05,zY07]))))|(refine zn rfl ?_;rw [zf])|(refine z6 rfl rfl ?_;rw [zf])|refine z02 rfl (fun h=>?_) (fun h=>?_)|refine tZn (fun h=>?_) (fun h=>?_))
 ·try simp only [p1,c2,z10,z15,zY07,zY05] at hF hO
  obtain ⟨fa1,fa2⟩:=id fa
  repeat' (first|refine dq1 ?_|refine dqc ?_|refine dqm ?_|refine dqK rfl (zg _) ?_|refine dqT ?_|refine dqF ?_|refine zt rfl ?_|refine zq rfl ?_|refine z0e ?_|refine z0f ?_|refine z4 (z7 (d:=I 2) rfl rfl rfl) ?_|refine z4 (z7 (d:=I 1) rfl rfl rfl) ?_|refine z4 (z7 (d:=I 0) rfl rfl rfl) ?_|refine z07 (zm rfl rfl (by omega) (by simp)) ?_|refine z4 (zo rfl rfl (by omega) rfl rfl) ?_|refine z4 (zp rfl rfl (by simp)) ?_|refine z4 (z04 rfl rfl) ?_|refine z4 (z05 rfl rfl (by omega)) ?_|refine z4 (zx rfl rfl (by decide) (by assumption)) ?_|exact z5 rfl (by rw [hF (by (repeat' (first|rfl|rw [za (by first|omega|(simp only [zY01,zY03,zY04] at *;omega))]|rw [z9 (by first|omega|(simp only [zY01,zY03,zY04] at *;omega)) (by omega) (by omega)]|rw [if_pos (by omega)]|rw [if_neg (by omega)]|simp only [zY05,zY07])))];rfl)|exact z5 rfl (by rw [hF];rfl)|exact z6 rfl rfl (hO _ (by (repeat' (first|rfl|rw [za (by first|omega|(simp only [zY01,zY03,zY04] at *;omega))]|rw [z9 (by first|omega|(simp only [zY01,zY03,zY04] at *;omega)) (by omega) (by omega)]|rw [if_pos (by omega)]|rw [if_neg (by omega)]|simp only [zY05,zY07]))))|(refine zn rfl ?_;rw [zf])|(refine z6 rfl rfl ?_;rw [zf])|refine z02 rfl (fun h=>?_) (fun h=>?_)|refine tZn (fun h=>?_) (fun h=>?_))
 ·try simp only [p1,q1,z10,z15,zY07,zY05] at hF hO
  obtain ⟨fa1,fa2⟩:=id fa;obtain ⟨fb1,fb2⟩:=id fb
  repeat' (first|refine dq1 ?_|refine dqc ?_|refine dqm ?_|refine dqK rfl (zg _) ?_|refine dqT ?_|refine dqF ?_|refine zt rfl ?_|refine zq rfl ?_|refine z0e ?_|refine z0f ?_|refine z4 (z7 (d:=I 2) rfl rfl rfl) ?_|refine z4 (z7 (d:=I 1) rfl rfl rfl) ?_|refine z4 (z7 (d:=I 0) rfl rfl rfl) ?_|refine z07 (zm rfl rfl (by omega) (by simp)) ?_|refine z4 (zo rfl rfl (by omega) rfl rfl) ?_|refine z4 (zp rfl rfl (by simp)) ?_|refine z4 (z04 rfl rfl) ?_|refine z4 (z05 rfl rfl (by omega)) ?_|refine z4 (zx rfl rfl (by decide) (by assumption)) ?_|exact z5 rfl (by rw [hF (by (repeat' (first|rfl|rw [za (by first|omega|(simp only [zY01,zY03,zY04] at *;omega))]|rw [z9 (by first|omega|(simp only [zY01,zY03,zY04] at *;omega)) (by omega) (by omega)]|rw [if_pos (by omega)]|rw [if_neg (by omega)]|simp only [zY05,zY07])))];rfl)|exact z5 rfl (by rw [hF];rfl)|exact z6 rfl rfl (hO _ (by (repeat' (first|rfl|rw [za (by first|omega|(simp only [zY01,zY03,zY04] at *;omega))]|rw [z9 (by first|omega|(simp only [zY01,zY03,zY04] at *;omega)) (by omega) (by omega)]|rw [if_pos (by omega)]|rw [if_neg (by omega)]|simp only [zY05,zY07]))))|(refine zn rfl ?_;rw [zf])|(refine z6 rfl rfl ?_;rw [zf])|refine z02 rfl (fun h=>?_) (fun h=>?_)|refine tZn (fun h=>?_) (fun h=>?_))
theorem z081:z4e 2:=by
 intro l s0 s ht nn k R again' hl16 hsl hfit hk hx hF hO;have hcase:=z22 hfit;have hs0t:s.take (((s.length:Nat):Int) - 0).toNat=s:=(by rw [show (((s.length:Nat):Int) - 0).toNat=s.length by omega];exact zY1c);simp only [z1y,Int.reduceEq,if_true,if_false] at hF hO;unfold z6y;with_unfolding_all show den z3g _ (z16 z0c) [_,_,_,_,_,_,_,_,_,_,_,_,_,_,_,_,_,_,_,_,_] _=_;simp only [z0c,z16]
 rcases hcase with ⟨c1,c2⟩|⟨a,t,fa,p1,p3,p4,p5,⟨c1,c2⟩|⟨b,u,fb,q1,q3,q4,q5⟩⟩
 ·try simp only [c2,z10,z15,zY07] at hF hO
  repeat' (first|refine dq1 ?_|refine dqc ?_|refine dqm ?_|refine dqK rfl (zg _) ?_|refine dqT ?_|refine dqF ?_|refine zt rfl ?_|refine zq rfl ?_|refine z0e ?_|refine z0f ?_|refine z4 (z7 (d:=I 2) rfl rfl rfl) ?_|refine z4 (z7 (d:=I 1) rfl rfl rfl) ?_|refine z4 (z7 (d:=I 0) rfl rfl rfl) ?_|refine z07 (zm rfl rfl (by omega) (by simp)) ?_|refine z4 (zo rfl rfl (by omega) rfl rfl) ?_|refine z4 (zp rfl rfl (by simp)) ?_|refine z4 (z04 rfl rfl) ?_|refine z4 (z05 rfl rfl (by omega)) ?_|refine z4 (zx rfl rfl (by decide) (by assumption)) ?_|exact z5 rfl (by rw [hF (by (repeat' (first|rfl|rw [za (by first|omega|(simp only [zY01,zY03,zY04] at *;omega))]|rw [z9 (by first|omega|(simp only [zY01,zY03,zY04] at *;omega)) (by omega) (by omega)]|rw [if_pos (by omega)]|rw [if_neg (by omega)]|simp only [zY05,zY07])))];rfl)|exact z5 rfl (by rw [hF];rfl)|exact z6 rfl rfl (hO _ (by (repeat' (first|rfl|rw [za (by first|omega|(simp only [zY01,zY03,zY04] at *;omega))]|rw [z9 (by first|omega|(simp only [zY01,zY03,zY04] at *;omega)) (by omega) (by omega)]|rw [if_pos (by omega)]|rw [if_neg (by omega)]|simp only [zY05,zY07]))))|(refine zn rfl ?_;rw [zf])|(refine z6 rfl rfl ?_;rw [zf])|refine z02 rfl (fun h=>?_) (fun h=>?_)|refine tZn (fun h=>?_) (fun h=>?_))
 ·try simp only [p1,c2,z10,z15,zY07,zY05] at hF hO
  obtain ⟨fa1,fa2⟩:=id fa
  repeat' (first|refine dq1 ?_|refine dqc ?_|refine dqm ?_|refine dqK rfl (zg _) ?_|refine dqT ?_|refine dqF ?_|refine zt rfl ?_|refine zq rfl ?_|refine z0e ?_|refine z0f ?_|refine z4 (z7 (d:=I 2) rfl rfl rfl) ?_|refine z4 (z7 (d:=I 1) rfl rfl rfl) ?_|refine z4 (z7 (d:=I 0) rfl rfl rfl) ?_|refine z07 (zm rfl rfl (by omega) (by simp)) ?_|refine z4 (zo rfl rfl (by omega) rfl rfl) ?_|refine z4 (zp rfl rfl (by simp)) ?_|refine z4 (z04 rfl rfl) ?_|refine z4 (z05 rfl rfl (by omega)) ?_|refine z4 (zx rfl rfl (by decide) (by assumption)) ?_|exact z5 rfl (by rw [hF (by (repeat' (first|rfl|rw [za (by first|omega|(simp only [zY01,zY03,zY04] at *;omega))]|rw [z9 (by first|omega|(simp only [zY01,zY03,zY04] at *;omega)) (by omega) (by omega)]|rw [if_pos (by omega)]|rw [if_neg (by omega)]|simp only [zY05,zY07])))];rfl)|exact z5 rfl (by rw [hF];rfl)|exact z6 rfl rfl (hO _ (by (repeat' (first|rfl|rw [za (by first|omega|(simp only [zY01,zY03,zY04] at *;omega))]|rw [z9 (by first|omega|(simp only [zY01,zY03,zY04] at *;omega)) (by omega) (by omega)]|rw [if_pos (by omega)]|rw [if_neg (by omega)]|simp only [zY05,zY07]))))|(refine zn rfl ?_;rw [zf])|(refine z6 rfl rfl ?_;rw [zf])|refine z02 rfl (fun h=>?_) (fun h=>?_)|refine tZn (fun h=>?_) (fun h=>?_))
 ·try simp only [p1,q1,z10,z15,zY07,zY05] at hF hO
  obtain ⟨fa1,fa2⟩:=id fa;obtain ⟨fb1,fb2⟩:=id fb
  repeat' (first|refine dq1 ?_|refine dqc ?_|refine dqm ?_|refine dqK rfl (zg _) ?_|refine dqT ?_|refine dqF ?_|refine zt rfl ?_|refine zq rfl ?_|refine z0e ?_|refine z0f ?_|refine z4 (z7 (d:=I 2) rfl rfl rfl) ?_|refine z4 (z7 (d:=I 1) rfl rfl rfl) ?_|refine z4 (z7 (d:=I 0) rfl rfl rfl) ?_|refine z07 (zm rfl rfl (by omega) (by simp)) ?_|refine z4 (zo rfl rfl (by omega) rfl rfl) ?_|refine z4 (zp rfl rfl (by simp)) ?_|refine z4 (z04 rfl rfl) ?_|refine z4 (z05 rfl rfl (by omega)) ?_|refine z4 (zx rfl rfl (by decide) (by assumption)) ?_|exact z5 rfl (by rw [hF (by (repeat' (first|rfl|rw [za (by first|omega|(simp only [zY01,zY03,zY04] at *;omega))]|rw [z9 (by first|omega|(simp only [zY01,zY03,zY04] at *;omega)) (by omega) (by omega)]|rw [if_pos (by omega)]|rw [if_neg (by omega)]|simp only [zY05,zY07])))];rfl)|exact z5 rfl (by rw [hF];rfl)|exact z6 rfl rfl (hO _ (by (repeat' (first|rfl|rw [za (by first|omega|(simp only [zY01,zY03,zY04] at *;omega))]|rw [z9 (by first|omega|(simp only [zY01,zY03,zY04] at *;omega)) (by omega) (by omega)]|rw [if_pos (by omega)]|rw [if_neg (by omega)]|simp only [zY05,zY07]))))|(refine zn rfl ?_;rw [zf])|(refine z6 rfl rfl ?_;rw [zf])|refine z02 rfl (fun h=>?_) (fun h=>?_)|refine tZn (fun h=>?_) (fun h=>?_))
theorem z082:z4e 3:=by
 intro l s0 s ht nn k R again' hl16 hsl hfit hk hx hF hO;have hcase:=z22 hfit;have hs0t:s.take (((s.length:Nat):Int) - 0).toNat=s:=(by rw [show (((s.length:Nat):Int) - 0).toNat=s.length by omega];exact zY1c);simp only [z1y,Int.reduceEq,if_true,if_false] at hF hO;unfold z6y;with_unfolding_all show den z3g _ (z16 z0c) [_,_,_,_,_,_,_,_,_,_,_,_,_,_,_,_,_,_,_,_,_] _=_;simp only [z0c,z16]
 rcases hcase with ⟨c1,c2⟩|⟨a,t,fa,p1,p3,p4,p5,⟨c1,c2⟩|⟨b,u,fb,q1,q3,q4,q5⟩⟩
 ·try simp only [c2,z10,z15,zY07] at hF hO
  repeat' (first|refine dq1 ?_|refine dqc ?_|refine dqm ?_|refine dqK rfl (zg _) ?_|refine dqT ?_|refine dqF ?_|refine zt rfl ?_|refine zq rfl ?_|refine z0e ?_|refine z0f ?_|refine z4 (z7 (d:=I 2) rfl rfl rfl) ?_|refine z4 (z7 (d:=I 1) rfl rfl rfl) ?_|refine z4 (z7 (d:=I 0) rfl rfl rfl) ?_|refine z07 (zm rfl rfl (by omega) (by simp)) ?_|refine z4 (zo rfl rfl (by omega) rfl rfl) ?_|refine z4 (zp rfl rfl (by simp)) ?_|refine z4 (z04 rfl rfl) ?_|refine z4 (z05 rfl rfl (by omega)) ?_|refine z4 (zx rfl rfl (by decide) (by assumption)) ?_|exact z5 rfl (by rw [hF (by (repeat' (first|rfl|rw [za (by first|omega|(simp only [zY01,zY03,zY04] at *;omega))]|rw [z9 (by first|omega|(simp only [zY01,zY03,zY04] at *;omega)) (by omega) (by omega)]|rw [if_pos (by omega)]|rw [if_neg (by omega)]|simp only [zY05,zY07])))];rfl)|exact z5 rfl (by rw [hF];rfl)|exact z6 rfl rfl (hO _ (by (repeat' (first|rfl|rw [za (by first|omega|(simp only [zY01,zY03,zY04] at *;omega))]|rw [z9 (by first|omega|(simp only [zY01,zY03,zY04] at *;omega)) (by omega) (by omega)]|rw [if_pos (by omega)]|rw [if_neg (by omega)]|simp only [zY05,zY07]))))|(refine zn rfl ?_;rw [zf])|(refine z6 rfl rfl ?_;rw [zf])|refine z02 rfl (fun h=>?_) (fun h=>?_)|refine tZn (fun h=>?_) (fun h=>?_))
 ·try simp only [p1,c2,z10,z15,zY07,zY05] at hF hO
  obtain ⟨fa1,fa2⟩:=id fa
  repeat' (first|refine dq1 ?_|refine dqc ?_|refine dqm ?_|refine dqK rfl (zg _) ?_|refine dqT ?_|refine dqF ?_|refine zt rfl ?_|refine zq rfl ?_|refine z0e ?_|refine z0f ?_|refine z4 (z7 (d:=I 2) rfl rfl rfl) ?_|refine z4 (z7 (d:=I 1) rfl rfl rfl) ?_|refine z4 (z7 (d:=I 0) rfl rfl rfl) ?_|refine z07 (zm rfl rfl (by omega) (by simp)) ?_|refine z4 (zo rfl rfl (by omega) rfl rfl) ?_|refine z4 (zp rfl rfl (by simp)) ?_|refine z4 (z04 rfl rfl) ?_|refine z4 (z05 rfl rfl (by omega)) ?_|refine z4 (zx rfl rfl (by decide) (by assumption)) ?_|exact z5 rfl (by rw [hF (by (repeat' (first|rfl|rw [za (by first|omega|(simp only [zY01,zY03,zY04] at *;omega))]|rw [z9 (by first|omega|(simp only [zY01,zY03,zY04] at *;omega)) (by omega) (by omega)]|rw [if_pos (by omega)]|rw [if_neg (by omega)]|simp only [zY05,zY07])))];rfl)|exact z5 rfl (by rw [hF];rfl)|exact z6 rfl rfl (hO _ (by (repeat' (first|rfl|rw [za (by first|omega|(simp only [zY01,zY03,zY04] at *;omega))]|rw [z9 (by first|omega|(simp only [zY01,zY03,zY04] at *;omega)) (by omega) (by omega)]|rw [if_pos (by omega)]|rw [if_neg (by omega)]|simp only [zY05,zY07]))))|(refine zn rfl ?_;rw [zf])|(refine z6 rfl rfl ?_;rw [zf])|refine z02 rfl (fun h=>?_) (fun h=>?_)|refine tZn (fun h=>?_) (fun h=>?_))
 ·try simp only [p1,q1,z10,z15,zY07,zY05] at hF hO
  obtain ⟨fa1,fa2⟩:=id fa;obtain ⟨fb1,fb2⟩:=id fb
  repeat' (first|refine dq1 ?_|refine dqc ?_|refine dqm ?_|refine dqK rfl (zg _) ?_|refine dqT ?_|refine dqF ?_|refine zt rfl ?_|refine zq rfl ?_|refine z0e ?_|refine z0f ?_|refine z4 (z7 (d:=I 2) rfl rfl rfl) ?_|refine z4 (z7 (d:=I 1) rfl rfl rfl) ?_|refine z4 (z7 (d:=I 0) rfl rfl rfl) ?_|refine z07 (zm rfl rfl (by omega) (by simp)) ?_|refine z4 (zo rfl rfl (by omega) rfl rfl) ?_|refine z4 (zp rfl rfl (by simp)) ?_|refine z4 (z04 rfl rfl) ?_|refine z4 (z05 rfl rfl (by omega)) ?_|refine z4 (zx rfl rfl (by decide) (by assumption)) ?_|exact z5 rfl (by rw [hF (by (repeat' (first|rfl|rw [za (by first|omega|(simp only [zY01,zY03,zY04] at *;omega))]|rw [z9 (by first|omega|(simp only [zY01,zY03,zY04] at *;omega)) (by omega) (by omega)]|rw [if_pos (by omega)]|rw [if_neg (by omega)]|simp only [zY05,zY07])))];rfl)|exact z5 rfl (by rw [hF];rfl)|exact z6 rfl rfl (hO _ (by (repeat' (first|rfl|rw [za (by first|omega|(simp only [zY01,zY03,zY04] at *;omega))]|rw [z9 (by first|omega|(simp only [zY01,zY03,zY04] at *;omega)) (by omega) (by omega)]|rw [if_pos (by omega)]|rw [if_neg (by omega)]|simp only [zY05,zY07]))))|(refine zn rfl ?_;rw [zf])|(refine z6 rfl rfl ?_;rw [zf])|refine z02 rfl (fun h=>?_) (fun h=>?_)|refine tZn (fun h=>?_) (fun h=>?_))
theorem z083:z4e 4:=by
 intro l s0 s ht nn k R again' hl16 hsl hfit hk hx hF hO;have hcase:=z22 hfit;have hs0t:s.take (((s.length:Nat):Int) - 0).toNat=s:=(by rw [show (((s.length:Nat):Int) - 0).toNat=s.length by omega];exact zY1c);simp only [z1y,Int.reduceEq,if_true,if_false] at hF hO;unfold z6y;with_unfolding_all show den z3g _ (z16 z0c) [_,_,_,_,_,_,_,_,_,_,_,_,_,_,_,_,_,_,_,_,_] _=_;simp only [z0c,z16]
 rcases hcase with ⟨c1,c2⟩|⟨a,t,fa,p1,p3,p4,p5,⟨c1,c2⟩|⟨b,u,fb,q1,q3,q4,q5⟩⟩
 ·try simp only [c2,z10,z15,zY07] at hF hO
  repeat' (first|refine dq1 ?_|refine dqc ?_|refine dqm ?_|refine dqK rfl (zg _) ?_|refine dqT ?_|refine dqF ?_|refine zt rfl ?_|refine zq rfl ?_|refine z0e ?_|refine z0f ?_|refine z4 (z7 (d:=I 2) rfl rfl rfl) ?_|refine z4 (z7 (d:=I 1) rfl rfl rfl) ?_|refine z4 (z7 (d:=I 0) rfl rfl rfl) ?_|refine z07 (zm rfl rfl (by omega) (by simp)) ?_|refine z4 (zo rfl rfl (by omega) rfl rfl) ?_|refine z4 (zp rfl rfl (by simp)) ?_|refine z4 (z04 rfl rfl) ?_|refine z4 (z05 rfl rfl (by omega)) ?_|refine z4 (zx rfl rfl (by decide) (by assumption)) ?_|exact z5 rfl (by rw [hF (by (repeat' (first|rfl|rw [za (by first|omega|(simp only [zY01,zY03,zY04] at *;omega))]|rw [z9 (by first|omega|(simp only [zY01,zY03,zY04] at *;omega)) (by omega) (by omega)]|rw [if_pos (by omega)]|rw [if_neg (by omega)]|simp only [zY05,zY07])))];rfl)|exact z5 rfl (by rw [hF];rfl)|exact z6 rfl rfl (hO _ (by (repeat' (first|rfl|rw [za (by first|omega|(simp only [zY01,zY03,zY04] at *;omega))]|rw [z9 (by first|omega|(simp only [zY01,zY03,zY04] at *;omega)) (by omega) (by omega)]|rw [if_pos (by omega)]|rw [if_neg (by omega)]|simp only [zY05,zY07]))))|(refine zn rfl ?_;rw [zf])|(refine z6 rfl rfl ?_;rw [zf])|refine z02 rfl (fun h=>?_) (fun h=>?_)|refine tZn (fun h=>?_) (fun h=>?_))
 ·try simp only [p1,c2,z10,z15,zY07,zY05] at hF hO
  obtain ⟨fa1,fa2⟩:=id fa
  repeat' (first|refine dq1 ?_|refine dqc ?_|refine dqm ?_|refine dqK rfl (zg _) ?_|refine dqT ?_|refine dqF ?_|refine zt rfl ?_|refine zq rfl ?_|refine z0e ?_|refine z0f ?_|refine z4 (z7 (d:=I 2) rfl rfl rfl) ?_|refine z4 (z7 (d:=I 1) rfl rfl rfl) ?_|refine z4 (z7 (d:=I 0) rfl rfl rfl) ?_|refine z07 (zm rfl rfl (by omega) (by simp)) ?_|refine z4 (zo rfl rfl (by omega) rfl rfl) ?_|refine z4 (zp rfl rfl (by simp)) ?_|refine z4 (z04 rfl rfl) ?_|refine z4 (z05 rfl rfl (by omega)) ?_|refine z4 (zx rfl rfl (by decide) (by assumption)) ?_|exact z5 rfl (by rw [hF (by (repeat' (first|rfl|rw [za (by first|omega|(simp only [zY01,zY03,zY04] at *;omega))]|rw [z9 (by first|omega|(simp only [zY01,zY03,zY04] at *;omega)) (by omega) (by omega)]|rw [if_pos (by omega)]|rw [if_neg (by omega)]|simp only [zY05,zY07])))];rfl)|exact z5 rfl (by rw [hF];rfl)|exact z6 rfl rfl (hO _ (by (repeat' (first|rfl|rw [za (by first|omega|(simp only [zY01,zY03,zY04] at *;omega))]|rw [z9 (by first|omega|(simp only [zY01,zY03,zY04] at *;omega)) (by omega) (by omega)]|rw [if_pos (by omega)]|rw [if_neg (by omega)]|simp only [zY05,zY07]))))|(refine zn rfl ?_;rw [zf])|(refine z6 rfl rfl ?_;rw [zf])|refine z02 rfl (fun h=>?_) (fun h=>?_)|refine tZn (fun h=>?_) (fun h=>?_))
 ·try simp only [p1,q1,z10,z15,zY07,zY05] at hF hO
  obtain ⟨fa1,fa2⟩:=id fa;obtain ⟨fb1,fb2⟩:=id fb
  repeat' (first|refine dq1 ?_|refine dqc ?_|refine dqm ?_|refine dqK rfl (zg _) ?_|refine dqT ?_|refine dqF ?_|refine zt rfl ?_|refine zq rfl ?_|refine z0e ?_|refine z0f ?_|refine z4 (z7 (d:=I 2) rfl rfl rfl) ?_|refine z4 (z7 (d:=I 1) rfl rfl rfl) ?_|refine z4 (z7 (d:=I 0) rfl rfl rfl) ?_|refine z07 (zm rfl rfl (by omega) (by simp)) ?_|refine z4 (zo rfl rfl (by omega) rfl rfl) ?_|refine z4 (zp rfl rfl (by simp)) ?_|refine z4 (z04 rfl rfl) ?_|refine z4 (z05 rfl rfl (by omega)) ?_|refine z4 (zx rfl rfl (by decide) (by assumption)) ?_|exact z5 rfl (by rw [hF (by (repeat' (first|rfl|rw [za (by first|omega|(simp only [zY01,zY03,zY04] at *;omega))]|rw [z9 (by first|omega|(simp only [zY01,zY03,zY04] at *;omega)) (by omega) (by omega)]|rw [if_pos (by omega)]|rw [if_neg (by omega)]|simp only [zY05,zY07])))];rfl)|exact z5 rfl (by rw [hF];rfl)|exact z6 rfl rfl (hO _ (by (repeat' (first|rfl|rw [za (by first|omega|(simp only [zY01,zY03,zY04] at *;omega))]|rw [z9 (by first|omega|(simp only [zY01,zY03,zY04] at *;omega)) (by omega) (by omega)]|rw [if_pos (by omega)]|rw [if_neg (by omega)]|simp only [zY05,zY07]))))|(refine zn rfl ?_;rw [zf])|(refine z6 rfl rfl ?_;rw [zf])|refine z02 rfl (fun h=>?_) (fun h=>?_)|refine tZn (fun h=>?_) (fun h=>?_))
end
section
open Go.Lib (decDigits itoa atoiAll parseMag parseUint10 NumEnd)
end
section
open Go.RowKit
open Go.Lib (itoa atoiAll NumEnd)
end
section
open Go.RowKit
def zgv (r:Option (List Int)):List Int × Int:=match r with
 | none=>([],8)
 | some s=>(s,0)
theorem zj8 {l:List Op} {s:List Int} {h:Int} (hl:zd l=0) (h0:0≤h) (h1:h≤1000) (hs:z11 s):z2m l s h=zgv (z1w h s l):=by
 unfold z2m;rw [if_neg (fun e=>e hl),if_neg (by have:=hs.1;omega),if_pos hs.2];rfl
theorem z7q:z11 []:=⟨by simp,by simp⟩
theorem zf5 {h:Int}:∀ {l:List Op} {s s':List Int},z11 s→z1w h s l=some s'→z11 s'
 | [],s,s',hs,he=>by cases he;exact hs
 | o::l,s,s',hs,he=>by
  rw [z1w] at he
  cases hm:z1y h s o with
  | none=>rw [hm] at he;cases he
  | some t=>rw [hm] at he;exact zf5 (zbl hs hm) he
def zgw (r:Option (List Int)):Bool:=match r with
 | some [x]=>decide (x≠0)
 | _=>false
theorem zxv (r:Option (List Int)):zam (zgv r)=(zgw r,0):=by
 match r with
 | none=>rfl
 | some []=>rfl
 | some [x]=>simp [zam,zgv,zgw]
 | some (x::y::t) =>
  show (if (0:Int)=3 then (false,0) else if (0:Int)=0 then (if ((x::y::t).length:Int)=1 then (decide ((x::y::t).headD 0≠0),0) else (false,0)) else (false,0))=(false,0)
  rw [if_neg (by decide),if_pos rfl,if_neg (by simp only [zY03];omega)]
theorem z00l {l k:List Op} {h:Int} (hl:zd l=0) (hk:zd k=0) (h0:0≤h) (h1:h≤1000):z21 l k h=(zgw ((z1w h [] k).bind fun s=>z1w h s l),0):=by
 unfold z21;rw [if_neg (fun e=>e hl),if_neg (fun e=>e hk),zj8 hk h0 h1 z7q]
 cases hm:z1w h [] k with
 | none=>rfl
 | some s =>
  have hs:=zf5 z7q hm;rw [if_pos (show (zgv (some s)).2=0 from rfl),show (zgv (some s)).1=s from rfl,zj8 hl h0 h1 hs,zxv];rfl
end
section
open Go.RowKit
set_option maxRecDepth 100000
set_option maxHeartbeats 8000000
attribute [local irreducible] z0p spD z14 z6n z0v z40
attribute [local irreducible] den denX z1b z1q
theorem z084:z4e 5:=by
 intro l s0 s ht nn k R again' hl16 hsl hfit hk hx hF hO;have hcase:=z22 hfit;have hs0t:s.take (((s.length:Nat):Int) - 0).toNat=s:=(by rw [show (((s.length:Nat):Int) - 0).toNat=s.length by omega];exact zY1c);simp only [z1y,Int.reduceEq,if_true,if_false] at hF hO;unfold z6y;with_unfolding_all show den z3g _ (z16 z0c) [_,_,_,_,_,_,_,_,_,_,_,_,_,_,_,_,_,_,_,_,_] _=_;simp only [z0c,z16]
 rcases hcase with ⟨c1,c2⟩|⟨a,t,fa,p1,p3,p4,p5,⟨c1,c2⟩|⟨b,u,fb,q1,q3,q4,q5⟩⟩
 ·try simp only [c2,z10,z15,zY07] at hF hO
  repeat' (first|refine dq1 ?_|refine dqc ?_|refine dqm ?_|refine dqK rfl (zg _) ?_|refine dqT ?_|refine dqF ?_|refine zt rfl ?_|refine zq rfl ?_|refine z0e ?_|refine z0f ?_|refine z4 (z7 (d:=I 2) rfl rfl rfl) ?_|refine z4 (z7 (d:=I 1) rfl rfl rfl) ?_|refine z4 (z7 (d:=I 0) rfl rfl rfl) ?_|refine z07 (zm rfl rfl (by omega) (by simp)) ?_|refine z4 (zo rfl rfl (by omega) rfl rfl) ?_|refine z4 (zp rfl rfl (by simp)) ?_|refine z4 (z04 rfl rfl) ?_|refine z4 (z05 rfl rfl (by omega)) ?_|refine z4 (zx rfl rfl (by decide) (by assumption)) ?_|exact z5 rfl (by rw [hF (by (repeat' (first|rfl|rw [za (by first|omega|(simp only [zY01,zY03,zY04] at *;omega))]|rw [z9 (by first|omega|(simp only [zY01,zY03,zY04] at *;omega)) (by omega) (by omega)]|rw [if_pos (by omega)]|rw [if_neg (by omega)]|simp only [zY05,zY07])))];rfl)|exact z5 rfl (by rw [hF];rfl)|exact z6 rfl rfl (hO _ (by (repeat' (first|rfl|rw [za (by first|omega|(simp only [zY01,zY03,zY04] at *;omega))]|rw [z9 (by first|omega|(simp only [zY01,zY03,zY04] at *;omega)) (by omega) (by omega)]|rw [if_pos (by omega)]|rw [if_neg (by omega)]|simp only [zY05,zY07]))))|(refine zn rfl ?_;rw [zf])|(refine z6 rfl rfl ?_;rw [zf])|refine z02 rfl (fun h=>?_) (fun h=>?_)|refine tZn (fun h=>?_) (fun h=>?_))
 ·try simp only [p1,c2,z10,z15,zY07,zY05] at hF hO
  obtain ⟨fa1,fa2⟩:=id fa
  repeat' (first|refine dq1 ?_|refine dqc ?_|refine dqm ?_|refine dqK rfl (zg _) ?_|refine dqT ?_|refine dqF ?_|refine zt rfl ?_|refine zq rfl ?_|refine z0e ?_|refine z0f ?_|refine z4 (z7 (d:=I 2) rfl rfl rfl) ?_|refine z4 (z7 (d:=I 1) rfl rfl rfl) ?_|refine z4 (z7 (d:=I 0) rfl rfl rfl) ?_|refine z07 (zm rfl rfl (by omega) (by simp)) ?_|refine z4 (zo rfl rfl (by omega) rfl rfl) ?_|refine z4 (zp rfl rfl (by simp)) ?_|refine z4 (z04 rfl rfl) ?_|refine z4 (z05 rfl rfl (by omega)) ?_|refine z4 (zx rfl rfl (by decide) (by assumption)) ?_|exact z5 rfl (by rw [hF (by (repeat' (first|rfl|rw [za (by first|omega|(simp only [zY01,zY03,zY04] at *;omega))]|rw [z9 (by first|omega|(simp only [zY01,zY03,zY04] at *;omega)) (by omega) (by omega)]|rw [if_pos (by omega)]|rw [if_neg (by omega)]|simp only [zY05,zY07])))];rfl)|exact z5 rfl (by rw [hF];rfl)|exact z6 rfl rfl (hO _ (by (repeat' (first|rfl|rw [za (by first|omega|(simp only [zY01,zY03,zY04] at *;omega))]|rw [z9 (by first|omega|(simp only [zY01,zY03,zY04] at *;omega)) (by omega) (by omega)]|rw [if_pos (by omega)]|rw [if_neg (by omega)]|simp only [zY05,zY07]))))|(refine zn rfl ?_;rw [zf])|(refine z6 rfl rfl ?_;rw [zf])|refine z02 rfl (fun h=>?_) (fun h=>?_)|refine tZn (fun h=>?_) (fun h=>?_))
 ·try simp only [p1,q1,z10,z15,zY07,zY05] at hF hO
  obtain ⟨fa1,fa2⟩:=id fa;obtain ⟨fb1,fb2⟩:=id fb
  repeat' (first|refine dq1 ?_|refine dqc ?_|refine dqm ?_|refine dqK rfl (zg _) ?_|refine dqT ?_|refine dqF ?_|refine zt rfl ?_|refine zq rfl ?_|refine z0e ?_|refine z0f ?_|refine z4 (z7 (d:=I 2) rfl rfl rfl) ?_|refine z4 (z7 (d:=I 1) rfl rfl rfl) ?_|refine z4 (z7 (d:=I 0) rfl rfl rfl) ?_|refine z07 (zm rfl rfl (by omega) (by simp)) ?_|refine z4 (zo rfl rfl (by omega) rfl rfl) ?_|refine z4 (zp rfl rfl (by simp)) ?_|refine z4 (z04 rfl rfl) ?_|refine z4 (z05 rfl rfl (by omega)) ?_|refine z4 (zx rfl rfl (by decide) (by assumption)) ?_|exact z5 rfl (by rw [hF (by (repeat' (first|rfl|rw [za (by first|omega|(simp only [zY01,zY03,zY04] at *;omega))]|rw [z9 (by first|omega|(simp only [zY01,zY03,zY04] at *;omega)) (by omega) (by omega)]|rw [if_pos (by omega)]|rw [if_neg (by omega)]|simp only [zY05,zY07])))];rfl)|exact z5 rfl (by rw [hF];rfl)|exact z6 rfl rfl (hO _ (by (repeat' (first|rfl|rw [za (by first|omega|(simp only [zY01,zY03,zY04] at *;omega))]|rw [z9 (by first|omega|(simp only [zY01,zY03,zY04] at *;omega)) (by omega) (by omega)]|rw [if_pos (by omega)]|rw [if_neg (by omega)]|simp only [zY05,zY07]))))|(refine zn rfl ?_;rw [zf])|(refine z6 rfl rfl ?_;rw [zf])|refine z02 rfl (fun h=>?_) (fun h=>?_)|refine tZn (fun h=>?_) (fun h=>?_))
theorem z085:z4e 6:=by
 intro l s0 s ht nn k R again' hl16 hsl hfit hk hx hF hO;have hcase:=z22 hfit;have hs0t:s.take (((s.length:Nat):Int) - 0).toNat=s:=(by rw [show (((s.length:Nat):Int) - 0).toNat=s.length by omega];exact zY1c);simp only [z1y,Int.reduceEq,if_true,if_false] at hF hO;unfold z6y;with_unfolding_all show den z3g _ (z16 z0c) [_,_,_,_,_,_,_,_,_,_,_,_,_,_,_,_,_,_,_,_,_] _=_;simp only [z0c,z16]
 rcases hcase with ⟨c1,c2⟩|⟨a,t,fa,p1,p3,p4,p5,⟨c1,c2⟩|⟨b,u,fb,q1,q3,q4,q5⟩⟩
 ·try simp only [c2,z10,z15,zY07] at hF hO
  repeat' (first|refine dq1 ?_|refine dqc ?_|refine dqm ?_|refine dqK rfl (zg _) ?_|refine dqT ?_|refine dqF ?_|refine zt rfl ?_|refine zq rfl ?_|refine z0e ?_|refine z0f ?_|refine z4 (z7 (d:=I 2) rfl rfl rfl) ?_|refine z4 (z7 (d:=I 1) rfl rfl rfl) ?_|refine z4 (z7 (d:=I 0) rfl rfl rfl) ?_|refine z07 (zm rfl rfl (by omega) (by simp)) ?_|refine z4 (zo rfl rfl (by omega) rfl rfl) ?_|refine z4 (zp rfl rfl (by simp)) ?_|refine z4 (z04 rfl rfl) ?_|refine z4 (z05 rfl rfl (by omega)) ?_|refine z4 (zx rfl rfl (by decide) (by assumption)) ?_|exact z5 rfl (by rw [hF (by (repeat' (first|rfl|rw [za (by first|omega|(simp only [zY01,zY03,zY04] at *;omega))]|rw [z9 (by first|omega|(simp only [zY01,zY03,zY04] at *;omega)) (by omega) (by omega)]|rw [if_pos (by omega)]|rw [if_neg (by omega)]|simp only [zY05,zY07])))];rfl)|exact z5 rfl (by rw [hF];rfl)|exact z6 rfl rfl (hO _ (by (repeat' (first|rfl|rw [za (by first|omega|(simp only [zY01,zY03,zY04] at *;omega))]|rw [z9 (by first|omega|(simp only [zY01,zY03,zY04] at *;omega)) (by omega) (by omega)]|rw [if_pos (by omega)]|rw [if_neg (by omega)]|simp only [zY05,zY07]))))|(refine zn rfl ?_;rw [zf])|(refine z6 rfl rfl ?_;rw [zf])|refine z02 rfl (fun h=>?_) (fun h=>?_)|refine tZn (fun h=>?_) (fun h=>?_))
 ·try simp only [p1,c2,z10,z15,zY07,zY05] at hF hO
  obtain ⟨fa1,fa2⟩:=id fa
  repeat' (first|refine dq1 ?_|refine dqc ?_|refine dqm ?_|refine dqK rfl (zg _) ?_|refine dqT ?_|refine dqF ?_|refine zt rfl ?_|refine zq rfl ?_|refine z0e ?_|refine z0f ?_|refine z4 (z7 (d:=I 2) rfl rfl rfl) ?_|refine z4 (z7 (d:=I 1) rfl rfl rfl) ?_|refine z4 (z7 (d:=I 0) rfl rfl rfl) ?_|refine z07 (zm rfl rfl (by omega) (by simp)) ?_|refine z4 (zo rfl rfl (by omega) rfl rfl) ?_|refine z4 (zp rfl rfl (by simp)) ?_|refine z4 (z04 rfl rfl) ?_|refine z4 (z05 rfl rfl (by omega)) ?_|refine z4 (zx rfl rfl (by decide) (by assumption)) ?_|exact z5 rfl (by rw [hF (by (repeat' (first|rfl|rw [za (by first|omega|(simp only [zY01,zY03,zY04] at *;omega))]|rw [z9 (by first|omega|(simp only [zY01,zY03,zY04] at *;omega)) (by omega) (by omega)]|rw [if_pos (by omega)]|rw [if_neg (by omega)]|simp only [zY05,zY07])))];rfl)|exact z5 rfl (by rw [hF];rfl)|exact z6 rfl rfl (hO _ (by (repeat' (first|rfl|rw [za (by first|omega|(simp only [zY01,zY03,zY04] at *;omega))]|rw [z9 (by first|omega|(simp only [zY01,zY03,zY04] at *;omega)) (by omega) (by omega)]|rw [if_pos (by omega)]|rw [if_neg (by omega)]|simp only [zY05,zY07]))))|(refine zn rfl ?_;rw [zf])|(refine z6 rfl rfl ?_;rw [zf])|refine z02 rfl (fun h=>?_) (fun h=>?_)|refine tZn (fun h=>?_) (fun h=>?_))
 ·try simp only [p1,q1,z10,z15,zY07,zY05] at hF hO
  obtain ⟨fa1,fa2⟩:=id fa;obtain ⟨fb1,fb2⟩:=id fb
  repeat' (first|refine dq1 ?_|refine dqc ?_|refine dqm ?_|refine dqK rfl (zg _) ?_|refine dqT ?_|refine dqF ?_|refine zt rfl ?_|refine zq rfl ?_|refine z0e ?_|refine z0f ?_|refine z4 (z7 (d:=I 2) rfl rfl rfl) ?_|refine z4 (z7 (d:=I 1) rfl rfl rfl) ?_|refine z4 (z7 (d:=I 0) rfl rfl rfl) ?_|refine z07 (zm rfl rfl (by omega) (by simp)) ?_|refine z4 (zo rfl rfl (by omega) rfl rfl) ?_|refine z4 (zp rfl rfl (by simp)) ?_|refine z4 (z04 rfl rfl) ?_|refine z4 (z05 rfl rfl (by omega)) ?_|refine z4 (zx rfl rfl (by decide) (by assumption)) ?_|exact z5 rfl (by rw [hF (by (repeat' (first|rfl|rw [za (by first|omega|(simp only [zY01,zY03,zY04] at *;omega))]|rw [z9 (by first|omega|(simp only [zY01,zY03,zY04] at *;omega)) (by omega) (by omega)]|rw [if_pos (by omega)]|rw [if_neg (by omega)]|simp only [zY05,zY07])))];rfl)|exact z5 rfl (by rw [hF];rfl)|exact z6 rfl rfl (hO _ (by (repeat' (first|rfl|rw [za (by first|omega|(simp only [zY01,zY03,zY04] at *;omega))]|rw [z9 (by first|omega|(simp only [zY01,zY03,zY04] at *;omega)) (by omega) (by omega)]|rw [if_pos (by omega)]|rw [if_neg (by omega)]|simp only [zY05,zY07]))))|(refine zn rfl ?_;rw [zf])|(refine z6 rfl rfl ?_;rw [zf])|refine z02 rfl (fun h=>?_) (fun h=>?_)|refine tZn (fun h=>?_) (fun h=>?_))
theorem z086:z4e 7:=by
 intro l s0 s ht nn k R again' hl16 hsl hfit hk hx hF hO;have hcase:=z22 hfit;have hs0t:s.take (((s.length:Nat):Int) - 0).toNat=s:=(by rw [show (((s.length:Nat):Int) - 0).toNat=s.length by omega];exact zY1c);simp only [z1y,Int.reduceEq,if_true,if_false] at hF hO;unfold z6y;with_unfolding_all show den z3g _ (z16 z0c) [_,_,_,_,_,_,_,_,_,_,_,_,_,_,_,_,_,_,_,_,_] _=_;simp only [z0c,z16]
 rcases hcase with ⟨c1,c2⟩|⟨a,t,fa,p1,p3,p4,p5,⟨c1,c2⟩|⟨b,u,fb,q1,q3,q4,q5⟩⟩
 ·try simp only [c2,z10,z15,zY07] at hF hO
  repeat' (first|refine dq1 ?_|refine dqc ?_|refine dqm ?_|refine dqK rfl (zg _) ?_|refine dqT ?_|refine dqF ?_|refine zt rfl ?_|refine zq rfl ?_|refine z0e ?_|refine z0f ?_|refine z4 (z7 (d:=I 2) rfl rfl rfl) ?_|refine z4 (z7 (d:=I 1) rfl rfl rfl) ?_|refine z4 (z7 (d:=I 0) rfl rfl rfl) ?_|refine z07 (zm rfl rfl (by omega) (by simp)) ?_|refine z4 (zo rfl rfl (by omega) rfl rfl) ?_|refine z4 (zp rfl rfl (by simp)) ?_|refine z4 (z04 rfl rfl) ?_|refine z4 (z05 rfl rfl (by omega)) ?_|refine z4 (zx rfl rfl (by decide) (by assumption)) ?_|exact z5 rfl (by rw [hF (by (repeat' (first|rfl|rw [za (by first|omega|(simp only [zY01,zY03,zY04] at *;omega))]|rw [z9 (by first|omega|(simp only [zY01,zY03,zY04] at *;omega)) (by omega) (by omega)]|rw [if_pos (by omega)]|rw [if_neg (by omega)]|simp only [zY05,zY07])))];rfl)|exact z5 rfl (by rw [hF];rfl)|exact z6 rfl rfl (hO _ (by (repeat' (first|rfl|rw [za (by first|omega|(simp only [zY01,zY03,zY04] at *;omega))]|rw [z9 (by first|omega|(simp only [zY01,zY03,zY04] at *;omega)) (by omega) (by omega)]|rw [if_pos (by omega)]|rw [if_neg (by omega)]|simp only [zY05,zY07]))))|(refine zn rfl ?_;rw [zf])|(refine z6 rfl rfl ?_;rw [zf])|refine z02 rfl (fun h=>?_) (fun h=>?_)|refine tZn (fun h=>?_) (fun h=>?_))
 ·try simp only [p1,c2,z10,z15,zY07,zY05] at hF hO
  obtain ⟨fa1,fa2⟩:=id fa
  repeat' (first|refine dq1 ?_|refine dqc ?_|refine dqm ?_|refine dqK rfl (zg _) ?_|refine dqT ?_|refine dqF ?_|refine zt rfl ?_|refine zq rfl ?_|refine z0e ?_|refine z0f ?_|refine z4 (z7 (d:=I 2) rfl rfl rfl) ?_|refine z4 (z7 (d:=I 1) rfl rfl rfl) ?_|refine z4 (z7 (d:=I 0) rfl rfl rfl) ?_|refine z07 (zm rfl rfl (by omega) (by simp)) ?_|refine z4 (zo rfl rfl (by omega) rfl rfl) ?_|refine z4 (zp rfl rfl (by simp)) ?_|refine z4 (z04 rfl rfl) ?_|refine z4 (z05 rfl rfl (by omega)) ?_|refine z4 (zx rfl rfl (by decide) (by assumption)) ?_|exact z5 rfl (by rw [hF (by (repeat' (first|rfl|rw [za (by first|omega|(simp only [zY01,zY03,zY04] at *;omega))]|rw [z9 (by first|omega|(simp only [zY01,zY03,zY04] at *;omega)) (by omega) (by omega)]|rw [if_pos (by omega)]|rw [if_neg (by omega)]|simp only [zY05,zY07])))];rfl)|exact z5 rfl (by rw [hF];rfl)|exact z6 rfl rfl (hO _ (by (repeat' (first|rfl|rw [za (by first|omega|(simp only [zY01,zY03,zY04] at *;omega))]|rw [z9 (by first|omega|(simp only [zY01,zY03,zY04] at *;omega)) (by omega) (by omega)]|rw [if_pos (by omega)]|rw [if_neg (by omega)]|simp only [zY05,zY07]))))|(refine zn rfl ?_;rw [zf])|(refine z6 rfl rfl ?_;rw [zf])|refine z02 rfl (fun h=>?_) (fun h=>?_)|refine tZn (fun h=>?_) (fun h=>?_))
 ·try simp only [p1,q1,z10,z15,zY07,zY05] at hF hO
  obtain ⟨fa1,fa2⟩:=id fa;obtain ⟨fb1,fb2⟩:=id fb
  by_cases hab:b=a
  ·have e7:z0v (decide (b=a))=1:=by with_unfolding_all simp [z0v,hab]
   rw [e7] at hF hO
   repeat' (first|refine dq1 ?_|refine dqc ?_|refine dqm ?_|refine dqK rfl (zg _) ?_|refine dqT ?_|refine dqF ?_|refine zt rfl ?_|refine zq rfl ?_|refine z0e ?_|refine z0f ?_|refine z4 (z7 (d:=I 2) rfl rfl rfl) ?_|refine z4 (z7 (d:=I 1) rfl rfl rfl) ?_|refine z4 (z7 (d:=I 0) rfl rfl rfl) ?_|refine z07 (zm rfl rfl (by omega) (by simp)) ?_|refine z4 (zo rfl rfl (by omega) rfl rfl) ?_|refine z4 (zp rfl rfl (by simp)) ?_|refine z4 (z04 rfl rfl) ?_|refine z4 (z05 rfl rfl (by omega)) ?_|refine z4 (zx rfl rfl (by decide) (by assumption)) ?_|exact z5 rfl (by rw [hF (by (repeat' (first|rfl|rw [za (by first|omega|(simp only [zY01,zY03,zY04] at *;omega))]|rw [z9 (by first|omega|(simp only [zY01,zY03,zY04] at *;omega)) (by omega) (by omega)]|rw [if_pos (by omega)]|rw [if_neg (by omega)]|simp only [zY05,zY07])))];rfl)|exact z5 rfl (by rw [hF];rfl)|exact z6 rfl rfl (hO _ (by (repeat' (first|rfl|rw [za (by first|omega|(simp only [zY01,zY03,zY04] at *;omega))]|rw [z9 (by first|omega|(simp only [zY01,zY03,zY04] at *;omega)) (by omega) (by omega)]|rw [if_pos (by omega)]|rw [if_neg (by omega)]|simp only [zY05,zY07]))))|(refine zn rfl ?_;rw [zf])|(refine z6 rfl rfl ?_;rw [zf])|refine z02 rfl (fun h=>?_) (fun h=>?_)|refine tZn (fun h=>?_) (fun h=>?_))
  ·have e7:z0v (decide (b=a))=0:=by with_unfolding_all simp [z0v,hab]
   rw [e7] at hF hO
   repeat' (first|refine dq1 ?_|refine dqc ?_|refine dqm ?_|refine dqK rfl (zg _) ?_|refine dqT ?_|refine dqF ?_|refine zt rfl ?_|refine zq rfl ?_|refine z0e ?_|refine z0f ?_|refine z4 (z7 (d:=I 2) rfl rfl rfl) ?_|refine z4 (z7 (d:=I 1) rfl rfl rfl) ?_|refine z4 (z7 (d:=I 0) rfl rfl rfl) ?_|refine z07 (zm rfl rfl (by omega) (by simp)) ?_|refine z4 (zo rfl rfl (by omega) rfl rfl) ?_|refine z4 (zp rfl rfl (by simp)) ?_|refine z4 (z04 rfl rfl) ?_|refine z4 (z05 rfl rfl (by omega)) ?_|refine z4 (zx rfl rfl (by decide) (by assumption)) ?_|exact z5 rfl (by rw [hF (by (repeat' (first|rfl|rw [za (by first|omega|(simp only [zY01,zY03,zY04] at *;omega))]|rw [z9 (by first|omega|(simp only [zY01,zY03,zY04] at *;omega)) (by omega) (by omega)]|rw [if_pos (by omega)]|rw [if_neg (by omega)]|simp only [zY05,zY07])))];rfl)|exact z5 rfl (by rw [hF];rfl)|exact z6 rfl rfl (hO _ (by (repeat' (first|rfl|rw [za (by first|omega|(simp only [zY01,zY03,zY04] at *;omega))]|rw [z9 (by first|omega|(simp only [zY01,zY03,zY04] at *;omega)) (by omega) (by omega)]|rw [if_pos (by omega)]|rw [if_neg (by omega)]|simp only [zY05,zY07]))))|(refine zn rfl ?_;rw [zf])|(refine z6 rfl rfl ?_;rw [zf])|refine z02 rfl (fun h=>?_) (fun h=>?_)|refine tZn (fun h=>?_) (fun h=>?_))
theorem z087:z4e 8:=by
 intro l s0 s ht nn k R again' hl16 hsl hfit hk hx hF hO;have hcase:=z22 hfit;have hs0t:s.take (((s.length:Nat):Int) - 0).toNat=s:=(by rw [show (((s.length:Nat):Int) - 0).toNat=s.length by omega];exact zY1c);simp only [z1y,Int.reduceEq,if_true,if_false] at hF hO;unfold z6y;with_unfolding_all show den z3g _ (z16 z0c) [_,_,_,_,_,_,_,_,_,_,_,_,_,_,_,_,_,_,_,_,_] _=_;simp only [z0c,z16]
 rcases hcase with ⟨c1,c2⟩|⟨a,t,fa,p1,p3,p4,p5,⟨c1,c2⟩|⟨b,u,fb,q1,q3,q4,q5⟩⟩
 ·try simp only [c2,z10,z15,zY07] at hF hO
  repeat' (first|refine dq1 ?_|refine dqc ?_|refine dqm ?_|refine dqK rfl (zg _) ?_|refine dqT ?_|refine dqF ?_|refine zt rfl ?_|refine zq rfl ?_|refine z0e ?_|refine z0f ?_|refine z4 (z7 (d:=I 2) rfl rfl rfl) ?_|refine z4 (z7 (d:=I 1) rfl rfl rfl) ?_|refine z4 (z7 (d:=I 0) rfl rfl rfl) ?_|refine z07 (zm rfl rfl (by omega) (by simp)) ?_|refine z4 (zo rfl rfl (by omega) rfl rfl) ?_|refine z4 (zp rfl rfl (by simp)) ?_|refine z4 (z04 rfl rfl) ?_|refine z4 (z05 rfl rfl (by omega)) ?_|refine z4 (zx rfl rfl (by decide) (by assumption)) ?_|exact z5 rfl (by rw [hF (by (repeat' (first|rfl|rw [za (by first|omega|(simp only [zY01,zY03,zY04] at *;omega))]|rw [z9 (by first|omega|(simp only [zY01,zY03,zY04] at *;omega)) (by omega) (by omega)]|rw [if_pos (by omega)]|rw [if_neg (by omega)]|simp only [zY05,zY07])))];rfl)|exact z5 rfl (by rw [hF];rfl)|exact z6 rfl rfl (hO _ (by (repeat' (first|rfl|rw [za (by first|omega|(simp only [zY01,zY03,zY04] at *;omega))]|rw [z9 (by first|omega|(simp only [zY01,zY03,zY04] at *;omega)) (by omega) (by omega)]|rw [if_pos (by omega)]|rw [if_neg (by omega)]|simp only [zY05,zY07]))))|(refine zn rfl ?_;rw [zf])|(refine z6 rfl rfl ?_;rw [zf])|refine z02 rfl (fun h=>?_) (fun h=>?_)|refine tZn (fun h=>?_) (fun h=>?_))
 ·try simp only [p1,c2,z10,z15,zY07,zY05] at hF hO
  obtain ⟨fa1,fa2⟩:=id fa
  repeat' (first|refine dq1 ?_|refine dqc ?_|refine dqm ?_|refine dqK rfl (zg _) ?_|refine dqT ?_|refine dqF ?_|refine zt rfl ?_|refine zq rfl ?_|refine z0e ?_|refine z0f ?_|refine z4 (z7 (d:=I 2) rfl rfl rfl) ?_|refine z4 (z7 (d:=I 1) rfl rfl rfl) ?_|refine z4 (z7 (d:=I 0) rfl rfl rfl) ?_|refine z07 (zm rfl rfl (by omega) (by simp)) ?_|refine z4 (zo rfl rfl (by omega) rfl rfl) ?_|refine z4 (zp rfl rfl (by simp)) ?_|refine z4 (z04 rfl rfl) ?_|refine z4 (z05 rfl rfl (by omega)) ?_|refine z4 (zx rfl rfl (by decide) (by assumption)) ?_|exact z5 rfl (by rw [hF (by (repeat' (first|rfl|rw [za (by first|omega|(simp only [zY01,zY03,zY04] at *;omega))]|rw [z9 (by first|omega|(simp only [zY01,zY03,zY04] at *;omega)) (by omega) (by omega)]|rw [if_pos (by omega)]|rw [if_neg (by omega)]|simp only [zY05,zY07])))];rfl)|exact z5 rfl (by rw [hF];rfl)|exact z6 rfl rfl (hO _ (by (repeat' (first|rfl|rw [za (by first|omega|(simp only [zY01,zY03,zY04] at *;omega))]|rw [z9 (by first|omega|(simp only [zY01,zY03,zY04] at *;omega)) (by omega) (by omega)]|rw [if_pos (by omega)]|rw [if_neg (by omega)]|simp only [zY05,zY07]))))|(refine zn rfl ?_;rw [zf])|(refine z6 rfl rfl ?_;rw [zf])|refine z02 rfl (fun h=>?_) (fun h=>?_)|refine tZn (fun h=>?_) (fun h=>?_))
 ·try simp only [p1,q1,z10,z15,zY07,zY05] at hF hO
  obtain ⟨fa1,fa2⟩:=id fa;obtain ⟨fb1,fb2⟩:=id fb
  by_cases hab:b<a
  ·have e7:z0v (decide (b<a))=1:=by with_unfolding_all simp [z0v,hab]
   rw [e7] at hF hO
   repeat' (first|refine dq1 ?_|refine dqc ?_|refine dqm ?_|refine dqK rfl (zg _) ?_|refine dqT ?_|refine dqF ?_|refine zt rfl ?_|refine zq rfl ?_|refine z0e ?_|refine z0f ?_|refine z4 (z7 (d:=I 2) rfl rfl rfl) ?_|refine z4 (z7 (d:=I 1) rfl rfl rfl) ?_|refine z4 (z7 (d:=I 0) rfl rfl rfl) ?_|refine z07 (zm rfl rfl (by omega) (by simp)) ?_|refine z4 (zo rfl rfl (by omega) rfl rfl) ?_|refine z4 (zp rfl rfl (by simp)) ?_|refine z4 (z04 rfl rfl) ?_|refine z4 (z05 rfl rfl (by omega)) ?_|refine z4 (zx rfl rfl (by decide) (by assumption)) ?_|exact z5 rfl (by rw [hF (by (repeat' (first|rfl|rw [za (by first|omega|(simp only [zY01,zY03,zY04] at *;omega))]|rw [z9 (by first|omega|(simp only [zY01,zY03,zY04] at *;omega)) (by omega) (by omega)]|rw [if_pos (by omega)]|rw [if_neg (by omega)]|simp only [zY05,zY07])))];rfl)|exact z5 rfl (by rw [hF];rfl)|exact z6 rfl rfl (hO _ (by (repeat' (first|rfl|rw [za (by first|omega|(simp only [zY01,zY03,zY04] at *;omega))]|rw [z9 (by first|omega|(simp only [zY01,zY03,zY04] at *;omega)) (by omega) (by omega)]|rw [if_pos (by omega)]|rw [if_neg (by omega)]|simp only [zY05,zY07]))))|(refine zn rfl ?_;rw [zf])|(refine z6 rfl rfl ?_;rw [zf])|refine z02 rfl (fun h=>?_) (fun h=>?_)|refine tZn (fun h=>?_) (fun h=>?_))
  ·have e7:z0v (decide (b<a))=0:=by with_unfolding_all simp [z0v,hab]
   rw [e7] at hF hO
   repeat' (first|refine dq1 ?_|refine dqc ?_|refine dqm ?_|refine dqK rfl (zg _) ?_|refine dqT ?_|refine dqF ?_|refine zt rfl ?_|refine zq rfl ?_|refine z0e ?_|refine z0f ?_|refine z4 (z7 (d:=I 2) rfl rfl rfl) ?_|refine z4 (z7 (d:=I 1) rfl rfl rfl) ?_|refine z4 (z7 (d:=I 0) rfl rfl rfl) ?_|refine z07 (zm rfl rfl (by omega) (by simp)) ?_|refine z4 (zo rfl rfl (by omega) rfl rfl) ?_|refine z4 (zp rfl rfl (by simp)) ?_|refine z4 (z04 rfl rfl) ?_|refine z4 (z05 rfl rfl (by omega)) ?_|refine z4 (zx rfl rfl (by decide) (by assumption)) ?_|exact z5 rfl (by rw [hF (by (repeat' (first|rfl|rw [za (by first|omega|(simp only [zY01,zY03,zY04] at *;omega))]|rw [z9 (by first|omega|(simp only [zY01,zY03,zY04] at *;omega)) (by omega) (by omega)]|rw [if_pos (by omega)]|rw [if_neg (by omega)]|simp only [zY05,zY07])))];rfl)|exact z5 rfl (by rw [hF];rfl)|exact z6 rfl rfl (hO _ (by (repeat' (first|rfl|rw [za (by first|omega|(simp only [zY01,zY03,zY04] at *;omega))]|rw [z9 (by first|omega|(simp only [zY01,zY03,zY04] at *;omega)) (by omega) (by omega)]|rw [if_pos (by omega)]|rw [if_neg (by omega)]|simp only [zY05,zY07]))))|(refine zn rfl ?_;rw [zf])|(refine z6 rfl rfl ?_;rw [zf])|refine z02 rfl (fun h=>?_) (fun h=>?_)|refine tZn (fun h=>?_) (fun h=>?_))
end
end Go.Proofs.YtjknfjbpmdfphaaGreat
