/- Own texts, put together by wip/bundle.py: VQ3, VQ4, VQ5, VQ6, VQ7, VQ8, VQ9, VQ10, VUB, VUD, VUE, VE2, VL5, VL5a, VL5b, VL5c. -/
import Derived.Deep.DeepCutAuto
import Derived.Deep.Light
import Derived.Sort.AssemblyPlain
import Derived.Shelf.SlSortFuncK.BreakPatternsK
import Derived.Shelf.GgSortFunc.SmallK
import Derived.Shelf.GgSortFunc.Slice
import Derived.Shelf.GgSortFunc.Tiny
import Derived.Test.YtmjelcjgllkapaaGreatDoorShelf4
import Derived.Test.YtmjelcjgllkapaaGreatDoorCMOwnB
import Derived.Test.YtmjelcjgllkapaaGreatDoorCMOwnC
import Derived.Test.YtmjelcjgllkapaaGreatDoorCMOwnR
import Derived.Test.YtmjelcjgllkapaaGreatDoorCMOwnS
import Derived.Test.YtmjelcjgllkapaaGreatDoorCMOwnT
import Derived.Test.YtmjelcjgllkapaaGreatDoorCMOwnV2
import Derived.Test.YtmjelcjgllkapaaGreatDoorCMOwnZ2
set_option linter.unusedVariables false
set_option linter.unusedSimpArgs false
set_option maxRecDepth 100000
set_option maxHeartbeats 8000000
namespace Go.Proofs.YtmjelcjgllkapaaGreatDoor
open Go.RowKit
section
open Go.Sort
section
variable {α:Type} {n B lf sf:Nat} {lb sb:Array Value} {St:Array α->World->Prop}
structure Cnt(B cb:Nat)(St:Array α->World->Prop)(d:Array α)(s:Nat)(w W:World):Prop where
 st:St d W
 os:W.os=w.os
 tape:W.tape=w.tape
 output:W.output=w.output
 size:w.heap.size<=W.heap.size
 same:∀b,B<=b->b<w.heap.size->b≠cb->W.heap[b]?=w.heap[b]?
 cn:W.heap[cb]?=some (.cells #[.int .i64 s] 3 (0,0))
theorem Cnt.cc{cb s:Nat}{d:Array α}{w W:World}(h:Cnt B cb St d s w W):W.cell? ⟨cb,0,none⟩=some (.int .i64 s):=by unfold World.cell?;rw[h.cn];rfl
theorem Cnt.cf{cb s:Nat}{d:Array α}{w W:World}(h:Cnt B cb St d s w W):W.frozen? ⟨cb,0,none⟩=false:=by unfold World.frozen?;rw[h.cn];rfl
theorem Cnt.trans{cb s s':Nat}{d d':Array α}{w W W':World}(h:Cnt B cb St d s w W)(k:Cnt B cb St d' s' W W'):Cnt B cb St d' s' w W' :=
 ⟨k.st,k.os.trans h.os,k.tape.trans h.tape,k.output.trans h.output,zY3n h.size k.size,λb h1 h2 h3=>(k.same b h1 (zY1v h2 h.size) h3).trans (h.same b h1 h2 h3),k.cn⟩
theorem Cnt.is_lt{cb s:Nat}{d:Array α}{w W:World}(h:Cnt B cb St d s w W):cb<W.heap.size:=by have:=h.cn;rw[zY15]at this;exact this.1
def Bxx(lf:Nat)(lb:Array Value)(sf:Nat)(sb:Array Value)(g:Nat)(W:World):Prop:=W.heap[g]?=some (.cells #[.func (.func lf) #[] lb,.func (.func sf) #[] sb] 202 (0,0))
theorem Bxx.c0{g:Nat}{W:World}(h:Bxx lf lb sf sb g W):W.cell? ⟨g,0,none⟩=some (.func (.func lf) #[] lb):=by unfold World.cell?;rw[show W.heap[g]?=_ from h];rfl
theorem Bxx.c1{g:Nat}{W:World}(h:Bxx lf lb sf sb g W):W.cell? ⟨g,1,none⟩=some (.func (.func sf) #[] sb):=by unfold World.cell?;rw[show W.heap[g]?=_ from h];rfl
theorem Bxx.is_lt{g:Nat}{W:World}(h:Bxx lf lb sf sb g W):g<W.heap.size:=by have:W.heap[g]?=_:=h;rw[zY15]at this;exact this.1
theorem Bxx.to{g cb s:Nat}{d:Array α}{W W':World}(h:Bxx lf lb sf sb g W)(k:Cnt B cb St d s W W')(hg:B<=g)(hne:g≠cb):Bxx lf lb sf sb g W':=(k.same g hg h.is_lt hne).trans h
theorem Cnt.fwd{cb s:Nat}{d:Array α}{w W W':World}(h:Cnt B cb St d s w W)(hcB:B<=cb)(hs:St d W'/\Fwd B W W'):Cnt B cb St d s w W' :=
 ⟨hs.1,hs.2.os.trans h.os,hs.2.tape.trans h.tape,hs.2.output.trans h.output,zY3n h.size hs.2.size,λb h1 h2 h3=>(hs.2.same b h1 (zY1v h2 h.size)).trans (h.same b h1 h2 h3),(hs.2.same _ hcB h.is_lt).trans h.cn⟩
end
section
variable {α:Type} [Inhabited α] {lt:α->α->Bool} {n B lf sf:Nat} {lb sb:Array Value} {St:Array α->World->Prop}
theorem Cnt.add(S:Srt lt n B lf lb sf sb St){cb s:Nat}{d:Array α}{w W:World}(h:Cnt B cb St d s w W)(hcB:B<=cb){s':Nat}{z:Int}(hz:z=(s':Int)):Cnt B cb St d s' w (W.setCell ⟨cb,0,none⟩ (.int .i64 z)):=by
 subst hz;have hl:=h.is_lt;have hsz:(W.setCell ⟨cb,0,none⟩ (.int .i64 (s':Int))).heap.size=W.heap.size:=by simp[World.setCell]
 refine⟨S.keep h.st ((Below.refl _ _).setCell hcB _),h.os,h.tape,h.output,by rw[hsz];exact h.size,λb h1 h2 h3=>(heap_setCell_other W _ b _ h3).trans (h.same b h1 h2 h3),?_⟩;have:=heap_setCell_same W cb 0 _ _ (.int .i64 (s':Int)) h.cn;simpa using this
theorem Cnt.start(S:Srt lt n B lf lb sf sb St){cb s:Nat}{d:Array α}{w:World}(h:St d w)(hc:w.heap[cb]?=some (.cells #[.int .i64 s] 3 (0,0)))(o:Obj):Cnt B cb St d s w (w.alloc o):=by
 have hb:=S.base h;have hl:cb<w.heap.size:=by rw[zY15]at hc;exact hc.1
 exact⟨S.keep h ((Below.refl _ _).alloc hb _),rfl,rfl,rfl,by rw[z5q];omega,λb _ h2 _=>zc4 _ _ h2,(zc4 _ _ hl).trans hc⟩
theorem zo1(S:Srt lt n B lf lb sf sb St){w:World}{d:Array α}(h:St d w){cb s:Nat}(hcB:B<=cb)(hc:w.heap[cb]?=some (.cells #[.int .i64 s] 3 (0,0)))(hs:s+1<4611686018427387904){a b:Nat}(ha:a<n)(hb:b<n) :
  Calls Tryz.prog 191 #[.agg #[.func (.func lf) #[] lb,.func (.func sf) #[] sb],.int .i64 a,.int .i64 b,.pointer (some ⟨cb,0,none⟩)] w λe w'=>e=.returned (.tuple #[.int .i64 ((order2 lt d a b s).1:Nat),.int .i64 ((order2 lt d a b s).2.1:Nat)])/\Cnt B cb St d (order2 lt d a b s).2.2 w w':=by
 have hw:=S.base h;have hl:cb<w.heap.size:=by rw[zY15]at hc;exact hc.1
 have hC:=Cnt.start S h hc (.cells #[.func (.func lf) #[] lb,.func (.func sf) #[] sb] 202);have hO:=On.start S h;have hbig:=S.big;have eg:=S.enters;have c0:=hO.c0;cases hl:lt d[b]! d[a]! with
 |true =>
  have hd:=S.less b a hO.st hb ha;rw[hl]at hd;have hv:order2 lt d a b s=(b,a,s+1):=by unfold order2;rw[hl];rfl
  rw[hv];clear hc hv hl hO;go_enter Tryz.func191,Tryz.ntmps191;go_wp2_with (refine hd.mono ?_;rintro e w1 ⟨rfl,hW1⟩;have hC1:=hC.fwd hcB hW1;have cc:=hC1.cc;have cf:=hC1.cf;simp only[]);go_ret2;exact⟨rfl,hC1.add S hcB zX0⟩
 |false =>
  have hd:=S.less b a hO.st hb ha;rw[hl]at hd;have hv:order2 lt d a b s=(a,b,s):=by unfold order2;rw[hl];rfl
  rw[hv];clear hc hv hl hO;go_enter Tryz.func191,Tryz.ntmps191;go_wp2_with (refine hd.mono ?_;rintro e w1 ⟨rfl,hW1⟩;have hC1:=hC.fwd hcB hW1;have cc:=hC1.cc;have cf:=hC1.cf;simp only[]);go_ret2;exact⟨rfl,hC1⟩
theorem zbh(lt:α->α->Bool)(d:Array α){a b s n:Nat}(ha:a<n)(hb:b<n):(order2 lt d a b s).1<n/\(order2 lt d a b s).2.1<n/\(order2 lt d a b s).2.2<=s+1:=by
 unfold order2;split
 ·exact⟨hb,ha,zY0k _⟩
 ·exact⟨ha,hb,by show s<=s+1;omega⟩
theorem zie(lt:α->α->Bool)(d:Array α){a b c s n:Nat}(ha:a<n)(hb:b<n)(hc:c<n):(median lt d a b c s).1<n/\(median lt d a b c s).2<=s+3:=by unfold median;have h1:=zbh lt d (s:=s) ha hb;have h2:=zbh lt d (s:=(order2 lt d a b s).2.2) h1.2.1 hc;have h3:=zbh lt d (s:=(order2 lt d (order2 lt d a b s).2.1 c (order2 lt d a b s).2.2).2.2) h1.1 h2.1;exact⟨h3.2.1,by dsimp only;omega⟩
theorem zo2(S:Srt lt n B lf lb sf sb St){w:World}{d:Array α}(h:St d w){cb s:Nat}(hcB:B<=cb)(hc:w.heap[cb]?=some (.cells #[.int .i64 s] 3 (0,0)))(hs:s+3<4611686018427387904){a b c:Nat}(ha:a<n)(hb:b<n)(hcn:c<n) :
  Calls Tryz.prog 173 #[.agg #[.func (.func lf) #[] lb,.func (.func sf) #[] sb],.int .i64 a,.int .i64 b,.int .i64 c,.pointer (some ⟨cb,0,none⟩)] w λe w'=>e=.returned (.int .i64 ((median lt d a b c s).1:Nat))/\Cnt B cb St d (median lt d a b c s).2 w w':=by
 have hw:=S.base h;have hl:cb<w.heap.size:=by rw[zY15]at hc;exact hc.1
 have hC:=Cnt.start S h hc (.cells #[.func (.func lf) #[] lb,.func (.func sf) #[] sb] 202);have hX:Bxx lf lb sf sb w.heap.size (w.alloc (.cells #[.func (.func lf) #[] lb,.func (.func sf) #[] sb] 202)):=zc3 _ _;have m1:=zbh lt d (s:=s) ha hb;obtain⟨a1,b1,s1,e1⟩:∃a1 b1 s1,order2 lt d a b s=(a1,b1,s1):=⟨_,_,_,rfl⟩
 rw[e1]at m1;obtain⟨ha1,hb1,hs1⟩:=m1;simp only at ha1 hb1 hs1;have m2:=zbh lt d (s:=s1) hb1 hcn;obtain⟨b2,c2,s2,e2⟩:∃a1 c1 s1',order2 lt d b1 c s1=(a1,c1,s1'):=⟨_,_,_,rfl⟩
 rw[e2]at m2;obtain⟨hb2,hc2,hs2⟩:=m2;simp only at hb2 hc2 hs2;obtain⟨a3,b3,s3,e3⟩:∃a3 b3 s3,order2 lt d a1 b2 s2=(a3,b3,s3):=⟨_,_,_,rfl⟩
 have hv:median lt d a b c s=(b3,s3):=by unfold median;simp only[e1,e2,e3]
 rw[hv];have hd1:=zo1 S hC.st hcB hC.cn (s:=s) zX0 ha hb;have hd2:=λW (hC:Cnt B cb St d s1 w W)=>zo1 S hC.st hcB hC.cn (s:=s1) zX0 hb1 hcn;have hd3:=λW (hC:Cnt B cb St d s2 w W)=>zo1 S hC.st hcB hC.cn (s:=s2) zX0 ha1 hb2;rw[e1]at hd1;simp only[e2,e3]at hd1 hd2 hd3;have H2:=Lib.hid hd2;have H3:=Lib.hid hd3;have c0:=hX.c0;have c1:=hX.c1;clear hd2 hd3 e1 e2 e3 hv hc;go_enter Tryz.func173,Tryz.ntmps173;go_wp2_with (first|(refine hd1.mono ?_;rintro e w1 ⟨rfl,hK⟩;clear hd1;have hX1:=hX.to hK hw zX0;have hC1:=hC.trans hK;have c0:=hX1.c0;have c1:=hX1.c1;have hd2:=H2.out _ hC1;simp only[])|(refine hd2.mono ?_;rintro e w2 ⟨rfl,hK2⟩;clear hd2;have hX2:=hX1.to hK2 hw zX0;have hC2:=hC1.trans hK2;have c0:=hX2.c0;have c1:=hX2.c1;have hd3:=H3.out _ hC2;simp only[])|(refine hd3.mono ?_;rintro e w3 ⟨rfl,hK3⟩;have hC3:=hC2.trans hK3;simp only[]));go_ret;exact⟨rfl,hC3⟩
theorem zo3(S:Srt lt n B lf lb sf sb St){w:World}{d:Array α}(h:St d w){cb s:Nat}(hcB:B<=cb)(hc:w.heap[cb]?=some (.cells #[.int .i64 s] 3 (0,0)))(hs:s+3<4611686018427387904){a:Nat}(ha:1<=a)(ha1:a+1<n) :
  Calls Tryz.prog 172 #[.agg #[.func (.func lf) #[] lb,.func (.func sf) #[] sb],.int .i64 a,.pointer (some ⟨cb,0,none⟩)] w λe w'=>e=.returned (.int .i64 ((medianAdjacent lt d a s).1:Nat))/\Cnt B cb St d (medianAdjacent lt d a s).2 w w':=by
 have hw:=S.base h;have hl:cb<w.heap.size:=by rw[zY15]at hc;exact hc.1
 have hC:=Cnt.start S h hc (.cells #[.func (.func lf) #[] lb,.func (.func sf) #[] sb] 202);have hX:Bxx lf lb sf sb w.heap.size (w.alloc (.cells #[.func (.func lf) #[] lb,.func (.func sf) #[] sb] 202)):=zc3 _ _;have hd1:=zo2 S hC.st hcB hC.cn (s:=s) (a:=a-1) (b:=a) (c:=a+1) zX0 zX0 zX0 zX0;rw[show((a-1:Nat):Int)=(a:Int)-1 by omega,show((a+1:Nat):Int)=(a:Int)+1 by omega]at hd1;have hbig:=S.big;unfold medianAdjacent;generalize median lt d (a-1) a (a+1) s=r at *;have c0:=hX.c0;have c1:=hX.c1;clear hc;go_enter Tryz.func172,Tryz.ntmps172;go_wp2_with (refine hd1.mono ?_;rintro e w1 ⟨rfl,hK⟩;clear hd1;have hC1:=hC.trans hK;simp only[]);go_ret;exact⟨rfl,hC1⟩
def z9b:Go.Sort.Hint->Int
 |.unknown=>0
 |.increasing=>1
 |.decreasing=>2
theorem z086(lt:α->α->Bool)(d:Array α)(a b:Nat){p s:Nat}(h:(if b-a>=8 then(if b-a>=50 then
  median lt d (medianAdjacent lt d (a+(b-a)/4*1) 0).1 (medianAdjacent lt d (a+(b-a)/4*2) (medianAdjacent lt d (a+(b-a)/4*1) 0).2).1 (medianAdjacent lt d (a+(b-a)/4*3) (medianAdjacent lt d (a+(b-a)/4*2) (medianAdjacent lt d (a+(b-a)/4*1) 0).2).2).1 (medianAdjacent lt d (a+(b-a)/4*3) (medianAdjacent lt d (a+(b-a)/4*2) (medianAdjacent lt d (a+(b-a)/4*1) 0).2).2).2
  else median lt d (a+(b-a)/4*1) (a+(b-a)/4*2) (a+(b-a)/4*3) 0)else(a+(b-a)/4*2,0))=(p,s)) :
  choosePivot lt d a b=(p,if s=0 then .increasing else if s=12 then .decreasing else .unknown):=by
 unfold choosePivot;simp only[h]
theorem z087{s:Nat}(h:s=0):z9b (if s=0 then Go.Sort.Hint.increasing else if s=12 then .decreasing else .unknown)=1:=by rw[zP h];rfl
theorem z02d{s:Nat}(h:s≠0)(h':s=12):z9b (if s=0 then Go.Sort.Hint.increasing else if s=12 then .decreasing else .unknown)=2:=by rw[zN h,zP h'];rfl
theorem z088{s:Nat}(h:s≠0)(h':s≠12):z9b (if s=0 then Go.Sort.Hint.increasing else if s=12 then .decreasing else .unknown)=0:=by rw[zN h,zN h'];rfl
theorem Cnt.new(S:Srt lt n B lf lb sf sb St){w:World}{d:Array α}(h:St d w)(o:Obj):Cnt B (w.heap.size+1) St d 0 ((w.alloc o).alloc (.cells #[.int .i64 0] 3)) ((w.alloc o).alloc (.cells #[.int .i64 0] 3)):=by have hb:=S.base h;refine⟨S.keep h (((Below.refl _ _).alloc hb _).alloc (by rw[z5q];omega) _),rfl,rfl,rfl,zY0k _,λ_ _ _ _=>rfl,?_⟩;have:=zc3 (w.alloc o) (.cells #[.int .i64 0] 3);rw[z5q]at this;exact this
theorem Cnt.done(S:Srt lt n B lf lb sf sb St){w:World}{s:Nat}{d:Array α}{W:World}{o o':Obj}(hw:B<=w.heap.size)(h:Cnt B (w.heap.size+1) St d s ((w.alloc o).alloc o') W):St d W/\Fwd B w W:=by have h1:=h.size;rw[z5q,z5q]at h1;refine⟨h.st,h.os,h.tape,h.output,by omega,λb h2 h3=>(h.same b h2 (by rw[z5q,z5q];omega) zX0).trans ?_⟩;rw[zc4 _ _ (by rw[z5q];omega),zc4 _ _ h3]
theorem z0b4(S:Srt lt n B lf lb sf sb St){w:World}{d:Array α}(h:St d w){a b:Nat}(hab:a<b)(hb:b<=n) :
  Calls Tryz.prog 157 #[.agg #[.func (.func lf) #[] lb,.func (.func sf) #[] sb],.int .i64 a,.int .i64 b] w λe w'=>e=.returned (.tuple #[.int .i64 ((choosePivot lt d a b).1:Nat),.int .i64 (z9b (choosePivot lt d a b).2)])/\St d w'/\Fwd B w w':=by
 have hw:=S.base h;have hC0:=Cnt.new S h (.cells #[.func (.func lf) #[] lb,.func (.func sf) #[] sb] 202);have hX0:Bxx lf lb sf sb w.heap.size ((w.alloc (.cells #[.func (.func lf) #[] lb,.func (.func sf) #[] sb] 202)).alloc (.cells #[.int .i64 0] 3)):=(zc4 _ _ (by rw[z5q];omega)).trans (zc3 _ _);have hbig:=S.big;have hcB:B<=w.heap.size+1:=zX0;have hg:w.heap.size≠w.heap.size+1:=zX0;have he:=λp s=>@z086 α _ lt d a b p s;obtain⟨I,hI⟩:∃I:Nat,I=a+(b-a)/4*1:=⟨_,rfl⟩
 obtain⟨J,hJ⟩:∃J:Nat,J=a+(b-a)/4*2:=⟨_,rfl⟩
 obtain⟨K,hK⟩:∃K:Nat,K=a+(b-a)/4*3:=⟨_,rfl⟩
 rw[<- hI,<- hJ,<- hK]at he;have eI:((a:Int)+((b:Int)-(a:Int))/4)=(I:Int):=zX0;have eJ:((a:Int)+((b:Int)-(a:Int))/4*2)=(J:Int):=zX0;have eK:((a:Int)+((b:Int)-(a:Int))/4*3)=(K:Int):=zX0;by_cases h8:b-a>=8
 rotate_left
 ·have hr:=he J 0 (by rw[zN h8]);rw[hr,show z9b (if 0=0 then Go.Sort.Hint.increasing else if 0=12 then .decreasing else .unknown)=1 from rfl];have z8:¬(8:Int)<=(b:Int)-(a:Int):=zX0;clear he hr hI hJ hK;go_enter Tryz.func157,Tryz.ntmps157;go_wp2;go_ret2;exact⟨rfl,hC0.done S hw⟩
 have z8:(8:Int)<=(b:Int)-(a:Int):=zX0;have hIn:I+1<n:=zX0;have hJn:J+1<n:=zX0;have hKn:K+1<n:=zX0;have hI1:1<=I:=zX0;have hJ1:1<=J:=zX0;have hK1:1<=K:=zX0;by_cases h50:b-a>=50
 ·have z50:(50:Int)<=(b:Int)-(a:Int):=zX0;obtain⟨i1,s1,e1⟩:∃i1 s1,medianAdjacent lt d I 0=(i1,s1):=⟨_,_,rfl⟩
  obtain⟨j1,s2,e2⟩:∃j1 s2,medianAdjacent lt d J s1=(j1,s2):=⟨_,_,rfl⟩
  obtain⟨k1,s3,e3⟩:∃k1 s3,medianAdjacent lt d K s2=(k1,s3):=⟨_,_,rfl⟩
  obtain⟨p,s,e4⟩:∃p s,median lt d i1 j1 k1 s3=(p,s):=⟨_,_,rfl⟩
  have m1:=zie lt d (a:=I-1) (b:=I) (c:=I+1) (s:=0) (n:=n) zX0 zX0 zX0;rw[show median lt d (I-1) I (I+1) 0=(i1,s1)from e1]at m1;have m2:=zie lt d (a:=J-1) (b:=J) (c:=J+1) (s:=s1) (n:=n) zX0 zX0 zX0;rw[show median lt d (J-1) J (J+1) s1=(j1,s2)from e2]at m2;have m3:=zie lt d (a:=K-1) (b:=K) (c:=K+1) (s:=s2) (n:=n) zX0 zX0 zX0;rw[show median lt d (K-1) K (K+1) s2=(k1,s3)from e3]at m3;simp only at m1 m2 m3;have hr:=he p s (by rw[zP h8,zP h50,e1,e2,e3];exact e4);rw[hr];clear he hr;obtain⟨Hc,hHc⟩:∃Hc:Int,Hc=z9b (if s=0 then Go.Sort.Hint.increasing else if s=12 then .decreasing else .unknown):=⟨_,rfl⟩
  have hh0:s=0->Hc=1:=λh=>by rw[hHc,z087 h]
  have hh12:s=12->Hc=2:=λh=>by rw[hHc,z02d zX0 h]
  have hhx:s≠0->s≠12->Hc=0:=λh1 h2=>by rw[hHc,z088 h1 h2]
  show Calls _ _ _ _ λe w'=>e=.returned (.tuple #[.int .i64 (p:Nat),.int .i64 (z9b (if s=0 then Go.Sort.Hint.increasing else if s=12 then .decreasing else .unknown))])/\_;rw[<- hHc];clear hHc;have hd1:=zo3 S hC0.st hcB hC0.cn (s:=0) (a:=I) zX0 hI1 hIn;have hd2:=λW (hC:Cnt B (w.heap.size+1) St d s1 _ W)=>zo3 S (Cnt.st (w:=(w.alloc (.cells #[.func (.func lf) #[] lb,.func (.func sf) #[] sb] 202)).alloc (.cells #[.int .i64 0] 3)) hC) hcB hC.cn (s:=s1) (a:=J) zX0 hJ1 hJn;have hd3:=λW (hC:Cnt B (w.heap.size+1) St d s2 _ W)=>zo3 S (Cnt.st (w:=(w.alloc (.cells #[.func (.func lf) #[] lb,.func (.func sf) #[] sb] 202)).alloc (.cells #[.int .i64 0] 3)) hC) hcB hC.cn (s:=s2) (a:=K) zX0 hK1 hKn;have hd4:=λW (hC:Cnt B (w.heap.size+1) St d s3 _ W)=>zo2 S (Cnt.st (w:=(w.alloc (.cells #[.func (.func lf) #[] lb,.func (.func sf) #[] sb] 202)).alloc (.cells #[.int .i64 0] 3)) hC) hcB hC.cn (s:=s3) (a:=i1) (b:=j1) (c:=k1) zX0 m1.1 m2.1 m3.1;simp only[e1,e2,e3,e4]at hd1 hd2 hd3 hd4;have H2:=Lib.hid hd2;have H3:=Lib.hid hd3;have H4:=Lib.hid hd4;clear hd2 hd3 hd4 e1 e2 e3 e4 hI hJ hK m1 m2 m3;have c0:=hX0.c0;have c1:=hX0.c1;go_enter Tryz.func157,Tryz.ntmps157;go_wp2_with (first|(refine hd1.mono ?_;rintro e w1 ⟨rfl,hQ1⟩;clear hd1 c0 c1;have hX1:=hX0.to hQ1 hw hg;have hC1:=hC0.trans hQ1;have c0:=hX1.c0;have c1:=hX1.c1;have hd2:=H2.out _ hC1;simp only[])|(refine hd2.mono ?_;rintro e w2 ⟨rfl,hQ2⟩;clear hd2 c0 c1;have hX2:=hX1.to hQ2 hw hg;have hC2:=hC1.trans hQ2;have c0:=hX2.c0;have c1:=hX2.c1;have hd3:=H3.out _ hC2;simp only[])|(refine hd3.mono ?_;rintro e w3 ⟨rfl,hQ3⟩;clear hd3 c0 c1;have hX3:=hX2.to hQ3 hw hg;have hC3:=hC2.trans hQ3;have c0:=hX3.c0;have c1:=hX3.c1;have hd4:=H4.out _ hC3;simp only[])|(refine hd4.mono ?_;rintro e w4 ⟨rfl,hQ4⟩;clear hd4 c0 c1;have hC4:=hC3.trans hQ4;have cc:=hC4.cc;simp only[]));all_goals
   go_ret2;refine⟨?_,hC4.done S hw⟩;first|(rw[hh0 (by(have y:=‹((s:Int)==0)=true›;simp at y;omega))];rfl)|(rw[hh12 zX18];rfl)|(rw[hhx zX19 zX17];rfl)
 ·have z50:¬(50:Int)<=(b:Int)-(a:Int):=zX0;obtain⟨p,s,e4⟩:∃p s,median lt d I J K 0=(p,s):=⟨_,_,rfl⟩
  have hr:=he p s (by rw[zP h8,zN h50];exact e4);rw[hr];clear he hr;obtain⟨Hc,hHc⟩:∃Hc:Int,Hc=z9b (if s=0 then Go.Sort.Hint.increasing else if s=12 then .decreasing else .unknown):=⟨_,rfl⟩
  have hh0:s=0->Hc=1:=λh=>by rw[hHc,z087 h]
  have hh12:s=12->Hc=2:=λh=>by rw[hHc,z02d zX0 h]
  have hhx:s≠0->s≠12->Hc=0:=λh1 h2=>by rw[hHc,z088 h1 h2]
  show Calls _ _ _ _ λe w'=>e=.returned (.tuple #[.int .i64 (p:Nat),.int .i64 (z9b (if s=0 then Go.Sort.Hint.increasing else if s=12 then .decreasing else .unknown))])/\_;rw[<- hHc];clear hHc;have hd4:=zo2 S hC0.st hcB hC0.cn (s:=0) (a:=I) (b:=J) (c:=K) zX0 zX0 zX0 zX0;rw[e4]at hd4;clear e4 hI hJ hK;have c0:=hX0.c0;have c1:=hX0.c1;go_enter Tryz.func157,Tryz.ntmps157;go_wp2_with (refine hd4.mono ?_;rintro e w4 ⟨rfl,hQ4⟩;clear hd4 c0 c1;have hC4:=hC0.trans hQ4;have cc:=hC4.cc;simp only[]);all_goals
   go_ret2;refine⟨?_,hC4.done S hw⟩;first|(rw[hh0 (by(have y:=‹((s:Int)==0)=true›;simp at y;omega))];rfl)|(rw[hh12 zX18];rfl)|(rw[hhx zX19 zX17];rfl)
end
end
section
open Go.Sort
section
variable {α:Type} [Inhabited α] {lt:α->α->Bool} {n B lf sf:Nat} {lb sb:Array Value} {St:Array α->World->Prop}
theorem z04t(p:α->Bool)(d:Array α)(j i:Nat)(h:(decide (i<=j)&&p d[i]!)=true):scanUp p d j i=scanUp p d j (i+1):=by rw[scanUp,zP h]
theorem zyj(p:α->Bool)(d:Array α)(j i:Nat)(h:(decide (i<=j)&&p d[i]!)=false):scanUp p d j i=i:=by rw[scanUp,zN (by rw[h];exact zY3i)]
theorem zs3(p:α->Bool)(d:Array α)(i j:Nat)(h0:1<=j)(h:(decide (i<=j)&&p d[j]!)=true):scanDown p d i j=scanDown p d i (j-1):=by
 obtain⟨k,rfl⟩:∃k,j=k+1:=⟨j-1,by omega⟩
 rw[scanDown,zP h];rfl
theorem zo4(p:α->Bool)(d:Array α)(i j:Nat)(h:(decide (i<=j)&&p d[j]!)=false):scanDown p d i j=j:=by
 cases j with
 |zero=>rfl
 |succ k=>rw[scanDown,zN (by rw[h];exact zY3i)]
theorem z016{a i j i2 j2:Nat}{d:Array α}(h1:scanUp (λx=>lt x d[a]!) d j i=i2)(h2:scanDown (λx => !lt x d[a]!) d i2 j=j2)(h:i2<=j2)(hi:i<=i2)(hj:j2<=j)(h0:1<=i2):partLoop lt a i j d=partLoop lt a (i2+1) (j2-1) (swp d i2 j2):=by rw[partLoop,h1];simp only[h2];rw[zN zX0,dif_pos zX0]
theorem zyk{a i j i2 j2:Nat}{d:Array α}(h1:scanUp (λx=>lt x d[a]!) d j i=i2)(h2:scanDown (λx => !lt x d[a]!) d i2 j=j2)(h:¬i2<=j2):partLoop lt a i j d=(j2,d):=by rw[partLoop,h1];simp only[h2];rw[zP zX0]
theorem z089{a i j i2 j2:Nat}{d:Array α}(h1:scanUp (λx => !lt d[a]! x) d j i=i2)(h2:scanDown (λx=>lt d[a]! x) d i2 j=j2)(h:i2<=j2)(hi:i<=i2)(hj:j2<=j)(h0:1<=i2):partEqLoop lt a i j d=partEqLoop lt a (i2+1) (j2-1) (swp d i2 j2):=by rw[partEqLoop,h1];simp only[h2];rw[zN zX0,dif_pos zX0]
theorem z04u{a i j i2 j2:Nat}{d:Array α}(h1:scanUp (λx => !lt d[a]! x) d j i=i2)(h2:scanDown (λx=>lt d[a]! x) d i2 j=j2)(h:¬i2<=j2):partEqLoop lt a i j d=(i2,d):=by rw[partEqLoop,h1];simp only[h2];rw[zP zX0]
theorem z0b5(S:Srt lt n B lf lb sf sb St){w:World}{d:Array α}(h:St d w){a b pivot:Nat}(hab:a<b)(hb:b<=n)(hp:pivot<n) :
  Calls Tryz.prog 160 #[.agg #[.func (.func lf) #[] lb,.func (.func sf) #[] sb],.int .i64 a,.int .i64 b,.int .i64 pivot] w λe w'=>e=.returned (.int .i64 ((partitionEqual lt d a b pivot).1:Nat))/\St (partitionEqual lt d a b pivot).2 w'/\Fwd B w w':=by
 have hw:=S.base h;have hO:=On.start S h;have hbig:=S.big;have eg:=S.enters;have c1:=hO.c1;obtain⟨w2,hs,hV⟩:=hO.swap S hw (i:=a) (j:=pivot) (x:=a) (y:=pivot) zX0 zX0 rfl rfl;have HS:=Lib.hid hs;clear hs;go_enter Tryz.func160,Tryz.ntmps160;go_wp2_with (rw[HS.out,Oper.upon_value]);clear hO c1 HS;go_loopg [9,10] b (λkx vi vj wr=>∃(i j:Nat) (dk:Array α),vi=.int .i64 i/\vj=.int .i64 j/\a+1<=i/\i<=n/\j<b/\j<kx/\On B lf lb sf sb St w dk wr/\Hid (partEqLoop lt a i j dk=partEqLoop lt a (a+1) (b-1) (swp d a pivot)));case atStart=>exact⟨a+1,b-1,_,by go_num,by go_num,by omega,by omega,by omega,by omega,hV,rfl⟩
 case round =>
  obtain⟨i,j,dk,rfl,rfl,hai,hin,hjb,hkx,hW,HO⟩:=hrel;clear hV;go_wp2;go_loopg [9] (n+1) (λkx v wr=>∃i2:Nat,v=.int .i64 i2/\i<=i2/\i2<=n/\n-i2<kx/\On B lf lb sf sb St w dk wr/\Hid (scanUp (λx => !lt dk[a]! x) dk j i2=scanUp (λx => !lt dk[a]! x) dk j (i)));case atStart=>exact⟨i,rfl,by omega,by omega,by omega,hW,rfl⟩
  case round =>
   obtain⟨i2,rfl,hi20,hi21,hki2,hi2W,Hi2⟩:=hrel;clear hW;have c0:=hi2W.c0;go_upto_region 3 with fail;go_cut [30] (λc wx=>c=.bool (decide (i2<=j)&&(λx => !lt dk[a]! x) dk[i2]!)/\On B lf lb sf sb St w dk wx);case first =>
    by_cases hz:i2<=j
    ·have hzz:(i2:Int)<=((j:Nat):Int):=zX0;cases hl:lt dk[a]! dk[i2]! with
     |true =>have hc:=hi2W.less S hw (i:=a) (j:=i2) (x:=a) (y:=i2) zX0 zX0 rfl rfl hl;have HL:=Lib.hid hl;clear hl;go_wp2_with (refine hc.mono ?_;rintro e w1 ⟨rfl,hU⟩;simp only[];clear hc);go_meet;exact⟨by rw[decide_eq_true hz];show _=Value.bool (true && !lt dk[a]! dk[i2]!);rw[HL.out];rfl,hU⟩
     |false =>have hc:=hi2W.less S hw (i:=a) (j:=i2) (x:=a) (y:=i2) zX0 zX0 rfl rfl hl;have HL:=Lib.hid hl;clear hl;go_wp2_with (refine hc.mono ?_;rintro e w1 ⟨rfl,hU⟩;simp only[];clear hc);go_meet;exact⟨by rw[decide_eq_true hz];show _=Value.bool (true && !lt dk[a]! dk[i2]!);rw[HL.out];rfl,hU⟩
    ·have hzz:¬(i2:Int)<=((j:Nat):Int):=zX0;go_wp2_with fail;go_meet;exact⟨by rw[decide_eq_false hz];rfl,hi2W⟩
   case rest =>
    obtain⟨rfl,hi2X⟩:=hcut;clear hi2W c0;cases hb:(decide (i2<=j)&&(λx => !lt dk[a]! x) dk[i2]!)with
    |true =>
     have HB:=Lib.hid hb;have hi2J:i2<=j:=by(rw[zY0e]at hb;exact of_decide_eq_true hb.1)
     clear hb;go_wp2;go_roundg (n-i2);case measure=>omega
     case rel=>exact⟨i2+1,by go_num,by omega,by omega,by omega,hi2X,by show Hid _;rw[<- Hi2.out,z04t (λx => !lt dk[a]! x) dk (j) i2 HB.out];exact rfl⟩
    |false =>
     have Ei2:Hid (scanUp (λx => !lt dk[a]! x) dk j (i)=i2):=by(show _=_;rw[<- Hi2.out,zyj (λx => !lt dk[a]! x) dk (j) i2 hb])
     clear hb Hi2;go_wp2;go_loopg [10] (j+1) (λky v wr=>∃j2:Nat,v=.int .i64 j2/\j2<=j/\j2<ky/\On B lf lb sf sb St w dk wr/\Hid (scanDown (λx=>lt dk[a]! x) dk i2 j2=scanDown (λx=>lt dk[a]! x) dk i2 (j)));case atStart=>exact⟨j,rfl,zY0k _,zY29 _,hi2X,rfl⟩
     case round =>
      obtain⟨j2,rfl,hj20,hkj2,hj2W,Hj2⟩:=hrel;clear hi2X;have c0:=hj2W.c0;go_upto_region 5 with fail;go_cut [42] (λc wx=>c=.bool (decide (i2<=j2)&&(λx=>lt dk[a]! x) dk[j2]!)/\On B lf lb sf sb St w dk wx);case first =>
       by_cases hz:i2<=j2
       ·have hzz:(i2:Int)<=(j2:Int):=zX0;cases hl:lt dk[a]! dk[j2]! with
        |true =>have hc:=hj2W.less S hw (i:=a) (j:=j2) (x:=a) (y:=j2) zX0 zX0 rfl rfl hl;have HL:=Lib.hid hl;clear hl;go_wp2_with (refine hc.mono ?_;rintro e w1 ⟨rfl,hU⟩;simp only[];clear hc);go_meet;exact⟨by rw[decide_eq_true hz];show _=Value.bool (true&&lt dk[a]! dk[j2]!);rw[HL.out];rfl,hU⟩
        |false =>have hc:=hj2W.less S hw (i:=a) (j:=j2) (x:=a) (y:=j2) zX0 zX0 rfl rfl hl;have HL:=Lib.hid hl;clear hl;go_wp2_with (refine hc.mono ?_;rintro e w1 ⟨rfl,hU⟩;simp only[];clear hc);go_meet;exact⟨by rw[decide_eq_true hz];show _=Value.bool (true&&lt dk[a]! dk[j2]!);rw[HL.out];rfl,hU⟩
       ·have hzz:¬(i2:Int)<=(j2:Int):=zX0;go_wp2_with fail;go_meet;exact⟨by rw[decide_eq_false hz];rfl,hj2W⟩
      case rest =>
       obtain⟨rfl,hj2X⟩:=hcut;clear hj2W c0;cases hb:(decide (i2<=j2)&&(λx=>lt dk[a]! x) dk[j2]!)with
       |true =>
        have HB:=Lib.hid hb;have hj2J:i2<=j2:=by(rw[zY0e]at hb;exact of_decide_eq_true hb.1)
        clear hb;go_wp2;go_roundg j2;case measure=>omega
        case rel=>exact⟨j2-1,by go_num,by omega,by omega,hj2X,by show Hid _;rw[<- Hj2.out,zs3 (λx=>lt dk[a]! x) dk i2 j2 zX0 HB.out];exact rfl⟩
       |false =>
        have Ej2:Hid (scanDown (λx=>lt dk[a]! x) dk i2 (j)=j2):=by(show _=_;rw[<- Hj2.out,zo4 (λx=>lt dk[a]! x) dk i2 j2 hb])
        clear hb Hj2;by_cases hz:i2<=j2
        ·have hzz:¬((j2:Nat):Int)<(i2:Int):=zX0;have c1:=hj2X.c1;obtain⟨w2,hs,hV⟩:=hj2X.swap S hw (i:=i2) (j:=j2) (x:=i2) (y:=j2) zX0 zX0 rfl rfl;have HS:=Lib.hid hs;clear hs;go_wp2_with (rw[HS.out,Oper.upon_value]);go_roundg j;case measure=>omega
         case rel=>exact⟨i2+1,j2-1,_,by go_num,by go_num,by omega,by omega,by omega,by omega,hV,by show Hid _;rw[<- HO.out,z089 Ei2.out Ej2.out hz zX0 zX0 zX0];exact rfl⟩
        ·have hzz:((j2:Nat):Int)<(i2:Int):=zX0;go_wp2;go_ret;have hv:partEqLoop lt a (a+1) (b-1) (swp d a pivot)=(i2,dk):=by rw[<- HO.out];exact z04u Ei2.out Ej2.out hz
         refine⟨?_,?_,hj2X.fwd⟩
         ·unfold partitionEqual;rw[hv];rfl
         ·unfold partitionEqual;rw[hv];exact hj2X.st
theorem z0b6(lt:α->α->Bool)(d:Array α)(a b p:Nat){i j:Nat}(h1:scanUp (λx=>lt x (swp d a p)[a]!) (swp d a p) (b-1) (a+1)=i)(h2:scanDown (λx => !lt x (swp d a p)[a]!) (swp d a p) i (b-1)=j)(h:¬i<=j):partition lt d a b p=(j,true,swp (swp d a p) j a):=by unfold partition;simp only[h1,h2];rw[zP zX0]
theorem z0e3(lt:α->α->Bool)(d:Array α)(a b p:Nat){i j:Nat}(h1:scanUp (λx=>lt x (swp d a p)[a]!) (swp d a p) (b-1) (a+1)=i)(h2:scanDown (λx => !lt x (swp d a p)[a]!) (swp d a p) i (b-1)=j)(h:i<=j):partition lt d a b p=((partLoop lt a (i+1) (j-1) (swp (swp d a p) i j)).1,false,swp (partLoop lt a (i+1) (j-1) (swp (swp d a p) i j)).2 (partLoop lt a (i+1) (j-1) (swp (swp d a p) i j)).1 a):=by unfold partition;simp only[h1,h2];rw[zN zX0]
theorem z0gc(S:Srt lt n B lf lb sf sb St){w:World}{d:Array α}(h:St d w){a b pivot:Nat}(hab:a<b)(hb:b<=n)(hp:pivot<n) :
  Calls Tryz.prog 161 #[.agg #[.func (.func lf) #[] lb,.func (.func sf) #[] sb],.int .i64 a,.int .i64 b,.int .i64 pivot] w λe w'=>e=.returned (.tuple #[.int .i64 ((partition lt d a b pivot).1:Nat),.bool (partition lt d a b pivot).2.1])/\St (partition lt d a b pivot).2.2 w'/\Fwd B w w':=by
 have hw:=S.base h;have hO:=On.start S h;have hbig:=S.big;have eg:=S.enters;have c1:=hO.c1;obtain⟨w2,hs,hV⟩:=hO.swap S hw (i:=a) (j:=pivot) (x:=a) (y:=pivot) zX0 zX0 rfl rfl;have HS:=Lib.hid hs;clear hs;go_enter Tryz.func161,Tryz.ntmps161;go_wp2_with (rw[HS.out,Oper.upon_value]);clear hO c1 HS;go_loopg [10] (n+1) (λkx v wr=>∃i0:Nat,v=.int .i64 i0/\(a+1)<=i0/\i0<=n/\n-i0<kx/\On B lf lb sf sb St w (swp d a pivot) wr/\Hid (scanUp (λx=>lt x (swp d a pivot)[a]!) (swp d a pivot) (b-1) i0=scanUp (λx=>lt x (swp d a pivot)[a]!) (swp d a pivot) (b-1) ((a+1))));case atStart=>exact⟨(a+1),by go_num,by omega,by omega,by omega,hV,rfl⟩
 case round =>
  obtain⟨i0,rfl,hi00,hi01,hki0,hi0W,Hi0⟩:=hrel;clear hV;have c0:=hi0W.c0;go_upto_region 3 with fail;go_cut [30] (λc wx=>c=.bool (decide (i0<=(b-1))&&(λx=>lt x (swp d a pivot)[a]!) (swp d a pivot)[i0]!)/\On B lf lb sf sb St w (swp d a pivot) wx);case first =>
   by_cases hz:i0<=(b-1)
   ·have hzz:(i0:Int)<=(((b-1):Nat):Int):=zX0;cases hl:lt (swp d a pivot)[i0]! (swp d a pivot)[a]! with
    |true =>have hc:=hi0W.less S hw (i:=i0) (j:=a) (x:=i0) (y:=a) zX0 zX0 rfl rfl hl;have HL:=Lib.hid hl;clear hl;go_wp2_with (refine hc.mono ?_;rintro e w1 ⟨rfl,hU⟩;simp only[];clear hc);go_meet;exact⟨by rw[decide_eq_true hz];show _=Value.bool (true&&lt (swp d a pivot)[i0]! (swp d a pivot)[a]!);rw[HL.out];rfl,hU⟩
    |false =>have hc:=hi0W.less S hw (i:=i0) (j:=a) (x:=i0) (y:=a) zX0 zX0 rfl rfl hl;have HL:=Lib.hid hl;clear hl;go_wp2_with (refine hc.mono ?_;rintro e w1 ⟨rfl,hU⟩;simp only[];clear hc);go_meet;exact⟨by rw[decide_eq_true hz];show _=Value.bool (true&&lt (swp d a pivot)[i0]! (swp d a pivot)[a]!);rw[HL.out];rfl,hU⟩
   ·have hzz:¬(i0:Int)<=(((b-1):Nat):Int):=zX0;go_wp2_with fail;go_meet;exact⟨by rw[decide_eq_false hz];rfl,hi0W⟩
  case rest =>
   obtain⟨rfl,hi0X⟩:=hcut;clear hi0W c0;cases hb:(decide (i0<=(b-1))&&(λx=>lt x (swp d a pivot)[a]!) (swp d a pivot)[i0]!)with
   |true =>
    have HB:=Lib.hid hb;have hi0J:i0<=(b-1):=by(rw[zY0e]at hb;exact of_decide_eq_true hb.1)
    clear hb;go_wp2;go_roundg (n-i0);case measure=>omega
    case rel=>exact⟨i0+1,by go_num,by omega,by omega,by omega,hi0X,by show Hid _;rw[<- Hi0.out,z04t (λx=>lt x (swp d a pivot)[a]!) (swp d a pivot) ((b-1)) i0 HB.out];exact rfl⟩
   |false =>
    have Ei0:Hid (scanUp (λx=>lt x (swp d a pivot)[a]!) (swp d a pivot) (b-1) ((a+1))=i0):=by(show _=_;rw[<- Hi0.out,zyj (λx=>lt x (swp d a pivot)[a]!) (swp d a pivot) ((b-1)) i0 hb])
    clear hb Hi0;go_wp2;go_loopg [11] ((b-1)+1) (λky v wr=>∃j0:Nat,v=.int .i64 j0/\j0<=(b-1)/\j0<ky/\On B lf lb sf sb St w (swp d a pivot) wr/\Hid (scanDown (λx => !lt x (swp d a pivot)[a]!) (swp d a pivot) i0 j0=scanDown (λx => !lt x (swp d a pivot)[a]!) (swp d a pivot) i0 ((b-1))));case atStart=>exact⟨(b-1),by go_num,zY0k _,zY29 _,hi0X,rfl⟩
    case round =>
     obtain⟨j0,rfl,hj00,hkj0,hj0W,Hj0⟩:=hrel;clear hi0X;have c0:=hj0W.c0;go_upto_region 5 with fail;go_cut [43] (λc wx=>c=.bool (decide (i0<=j0)&&(λx => !lt x (swp d a pivot)[a]!) (swp d a pivot)[j0]!)/\On B lf lb sf sb St w (swp d a pivot) wx);case first =>
      by_cases hz:i0<=j0
      ·have hzz:(i0:Int)<=(j0:Int):=zX0;cases hl:lt (swp d a pivot)[j0]! (swp d a pivot)[a]! with
       |true =>have hc:=hj0W.less S hw (i:=j0) (j:=a) (x:=j0) (y:=a) zX0 zX0 rfl rfl hl;have HL:=Lib.hid hl;clear hl;go_wp2_with (refine hc.mono ?_;rintro e w1 ⟨rfl,hU⟩;simp only[];clear hc);go_meet;exact⟨by rw[decide_eq_true hz];show _=Value.bool (true && !lt (swp d a pivot)[j0]! (swp d a pivot)[a]!);rw[HL.out];rfl,hU⟩
       |false =>have hc:=hj0W.less S hw (i:=j0) (j:=a) (x:=j0) (y:=a) zX0 zX0 rfl rfl hl;have HL:=Lib.hid hl;clear hl;go_wp2_with (refine hc.mono ?_;rintro e w1 ⟨rfl,hU⟩;simp only[];clear hc);go_meet;exact⟨by rw[decide_eq_true hz];show _=Value.bool (true && !lt (swp d a pivot)[j0]! (swp d a pivot)[a]!);rw[HL.out];rfl,hU⟩
      ·have hzz:¬(i0:Int)<=(j0:Int):=zX0;go_wp2_with fail;go_meet;exact⟨by rw[decide_eq_false hz];rfl,hj0W⟩
     case rest =>
      obtain⟨rfl,hj0X⟩:=hcut;clear hj0W c0;cases hb:(decide (i0<=j0)&&(λx => !lt x (swp d a pivot)[a]!) (swp d a pivot)[j0]!)with
      |true =>
       have HB:=Lib.hid hb;have hj0J:i0<=j0:=by(rw[zY0e]at hb;exact of_decide_eq_true hb.1)
       clear hb;go_wp2;go_roundg j0;case measure=>omega
       case rel=>exact⟨j0-1,by go_num,by omega,by omega,hj0X,by show Hid _;rw[<- Hj0.out,zs3 (λx => !lt x (swp d a pivot)[a]!) (swp d a pivot) i0 j0 zX0 HB.out];exact rfl⟩
      |false =>
       have Ej0:Hid (scanDown (λx => !lt x (swp d a pivot)[a]!) (swp d a pivot) i0 ((b-1))=j0):=by(show _=_;rw[<- Hj0.out,zo4 (λx => !lt x (swp d a pivot)[a]!) (swp d a pivot) i0 j0 hb])
       clear hb Hj0;have HV:Hid _:=z0e3 lt d a b pivot Ei0.out Ej0.out;by_cases hz:i0<=j0
       ·have hzz:¬((j0:Nat):Int)<(i0:Int):=zX0;have hz0:Hid (i0<=j0):=hz;have c1:=hj0X.c1;obtain⟨w2,hs,hV⟩:=hj0X.swap S hw (i:=i0) (j:=j0) (x:=i0) (y:=j0) zX0 zX0 rfl rfl;have HS:=Lib.hid hs;clear hs;go_wp2_with (rw[HS.out,Oper.upon_value]);clear hj0X c1 HS Ei0 Ej0;go_loopg [10,11] b (λkx vi vj wr=>∃(i j:Nat) (dk:Array α),vi=.int .i64 i/\vj=.int .i64 j/\a+1<=i/\i<=n/\j<b/\j<kx/\On B lf lb sf sb St w dk wr/\Hid (partLoop lt a i j dk=partLoop lt a (i0+1) (j0-1) (swp (swp d a pivot) i0 j0)));case atStart=>exact⟨i0+1,j0-1,_,by go_num,by go_num,by omega,by omega,by omega,by omega,hV,rfl⟩
        case round =>
         obtain⟨i,j,dk,rfl,rfl,hai,hin,hjb,hkx,hW,HO⟩:=hrel;clear hV;go_wp2;go_loopg [10] (n+1) (λkx v wr=>∃i2:Nat,v=.int .i64 i2/\i<=i2/\i2<=n/\n-i2<kx/\On B lf lb sf sb St w dk wr/\Hid (scanUp (λx=>lt x dk[a]!) dk j i2=scanUp (λx=>lt x dk[a]!) dk j (i)));case atStart=>exact⟨i,rfl,by omega,by omega,by omega,hW,rfl⟩
         case round =>
          obtain⟨i2,rfl,hi20,hi21,hki2,hi2W,Hi2⟩:=hrel;clear hW;have c0:=hi2W.c0;go_upto_region 13 with fail;go_cut [73] (λc wx=>c=.bool (decide (i2<=j)&&(λx=>lt x dk[a]!) dk[i2]!)/\On B lf lb sf sb St w dk wx);case first =>
           by_cases hz:i2<=j
           ·have hzz:(i2:Int)<=((j:Nat):Int):=zX0;cases hl:lt dk[i2]! dk[a]! with
            |true =>have hc:=hi2W.less S hw (i:=i2) (j:=a) (x:=i2) (y:=a) zX0 zX0 rfl rfl hl;have HL:=Lib.hid hl;clear hl;go_wp2_with (refine hc.mono ?_;rintro e w1 ⟨rfl,hU⟩;simp only[];clear hc);go_meet;exact⟨by rw[decide_eq_true hz];show _=Value.bool (true&&lt dk[i2]! dk[a]!);rw[HL.out];rfl,hU⟩
            |false =>have hc:=hi2W.less S hw (i:=i2) (j:=a) (x:=i2) (y:=a) zX0 zX0 rfl rfl hl;have HL:=Lib.hid hl;clear hl;go_wp2_with (refine hc.mono ?_;rintro e w1 ⟨rfl,hU⟩;simp only[];clear hc);go_meet;exact⟨by rw[decide_eq_true hz];show _=Value.bool (true&&lt dk[i2]! dk[a]!);rw[HL.out];rfl,hU⟩
           ·have hzz:¬(i2:Int)<=((j:Nat):Int):=zX0;go_wp2_with fail;go_meet;exact⟨by rw[decide_eq_false hz];rfl,hi2W⟩
          case rest =>
           obtain⟨rfl,hi2X⟩:=hcut;clear hi2W c0;cases hb:(decide (i2<=j)&&(λx=>lt x dk[a]!) dk[i2]!)with
           |true =>
            have HB:=Lib.hid hb;have hi2J:i2<=j:=by(rw[zY0e]at hb;exact of_decide_eq_true hb.1)
            clear hb;go_wp2;go_roundg (n-i2);case measure=>omega
            case rel=>exact⟨i2+1,by go_num,by omega,by omega,by omega,hi2X,by show Hid _;rw[<- Hi2.out,z04t (λx=>lt x dk[a]!) dk (j) i2 HB.out];exact rfl⟩
           |false =>
            have Ei2:Hid (scanUp (λx=>lt x dk[a]!) dk j (i)=i2):=by(show _=_;rw[<- Hi2.out,zyj (λx=>lt x dk[a]!) dk (j) i2 hb])
            clear hb Hi2;go_wp2;go_loopg [11] (j+1) (λky v wr=>∃j2:Nat,v=.int .i64 j2/\j2<=j/\j2<ky/\On B lf lb sf sb St w dk wr/\Hid (scanDown (λx => !lt x dk[a]!) dk i2 j2=scanDown (λx => !lt x dk[a]!) dk i2 (j)));case atStart=>exact⟨j,rfl,zY0k _,zY29 _,hi2X,rfl⟩
            case round =>
             obtain⟨j2,rfl,hj20,hkj2,hj2W,Hj2⟩:=hrel;clear hi2X;have c0:=hj2W.c0;go_upto_region 15 with fail;go_cut [86] (λc wx=>c=.bool (decide (i2<=j2)&&(λx => !lt x dk[a]!) dk[j2]!)/\On B lf lb sf sb St w dk wx);case first =>
              by_cases hz:i2<=j2
              ·have hzz:(i2:Int)<=(j2:Int):=zX0;cases hl:lt dk[j2]! dk[a]! with
               |true =>have hc:=hj2W.less S hw (i:=j2) (j:=a) (x:=j2) (y:=a) zX0 zX0 rfl rfl hl;have HL:=Lib.hid hl;clear hl;go_wp2_with (refine hc.mono ?_;rintro e w1 ⟨rfl,hU⟩;simp only[];clear hc);go_meet;exact⟨by rw[decide_eq_true hz];show _=Value.bool (true && !lt dk[j2]! dk[a]!);rw[HL.out];rfl,hU⟩
               |false =>have hc:=hj2W.less S hw (i:=j2) (j:=a) (x:=j2) (y:=a) zX0 zX0 rfl rfl hl;have HL:=Lib.hid hl;clear hl;go_wp2_with (refine hc.mono ?_;rintro e w1 ⟨rfl,hU⟩;simp only[];clear hc);go_meet;exact⟨by rw[decide_eq_true hz];show _=Value.bool (true && !lt dk[j2]! dk[a]!);rw[HL.out];rfl,hU⟩
              ·have hzz:¬(i2:Int)<=(j2:Int):=zX0;go_wp2_with fail;go_meet;exact⟨by rw[decide_eq_false hz];rfl,hj2W⟩
             case rest =>
              obtain⟨rfl,hj2X⟩:=hcut;clear hj2W c0;cases hb:(decide (i2<=j2)&&(λx => !lt x dk[a]!) dk[j2]!)with
              |true =>
               have HB:=Lib.hid hb;have hj2J:i2<=j2:=by(rw[zY0e]at hb;exact of_decide_eq_true hb.1)
               clear hb;go_wp2;go_roundg j2;case measure=>omega
               case rel=>exact⟨j2-1,by go_num,by omega,by omega,hj2X,by show Hid _;rw[<- Hj2.out,zs3 (λx => !lt x dk[a]!) dk i2 j2 zX0 HB.out];exact rfl⟩
              |false =>
               have Ej2:Hid (scanDown (λx => !lt x dk[a]!) dk i2 (j)=j2):=by(show _=_;rw[<- Hj2.out,zo4 (λx => !lt x dk[a]!) dk i2 j2 hb])
               clear hb Hj2;by_cases hz:i2<=j2
               ·have hzz:¬((j2:Nat):Int)<(i2:Int):=zX0;have c1:=hj2X.c1;obtain⟨w2,hs,hV⟩:=hj2X.swap S hw (i:=i2) (j:=j2) (x:=i2) (y:=j2) zX0 zX0 rfl rfl;have HS:=Lib.hid hs;clear hs;go_wp2_with (rw[HS.out,Oper.upon_value]);go_roundg j;case measure=>omega
                case rel=>exact⟨i2+1,j2-1,_,by go_num,by go_num,by omega,by omega,by omega,by omega,hV,by show Hid _;rw[<- HO.out,z016 Ei2.out Ej2.out hz zX0 zX0 zX0];exact rfl⟩
               ·have hzz:((j2:Nat):Int)<(i2:Int):=zX0;have c1:=hj2X.c1;obtain⟨w2,hs,hV⟩:=hj2X.swap S hw (i:=j2) (j:=a) (x:=j2) (y:=a) zX0 zX0 rfl rfl;have HS:=Lib.hid hs;clear hs;go_wp2_with (rw[HS.out,Oper.upon_value]);go_ret2;have hv:partLoop lt a (i0+1) (j0-1) (swp (swp d a pivot) i0 j0)=(j2,dk):=by rw[<- HO.out];exact zyk Ei2.out Ej2.out hz
                rw[HV.out hz0.out,hv];exact⟨rfl,hV.st,hV.fwd⟩
       ·have hzz:((j0:Nat):Int)<(i0:Int):=zX0;have c1:=hj0X.c1;obtain⟨w2,hs,hV⟩:=hj0X.swap S hw (i:=j0) (j:=a) (x:=j0) (y:=a) zX0 zX0 rfl rfl;have HS:=Lib.hid hs;clear hs;go_wp2_with (rw[HS.out,Oper.upon_value]);go_ret2;rw[z0b6 lt d a b pivot Ei0.out Ej0.out hz];exact⟨rfl,hV.st,hV.fwd⟩
end
end
section
open Go.Sort
section
variable {α:Type} [Inhabited α] {lt:α->α->Bool} {n B lf sf:Nat} {lb sb:Array Value} {St:Array α->World->Prop}
theorem z0b7(d:Array α)(b i:Nat)(h:(decide (i<b) && !lt d[i]! d[i-1]!)=true):scanSorted lt d b i=scanSorted lt d b (i+1):=by rw[scanSorted,zP h]
theorem z08a(d:Array α)(b i:Nat)(h:(decide (i<b) && !lt d[i]! d[i-1]!)=false):scanSorted lt d b i=i:=by rw[scanSorted,zN (by rw[h];exact zY3i)]
theorem z08b(d:Array α)(j:Nat)(h:j≠0)(hl:lt d[j]! d[j-1]! = true):shiftDown lt j d=shiftDown lt (j-1) (swp d j (j-1)):=by
 obtain⟨k,rfl⟩:∃k,j=k+1:=⟨j-1,by omega⟩
 simp only[zY30]at hl⊢;rw[shiftDown,hl];rfl
theorem zqg(d:Array α)(j:Nat)(h:j=0\/lt d[j]! d[j-1]! = false):shiftDown lt j d=d:=by
 cases j with
 |zero=>rfl
 |succ k =>
  rcases h with h|h
  ·omega
  ·simp only[zY30]at h;rw[shiftDown,h];rfl
theorem z08c(d:Array α)(b j:Nat)(h:j<b)(hl:lt d[j]! d[j-1]! = true):shiftUp lt b j d=shiftUp lt b (j+1) (swp d j (j-1)):=by rw[shiftUp,zP h,hl];rfl
theorem zqh(d:Array α)(b j:Nat)(h:¬j<b\/lt d[j]! d[j-1]! = false):shiftUp lt b j d=d:=by
 rw[shiftUp];by_cases hj:j<b
 ·rcases h with h|h
  ·exact absurd hj h
  ·rw[zP hj,h];rfl
 ·rw[zN hj]
theorem z0e4{a b s i:Nat}{d:Array α}(h0:s≠0)(h:scanSorted lt d b i=b):partialIns lt a b s i d=(d,true):=by
 obtain⟨t,rfl⟩:∃t,s=t+1:=⟨s-1,by omega⟩
 rw[partialIns];simp only[h,if_true]
theorem z0b8{a b s i i2:Nat}{d:Array α}(h0:s≠0)(h:scanSorted lt d b i=i2)(h1:i2≠b)(h2:b-a<50):partialIns lt a b s i d=(d,false):=by
 obtain⟨t,rfl⟩:∃t,s=t+1:=⟨s-1,by omega⟩
 rw[partialIns];simp only[h];rw[zN h1,zP h2]
theorem z0c5{a b s i i2:Nat}{d:Array α}(h0:s≠0)(h:scanSorted lt d b i=i2)(h1:i2≠b)(h2:¬b-a<50){d3 d4:Array α}(h3:(if i2-a>=2 then shiftDown lt (i2-1) (swp d i2 (i2-1))else swp d i2 (i2-1))=d3)(h4:(if b-i2>=2 then shiftUp lt b (i2+1) d3 else d3)=d4):partialIns lt a b s i d=partialIns lt a b (s-1) i2 d4:=by
 obtain⟨t,rfl⟩:∃t,s=t+1:=⟨s-1,by omega⟩
 rw[partialIns];simp only[h];rw[zN h1,zN h2,h3,h4];rfl
theorem z08d(S:Srt lt n B lf lb sf sb St){w:World}{d:Array α}(h:St d w){a b:Nat}(hab:a<b)(hb:b<=n) :
  Calls Tryz.prog 159 #[.agg #[.func (.func lf) #[] lb,.func (.func sf) #[] sb],.int .i64 a,.int .i64 b] w λe w'=>e=.returned (.bool (partialInsertionSort lt d a b).2)/\St (partialInsertionSort lt d a b).1 w'/\Fwd B w w':=by
 have hw:=S.base h;have hO:=On.start S h;have hbig:=S.big;have eg:=S.enters;unfold partialInsertionSort;go_enter Tryz.func159,Tryz.ntmps159;go_wp2;go_loopg [7,8] 6 (λkx vi vs wr=>∃(s i:Nat) (dk:Array α),vi=.int .i64 i/\vs=.int .i64 (5-(s:Int))/\s<=5/\s<kx/\a+1<=i/\i<=b/\On B lf lb sf sb St w dk wr/\Hid (partialIns lt a b s i dk=partialIns lt a b 5 (a+1) d));case atStart=>exact⟨5,a+1,d,by go_num,by go_num,zY0k _,by omega,zY0k _,by omega,hO,rfl⟩
 case round =>
  obtain⟨s,i,dk,rfl,rfl,hs5,hsk,hai,hib,hW,HO⟩:=hrel;clear hO;by_cases h0:s=0
  ·have hz:¬(5:Int)-(s:Int)<5:=zX0;go_wp2;go_ret;subst h0;rw[<- HO.out];exact⟨by rfl,hW.st,hW.fwd⟩
  have hz:(5:Int)-(s:Int)<5:=zX0;go_wp2;go_loopg [7] (b+1) (λky v wr=>∃i2:Nat,v=.int .i64 i2/\i<=i2/\i2<=b/\b-i2<ky/\On B lf lb sf sb St w dk wr/\Hid (scanSorted lt dk b i2=scanSorted lt dk b i));case atStart=>exact⟨i,rfl,zY0k _,hib,by omega,hW,rfl⟩
  case round =>
   obtain⟨i2,rfl,hi0,hi1,hky,hW2,HI⟩:=hrel;clear hW;have c0:=hW2.c0;go_upto_region 5 with fail;go_cut [28] (λc wx=>c=.bool (decide (i2<b) && !lt dk[i2]! dk[i2-1]!)/\On B lf lb sf sb St w dk wx);case first =>
    by_cases h1:i2<b
    ·have h1z:(i2:Int)<(b:Int):=zX0;cases hl:lt dk[i2]! dk[i2-1]! with
     |true =>have hc:=hW2.less S hw (i:=i2) (j:=i2-1) (x:=i2) (y:=(i2:Int)-1) zX0 zX0 rfl zX0 hl;have HL:=Lib.hid hl;clear hl;go_wp2_with (refine hc.mono ?_;rintro e w1 ⟨rfl,hU⟩;simp only[];clear hc);go_meet;exact⟨by rw[decide_eq_true h1,HL.out];rfl,hU⟩
     |false =>have hc:=hW2.less S hw (i:=i2) (j:=i2-1) (x:=i2) (y:=(i2:Int)-1) zX0 zX0 rfl zX0 hl;have HL:=Lib.hid hl;clear hl;go_wp2_with (refine hc.mono ?_;rintro e w1 ⟨rfl,hU⟩;simp only[];clear hc);go_meet;exact⟨by rw[decide_eq_true h1,HL.out];rfl,hU⟩
    ·have h1z:¬(i2:Int)<(b:Int):=zX0;go_wp2_with fail;go_meet;exact⟨by rw[decide_eq_false h1];rfl,hW2⟩
   case rest =>
    obtain⟨rfl,hX⟩:=hcut;clear hW2 c0;cases hb2:(decide (i2<b) && !lt dk[i2]! dk[i2-1]!)with
    |true =>
     have HB:=Lib.hid hb2;have h1:i2<b:=by(rw[zY0e]at hb2;exact of_decide_eq_true hb2.1)
     clear hb2;go_wp2;go_roundg (b-i2);case measure=>omega
     case rel=>exact⟨i2+1,by go_num,by omega,by omega,by omega,hX,by show Hid _;rw[<- HI.out,z0b7 dk b i2 HB.out];exact rfl⟩
    |false =>
     have EI:Hid (scanSorted lt dk b i=i2):=by(show _=_;rw[<- HI.out,z08a dk b i2 hb2])
     clear hb2 HI;by_cases hib2:i2=b
     ·have hq:((i2:Int)==(b:Int))=true:=by rw[hib2];simp
      have hq':(i2:Int)=(b:Int):=zX0;go_wp2;go_ret;have hv:=z0e4 (lt:=lt) (a:=a) h0 (EI.out.trans hib2);rw[<- HO.out,hv];exact⟨rfl,hX.st,hX.fwd⟩
     have hq:((i2:Int)==(b:Int))=false:=by simp;omega
     have hq':¬(i2:Int)=(b:Int):=zX0;by_cases h50:b-a<50
     ·have h50z:(b:Int)-(a:Int)<50:=zX0;go_wp2;go_ret;have hv:=z0b8 (lt:=lt) (a:=a) h0 EI.out hib2 h50;rw[<- HO.out,hv];exact⟨rfl,hX.st,hX.fwd⟩
     have h50z:¬(b:Int)-(a:Int)<50:=zX0;have c1:=hX.c1;obtain⟨w2,hs,hV⟩:=hX.swap S hw (i:=i2) (j:=i2-1) (x:=i2) (y:=(i2:Int)-1) zX0 zX0 rfl zX0;have HS:=Lib.hid hs;have HIB:=Lib.hid hib2;have H50:=Lib.hid h50;clear hs hib2;have hlt:i2<b:=by have:=HIB.out;omega
     go_upto_if 47 with(rw[HS.out,Oper.upon_value])
     clear hX c1 HS;go_cut [] (λwx=>∃dj,On B lf lb sf sb St w dj wx/\Hid ((if i2-a>=2 then shiftDown lt (i2-1) (swp dk i2 (i2-1))else swp dk i2 (i2-1))=dj));case first =>
      by_cases h2:i2-a>=2
      ·have h2z:(2:Int)<=(i2:Int)-(a:Int):=zX0;go_wp2;go_loopg [9] i2 (λkz v wr=>∃(j:Nat) (dj:Array α),v=.int .i64 j/\j<=i2-1/\j<kz/\On B lf lb sf sb St w dj wr/\Hid (shiftDown lt j dj=shiftDown lt (i2-1) (swp dk i2 (i2-1))));case atStart=>exact⟨i2-1,_,by go_num,zY0k _,by omega,hV,rfl⟩
       case round =>
        obtain⟨j,dj,rfl,hj1,hjk,hY,HJ⟩:=hrel;clear hV;have c0:=hY.c0;by_cases hj0:j=0
        ·have hjz:¬(1:Int)<=(j:Int):=zX0;go_wp2;go_meet;exact⟨dj,hY,by show _=_;rw[zP h2,<- HJ.out,zqg dj j (Or.inl hj0)]⟩
        have hjz:(1:Int)<=(j:Int):=zX0;cases hl:lt dj[j]! dj[j-1]! with
        |true =>
         have hc:=hY.less S hw (i:=j) (j:=j-1) (x:=j) (y:=(j:Int)-1) zX0 zX0 rfl zX0 hl;have HL:=Lib.hid hl;clear hl;go_wp2_with (first|(refine hc.mono ?_;rintro e w1 ⟨rfl,hU⟩;simp only[];clear hc c0;have c1:=hU.c1;obtain⟨w2,hs,hV⟩:=hU.swap S hw (i:=j) (j:=j-1) (x:=j) (y:=(j:Int)-1) zX0 zX0 rfl zX0;have HS:=Lib.hid hs;clear hs)|(rw[HS.out,Oper.upon_value]));go_roundg j;case measure=>omega
         case rel=>exact⟨j-1,_,by go_num,by omega,by omega,hV,by show Hid _;rw[<- HJ.out,z08b dj j hj0 HL.out];exact rfl⟩
        |false =>have hc:=hY.less S hw (i:=j) (j:=j-1) (x:=j) (y:=(j:Int)-1) zX0 zX0 rfl zX0 hl;have HL:=Lib.hid hl;clear hl;go_wp2_with (refine hc.mono ?_;rintro e w1 ⟨rfl,hU⟩;simp only[];clear hc);go_meet;exact⟨dj,hU,by show _=_;rw[zP h2,<- HJ.out,zqg dj j (Or.inr HL.out)]⟩
      ·have h2z:¬(2:Int)<=(i2:Int)-(a:Int):=zX0;go_wp2_with fail;go_meet;exact⟨_,hV,by show _=_;rw[zN h2]⟩
     case rest =>
      obtain⟨d3,hY,H3⟩:=hcut;clear hV;by_cases h4:b-i2>=2
      ·have h4z:(2:Int)<=(b:Int)-(i2:Int):=zX0;go_wp2;go_loopg [10] b (λkz v wr=>∃(j:Nat) (dj:Array α),v=.int .i64 j/\i2+1<=j/\j<=b/\b-j<kz/\On B lf lb sf sb St w dj wr/\Hid (shiftUp lt b j dj=shiftUp lt b (i2+1) d3));case atStart=>exact⟨i2+1,_,by go_num,zY0k _,by omega,by omega,hY,rfl⟩
       case round =>
        obtain⟨j,dj,rfl,hj0,hj1,hjk,hZ,HJ⟩:=hrel;clear hY;have c0:=hZ.c0;have HF:Hid (∀dy:Array α,shiftUp lt b (i2+1) d3=dy->partialIns lt a b (s-1) i2 dy=partialIns lt a b 5 (a+1) d):=λdy h=>by rw[<- HO.out];exact(z0c5 h0 EI.out HIB.out H50.out H3.out (by rw[zP h4];exact h)).symm
        by_cases hjb:j<b
        ·have hjz:(j:Int)<(b:Int):=zX0;cases hl:lt dj[j]! dj[j-1]! with
         |true =>
          have hc:=hZ.less S hw (i:=j) (j:=j-1) (x:=j) (y:=(j:Int)-1) zX0 zX0 rfl zX0 hl;have HL:=Lib.hid hl;clear hl;go_wp2_with (first|(refine hc.mono ?_;rintro e w1 ⟨rfl,hU⟩;simp only[];clear hc c0;have c1:=hU.c1;obtain⟨w2,hs,hV⟩:=hU.swap S hw (i:=j) (j:=j-1) (x:=j) (y:=(j:Int)-1) zX0 zX0 rfl zX0;have HS:=Lib.hid hs;clear hs)|(rw[HS.out,Oper.upon_value]));go_roundg (b-j);case measure=>omega
          case rel=>exact⟨j+1,_,by go_num,by omega,by omega,by omega,hV,by show Hid _;rw[<- HJ.out,z08c dj b j hjb HL.out];exact rfl⟩
         |false =>
          have hc:=hZ.less S hw (i:=j) (j:=j-1) (x:=j) (y:=(j:Int)-1) zX0 zX0 rfl zX0 hl;have HL:=Lib.hid hl;clear hl;go_wp2_with (refine hc.mono ?_;rintro e w1 ⟨rfl,hU⟩;simp only[];clear hc);go_roundg s;case measure=>omega
          case rel=>exact⟨s-1,i2,dj,rfl,by go_num,by omega,by omega,by omega,by omega,hU,HF.out _ (by rw[<- HJ.out,zqh dj b j (Or.inr HL.out)])⟩
        ·have hjz:¬(j:Int)<(b:Int):=zX0;go_wp2;go_roundg s;case measure=>omega
         case rel=>exact⟨s-1,i2,dj,rfl,by go_num,by omega,by omega,by omega,by omega,hZ,HF.out _ (by rw[<- HJ.out,zqh dj b j (Or.inl hjb)])⟩
      ·have h4z:¬(2:Int)<=(b:Int)-(i2:Int):=zX0;go_wp2;go_roundg s;case measure=>omega
       case rel=>exact⟨s-1,i2,d3,rfl,by go_num,by omega,by omega,by omega,by omega,hY,by show Hid _;rw[<- HO.out];exact(z0c5 h0 EI.out HIB.out H50.out H3.out (by rw[zN h4])).symm⟩
end
end
section
open Go.Sort
section
variable {α:Type} [Inhabited α] {lt:α->α->Bool} {n B lf sf:Nat} {lb sb:Array Value} {St:Array α->World->Prop}
theorem z9c{a b:Nat}{d d1 d2:Array α}(h:PermIn a b d d1)(k:PermIn a b d1 d2):PermIn a b d d2 :=
 ⟨k.1.trans h.1,λi hi=>(k.2.1 i hi).trans (h.2.1 i hi),k.2.2.trans h.2.2⟩
theorem z08e(a b:Nat)(d:Array α):PermIn a b d d:=⟨rfl,λ_ _=>rfl,List.Perm.refl _⟩
theorem z0b9{h:Go.Sort.Hint}(e:¬h=.decreasing):¬z9b h=2:=by cases h<;>simp_all[z9b]
theorem z0h4(S:Srt lt n B lf lb sf sb St)(hO:SWO lt)
  (hbrk:∀(w:World) (d:Array α) (a b:Nat),St d w->a<=b->b<=n->Calls Tryz.prog 156 #[.agg #[.func (.func lf) #[] lb,.func (.func sf) #[] sb],.int .i64 a,.int .i64 b] w λe w'=>e=.returned (.tuple #[])/\St (breakPatterns d a b) w'/\Fwd B w w') :
  ∀(N:Nat) (w:World) (d:Array α) (a b limit:Nat),b-a<N->St d w->a<=b->b<=n->limit<4611686018427387904->Below lt a b d ->
  Calls Tryz.prog 132 #[.agg #[.func (.func lf) #[] lb,.func (.func sf) #[] sb],.int .i64 a,.int .i64 b,.int .i64 limit] w λe w'=>e=.returned (.tuple #[])/\(∃d',PermIn a b d d'/\SortedIn lt a b d'/\St d' w')/\Fwd B w w':=by
 intro N;induction N with
 |zero=>intro w d a b limit h;exact absurd h (Nat.not_lt_zero _)
 |succ N ih =>
  intro w d a b limit hN h hab hb hlim hBel;have hw:=S.base h;have hOn:=On.start S h;have hbig:=S.big;have eg:=S.enters;have IH:=Lib.hid ih;have HB:=Lib.hid hbrk;clear ih hbrk;go_enter Tryz.func132,Tryz.ntmps132;go_wp2;go_loopg [1,2,3,8,9] (b-a+1) (λkx s1 s2 s3 s8 s9 wr=>∃(a1 b1 lim:Nat) (wb wp:Bool) (dk:Array α),s1=.int .i64 a1/\s2=.int .i64 b1/\s3=.int .i64 lim/\s8=.bool wb/\s9=.bool wp /\
   a1<=b1/\b1<=n/\b1-a1<kx/\b1-a1<=b-a/\lim<=limit/\Below lt a1 b1 dk/\On B lf lb sf sb St w dk wr/\Hid (∀R,PermIn a1 b1 dk R->SortedIn lt a1 b1 R->PermIn a b d R/\SortedIn lt a b R))
  case atStart=>exact⟨a,b,limit,true,true,d,rfl,rfl,rfl,rfl,rfl,hab,hb,by omega,zY0k _,zY0k _,hBel,hOn,λR h1 h2=>⟨h1,h2⟩⟩
  case round =>
   obtain⟨a1,b1,lim,wb,wp,dk,rfl,rfl,rfl,rfl,rfl,hab1,hb1,hkx,hle,hl1,hBk,hW,HR⟩:=hrel;clear hOn;have hsz:=S.size hW.st;have c0:=hW.c0;have c1:=hW.c1;have HBk:=Lib.hid hBk;clear hBk;by_cases h12:b1-a1<=12
   ·have h12z:(b1:Int)-(a1:Int)<=12:=zX0;have hc:=z083 S hW.st hab1 hb1;go_wp2_with (go_at_call 154;refine hc.mono ?_;rintro e w1 ⟨rfl,hU⟩;simp only[];clear hc)
    ((try simp only[Exit.inBlock,Exit.then]);refine bodyPost_ret (results_none rfl _ _ _) rfl ?_)
    have hp:=insertionSort_holds hO dk a1 b1 hab1 zX0;have hr:=HR.out _ hp.1 hp.2;exact⟨rfl,⟨_,hr.1,hr.2,hU.1⟩,(hW.call hw hU).fwd⟩
   have h12z:¬(b1:Int)-(a1:Int)<=12:=zX0;by_cases hl0:lim=0
   ·have hl0z:(lim:Int)=0:=zX0;have hl0b:((lim:Int)==0)=true:=by rw[hl0z];rfl
    have hc:=z0gb S hW.st (a:=a1) (b:=b1) zX0 hb1;go_wp2_with (go_at_call 155;refine hc.mono ?_;rintro e w1 ⟨rfl,hU⟩;simp only[];clear hc)
    ((try simp only[Exit.inBlock,Exit.then]);refine bodyPost_ret (results_none rfl _ _ _) rfl ?_)
    have hp:=heapSort_holds hO dk a1 b1 hab1 zX0;have hr:=HR.out _ hp.1 hp.2;exact⟨rfl,⟨_,hr.1,hr.2,hU.1⟩,(hW.call hw hU).fwd⟩
   have hl0z:¬(lim:Int)=0:=zX0;have hl0b:((lim:Int)==0)=false:=by simp;omega
   go_upto_if 35 with fail
   go_cut [3] (λs3 wx=>∃(lim1:Nat) (d1:Array α),s3=.int .i64 lim1/\lim1<=lim/\PermIn a1 b1 dk d1/\On B lf lb sf sb St w d1 wx);case first =>
    cases wb with
    |false =>have hc:=HB.out _ _ _ _ hW.st hab1 hb1;go_wp2_with (go_at_call 156;refine hc.mono ?_;rintro e w1 ⟨rfl,hU⟩;simp only[];clear hc);go_meet;exact⟨lim-1,_,by go_num,by omega,breakPatterns_holds dk a1 b1 hab1 zX0,hW.call hw hU⟩
    |true =>go_wp2_with fail;go_meet;exact⟨lim,dk,rfl,zY0k _,z08e _ _ _,hW⟩
   case rest =>
    obtain⟨lim1,d1,rfl,hl2,hp1,hW1⟩:=hcut;clear hW c0 c1;have c0:=hW1.c0;have c1:=hW1.c1;have hs1:=S.size hW1.st;have hc:=z0b4 S hW1.st (a:=a1) (b:=b1) zX0 hb1;have hcr:=choosePivot_holds lt d1 a1 b1 zX0;generalize choosePivot lt d1 a1 b1=C at hc hcr;obtain⟨p,hh⟩:=C;simp only at hc hcr;have HP1:=Lib.hid hp1;clear hp1;go_upto_if 50 with fail;refine hc.mono ?_;rintro e w2 ⟨rfl,hU⟩;simp only[];clear hc;go_upto_if 50 with fail;have hW2:=hW1.call hw hU;clear hW1 c0 c1 hU;have c0:=hW2.c0;have c1:=hW2.c1;go_cut [11,12] (λs11 s12 wx=>∃(q:Nat) (z:Int) (d2:Array α),s11=.int .i64 q/\s12=.int .i64 z/\a1<=q/\q<b1/\PermIn a1 b1 dk d2/\On B lf lb sf sb St w d2 wx);case first =>
     by_cases hd:hh=.decreasing
     ·subst hd;have hc:=z04s S hW2.st (a:=a1) (b:=b1) zX0 hb1;go_wp2_with (go_at_call 158;refine hc.mono ?_;rintro e w3 ⟨rfl,hU⟩;simp only[];clear hc);go_meet;exact⟨(b1-1)-(p-a1),1,_,by congr 1;omega,rfl,by omega,by omega,z9c HP1.out (reverseRange_holds d1 a1 b1 hab1 zX0),hW2.call hw hU⟩
     ·have hz:¬z9b hh=2:=z0b9 hd;have hzb:(z9b hh==2)=false:=beq_eq_false_iff_ne.2 hz;go_wp2_with fail;go_meet;exact⟨p,_,d1,rfl,rfl,hcr.1,hcr.2,HP1.out,hW2⟩
    case rest =>
     obtain⟨q,z,d2,rfl,rfl,hq1,hq2,hp2,hW3⟩:=hcut;clear hW2 c0 c1;have c0:=hW3.c0;have c1:=hW3.c1;have HP2:=Lib.hid hp2;clear hp2 hcr HP1 hs1;go_upto_region 16 with fail;go_cut [68] (λs68 wx=>(∃t:Bool,s68=.bool t)/\wx=wc);case first =>cases wb<;>cases wp<;>(go_wp2_with fail;go_meet;exact⟨⟨_,rfl⟩,rfl⟩)
     case rest =>
      obtain⟨⟨t,rfl⟩,rfl⟩:=hcut;have hs2:=S.size hW3.st;go_upto_if 68 with fail;go_cut [] (λwx=>∃d3:Array α,PermIn a1 b1 dk d3/\On B lf lb sf sb St w d3 wx);case first =>
       cases t with
       |false =>go_wp2_with fail;go_meet;exact⟨d2,HP2.out,hW3⟩
       |true =>
        have hc:=z08d S hW3.st (a:=a1) (b:=b1) zX0 hb1;have hpi:=partialInsertionSort_holds hO d2 a1 b1 zX0 zX0 (HBk.out.perm zX0 HP2.out);generalize partialInsertionSort lt d2 a1 b1=Q at hc hpi;obtain⟨d3,r⟩:=Q;simp only at hc hpi;cases r with
        |true =>
         have HPI:=Lib.hid hpi;clear hpi;go_wp2_with (go_at_call 159;refine hc.mono ?_;rintro e w4 ⟨rfl,hU⟩;simp only[];clear hc)
         ((try simp only[Exit.inBlock,Exit.then]);refine bodyPost_ret (results_none rfl _ _ _) rfl ?_)
         have hr:=HR.out _ (z9c HP2.out HPI.out.1) (by exact HPI.out.2 trivial);exact⟨rfl,⟨_,hr.1,hr.2,hU.1⟩,(hW3.call hw hU).fwd⟩
        |false =>have HPI:=Lib.hid hpi;clear hpi;go_wp2_with (go_at_call 159;refine hc.mono ?_;rintro e w4 ⟨rfl,hU⟩;simp only[];clear hc);go_meet;exact⟨d3,z9c HP2.out HPI.out.1,hW3.call hw hU⟩
      case rest =>
       obtain⟨d3,hp3,hW5⟩:=hcut;clear hW3 c0 c1 HP2 hs2;have c0:=hW5.c0;have HP3:=Lib.hid hp3;clear hp3;have hs3:=S.size hW5.st;go_upto_region 18 with fail;go_cut [83] (λc wx=>c=.bool (decide (0<a1) && !lt d3[a1-1]! d3[q]!)/\On B lf lb sf sb St w d3 wx);case first =>
        by_cases ha:0<a1
        ·have haz:(0:Int)<(a1:Int):=zX0;cases hl:lt d3[a1-1]! d3[q]! with
         |true =>have hc:=hW5.less S hw (i:=a1-1) (j:=q) (x:=(a1:Int)-1) (y:=q) zX0 zX0 zX0 rfl hl;have HL:=Lib.hid hl;clear hl;go_wp2_with (refine hc.mono ?_;rintro e w6 ⟨rfl,hU⟩;simp only[];clear hc);go_meet;exact⟨by rw[decide_eq_true ha,HL.out];rfl,hU⟩
         |false =>have hc:=hW5.less S hw (i:=a1-1) (j:=q) (x:=(a1:Int)-1) (y:=q) zX0 zX0 zX0 rfl hl;have HL:=Lib.hid hl;clear hl;go_wp2_with (refine hc.mono ?_;rintro e w6 ⟨rfl,hU⟩;simp only[];clear hc);go_meet;exact⟨by rw[decide_eq_true ha,HL.out];rfl,hU⟩
        ·have haz:¬(0:Int)<(a1:Int):=zX0;go_wp2_with fail;go_meet;exact⟨by rw[decide_eq_false ha];rfl,hW5⟩
       case rest =>
        obtain⟨rfl,hW6⟩:=hcut;clear hW5 c0;have c0:=hW6.c0;have c1:=hW6.c1;have HB3:Hid (Below lt a1 b1 d3):=HBk.out.perm zX0 HP3.out;cases ht:(decide (0<a1) && !lt d3[a1-1]! d3[q]!)with
        |true =>
         rw[zY0e]at ht;have ha:0<a1:=of_decide_eq_true ht.1;have hnl:lt d3[a1-1]! d3[q]! = false:=by simpa using ht.2
         have hc:=z0b5 S hW6.st (a:=a1) (b:=b1) (pivot:=q) zX0 hb1 zX0;have hre:=λmid d4=>@round_eq α _ lt hO (partitionEqual_holds lt) d3 d4 a1 b1 q mid ha hq1 hq2 zX0 HB3.out hnl;generalize partitionEqual lt d3 a1 b1 q=Q at hc hre;obtain⟨mid,d4⟩:=Q;obtain⟨r1,r2,r3,r4,r5⟩:=hre mid d4 rfl;simp only at hc;have R4:=Lib.hid r4;have R5:=Lib.hid r5;clear ht hnl hre r4 r5;go_wp2_with (go_at_call 160;refine hc.mono ?_;rintro e w7 ⟨rfl,hU⟩;simp only[];clear hc);go_roundg (b1-a1);case measure=>omega
         case rel=>exact⟨mid,b1,lim1,wb,wp,d4,rfl,rfl,rfl,rfl,rfl,r2,hb1,by omega,by omega,by omega,R4.out,hW6.call hw hU,λR h1 h2=>HR.out R (z9c HP3.out (R5.out R h1 h2).1) (R5.out R h1 h2).2⟩
        |false =>
         clear ht;have hc:=z0gc S hW6.st (a:=a1) (b:=b1) (pivot:=q) zX0 hb1 zX0;have hre:=λmid ap d4=>@round_part α _ lt hO (partition_holds lt) d3 d4 a1 b1 q mid ap hq1 hq2 zX0 HB3.out;generalize partition lt d3 a1 b1 q=Q at hc hre;obtain⟨mid,ap,d4⟩:=Q;obtain⟨r1,r2,r3,r4,r5,r6,r7⟩:=hre mid ap d4 rfl;simp only at hc;have R4:=Lib.hid r4;have R5:=Lib.hid r5;have R6:=Lib.hid r6;have R7:=Lib.hid r7;clear hre r4 r5 r6 r7;go_upto_if 109 with(go_at_call 161;refine hc.mono ?_;rintro e w7 ⟨rfl,hU⟩;simp only[];clear hc)
         have hW7:=hW6.call hw hU;clear hW6 hU c0 c1;have c0:=hW7.c0;have c1:=hW7.c1;by_cases h4:mid-a1<b1-mid
         ·have h4z:(mid:Int)-(a1:Int)<(b1:Int)-(mid:Int):=zX0;have hc:=IH.out _ _ a1 mid lim1 zX0 hW7.st zX0 zX0 zX0 R4.out;go_wp2_with (go_at_call 132;refine hc.mono ?_;rintro e w8 ⟨rfl,⟨d5,hp5,hs5,hU5⟩,hF5⟩;simp only[];have HP5:=Lib.hid hp5;have HS5:=Lib.hid hs5;clear hc hp5 hs5);go_roundg (b1-a1);case measure=>omega
          case rel=>exact⟨mid+1,b1,lim1,_,ap,d5,by go_num,rfl,rfl,rfl,rfl,by omega,hb1,by omega,by omega,by omega,(R6.out _ HP5.out HS5.out).1,hW7.call hw ⟨hU5,hF5⟩,λR h1 h2=>HR.out R (z9c HP3.out ((R6.out _ HP5.out HS5.out).2 R h1 h2).1) ((R6.out _ HP5.out HS5.out).2 R h1 h2).2⟩
         ·have h4z:¬(mid:Int)-(a1:Int)<(b1:Int)-(mid:Int):=zX0;have hc:=IH.out _ _ (mid+1) b1 lim1 zX0 hW7.st zX0 hb1 zX0 R5.out;rw[show((mid+1:Nat):Int)=(mid:Int)+1 by omega]at hc;go_wp2_with (go_at_call 132;refine hc.mono ?_;rintro e w8 ⟨rfl,⟨d5,hp5,hs5,hU5⟩,hF5⟩;simp only[];have HP5:=Lib.hid hp5;have HS5:=Lib.hid hs5;clear hc hp5 hs5);go_roundg (b1-a1);case measure=>omega
          case rel=>exact⟨a1,mid,lim1,_,ap,d5,rfl,rfl,rfl,rfl,rfl,by omega,by omega,by omega,by omega,by omega,(R7.out _ HP5.out HS5.out).1,hW7.call hw ⟨hU5,hF5⟩,λR h1 h2=>HR.out R (z9c HP3.out ((R7.out _ HP5.out HS5.out).2 R h1 h2).1) ((R7.out _ HP5.out HS5.out).2 R h1 h2).2⟩
end
end
section
open Go.Sort Go.Shelf Go.Lib
section
variable {α:Type} [Inhabited α]
theorem z02e{V W:World}{b blk:Nat}(f:Array Value->Array Value)(h:V.heap[b]?=W.heap[b]?):(mapBlock V blk f).heap[b]?=(mapBlock W blk f).heap[b]?:=by simp only[mapBlock,zY2l,h]
theorem zl1{b blk:Nat}:∀(vs:List Value) (o:Nat) {V W:World},V.heap[b]?=W.heap[b]?->(V.setCells blk o vs).heap[b]?=(W.setCells blk o vs).heap[b]?
 | [],_,_,_,h=>h
 |v::r,o,V,W,h=>by rw[World.setCells,World.setCells];refine zl1 r (o+1) ?_;rw[setCell_eq,setCell_eq];exact z02e _ h
theorem zcy{blk:Nat}:∀(vs:List Value) (o:Nat) (W:World),(W.setCells blk o vs).os=W.os/\(W.setCells blk o vs).tape=W.tape/\(W.setCells blk o vs).output=W.output/\(W.setCells blk o vs).heap.size=W.heap.size/\∀b,b≠blk->(W.setCells blk o vs).heap[b]?=W.heap[b]?
 | [],_,_=>⟨rfl,rfl,rfl,rfl,λ_ _=>rfl⟩
 |v::r,o,W=>by rw[World.setCells];obtain⟨h1,h2,h3,h4,h5⟩:=zcy (blk:=blk) r (o+1) (W.setCell ⟨blk,o,none⟩ v);exact⟨h1,h2,h3,by rw[h4];simp[World.setCell],λb hb=>(h5 b hb).trans (heap_setCell_other W _ b _ hb)⟩
variable {p:α->Prop} {enc:α->List Value} {k n blk off:Nat} {w0:World} {lt:α->α->Bool}
theorem z0ba{p:α->Prop}{a b:Nat}{d d':Array α}(h:PermIn a b d d')(hp:∀i,i<d.size->p d[i]!):∀i,i<d.size->p d'[i]!:=by
 intro i hi;by_cases ho:i<a\/b<=i
 ·rw[h.2.1 i ho];exact hp i hi
 ·have hi':i<d'.size:=by rw[h.1];exact hi
  have hm:d'[i]!∈(d'.extract a b).toList:=by rw[getElem!_pos d' i hi',Array.mem_toList_iff,Array.mem_extract_iff_getElem];exact⟨i-a,by omega,by congr 1;omega⟩
  have hm2:=h.2.2.mem_iff.1 hm;rw[Array.mem_toList_iff,Array.mem_extract_iff_getElem]at hm2;obtain⟨k,hk,e⟩:=hm2;rw[<- e];have:=hp (a+k) zX0
  rwa [getElem!_pos d (a+k) zX0]at this
def StK(p:α->Prop)(enc:α->List Value)(k:Nat)(w0:World)(blk off n:Nat)(dk:Array α)(W:World):Prop:=dk.size=n/\Below w0.heap.size (putRowK enc k w0 blk off dk) W/\∀i,i<n->p dk[i]!
theorem z9d(w:World)(d:Array α):(putRowK enc k w blk off d).heap.size=w.heap.size:=by simp[putRowK,putRow,mapBlock]
theorem StK.holds{d0 dk:Array α}{W:World}(hblk:blk<w0.heap.size)(h0:HoldsK enc k w0 blk off d0)(hn:d0.size=n)(h:StK p enc k w0 blk off n dk W):HoldsK enc k W blk off dk:=by
 have hh:=holdsK_putRowK enc k w0 blk off d0 dk h0 (h.1.trans hn.symm);have hb:=h.2.1.block blk hblk;intro j hj;obtain⟨h1,h2⟩:=hh j hj;constructor
 ·rw[<- h1];unfold World.cell?;rw[show W.heap[(⟨blk,off+j,none⟩:Addr).block]?=_ from hb]
 ·rw[<- h2];unfold World.frozen?;rw[show W.heap[(⟨blk,off+j,none⟩:Addr).block]?=_ from hb]
theorem StK.le{dk:Array α}{W:World}(h:StK p enc k w0 blk off n dk W):w0.heap.size<=W.heap.size:=by have:=h.2.1.size;rw[z9d]at this;exact this
theorem z0gd{d0:Array α}{lf sf:Nat}{lb sb:Array Value}(hk:∀x,(enc x).length=k)(hblk:blk<w0.heap.size)(h0:HoldsK enc k w0 blk off d0)(hn:d0.size=n)(big:n<4611686018427387904)
  (eg:∀args w,(callFunc lf args).run Tryz.prog w=.ok (.enter lf args) w) (hswap:SwapSwapsK Tryz.prog sf sb enc k blk off n)
  (hless:∀(dk:Array α) (W:World) (i j:Nat),StK p enc k w0 blk off n dk W->i<n->j<n->Calls Tryz.prog lf (#[.int .i64 i,.int .i64 j]++lb) W λe W'=>e=.returned (.bool (lt dk[i]! dk[j]!))/\Below W.heap.size W W') :
  Srt lt n w0.heap.size lf lb sf sb (StK p enc k w0 blk off n) where
 big:=big
 enters:=eg
 size:=λh=>h.1
 base:=λh=>h.le
 keep:=λh hb=>⟨h.1,h.2.1.trans hb,h.2.2⟩
 less:=λi j h hi hj=>(hless _ _ i j h hi hj).mono λe W' ⟨he,hb⟩=>⟨he,⟨h.1,h.2.1.trans (hb.mono h.le),h.2.2⟩,Fwd.below hb⟩
 swap:=λ{d W} i j h hi hj=>by refine⟨_,hswap W d (h.holds hblk h0 hn) h.1 i j hi hj,?_⟩;obtain⟨a1,a2,a3,a4,a5⟩:=zcy (blk:=blk) (enc d[j]!) (off+i*k) W;obtain⟨b1,b2,b3,b4,b5⟩:=zcy (blk:=blk) (enc d[i]!) (off+j*k) (W.setCells blk (off+i*k) (enc d[j]!));have hsw:=putRowK_swp enc k hk w0 blk off d i j (by rw[h.1];exact hi) (by rw[h.1];exact hj);refine⟨⟨by rw[z0e2];exact h.1,?_,λq hq=>by rw[swp_get d (by rw[h.1];exact hi) (by rw[h.1];exact hj)];split;exact h.2.2 i hi;split;exact h.2.2 j hj;exact h.2.2 q hq⟩,⟨b1.trans a1,b2.trans a2,b3.trans a3,by rw[b4,a4];exact zY0k _,λb h1 _=>(b5 b zX0).trans (a5 b zX0)⟩⟩;rw[<- hsw];obtain⟨c1,c2,c3,c4,c5⟩:=zcy (blk:=blk) (enc d[j]!) (off+i*k) (putRowK enc k w0 blk off d);obtain⟨e1,e2,e3,e4,e5⟩:=zcy (blk:=blk) (enc d[i]!) (off+j*k) ((putRowK enc k w0 blk off d).setCells blk (off+i*k) (enc d[j]!));exact⟨(b1.trans a1).trans (h.2.1.os.trans (e1.trans c1).symm),(b2.trans a2).trans (h.2.1.tape.trans (e2.trans c2).symm),(b3.trans a3).trans (h.2.1.output.trans (e3.trans c3).symm),by rw[b4,a4,e4,c4];exact h.2.1.size,λb hb=>zl1 _ _ (zl1 _ _ (h.2.1.block b hb))⟩
theorem z0ge{d0:Array α}{lf sf f:Nat}{lb sb:Array Value}(hblk:blk<w0.heap.size)(h0:HoldsK enc k w0 blk off d0)(hn:d0.size=n)
  (hb:∀(d:Array α) (w:World) (a b:Nat),HoldsK enc k w blk off d->d.size=n->blk<w.heap.size->a<=b->b<=d.size->Calls Tryz.prog f #[.agg #[.func (.func lf) #[] lb,.func (.func sf) #[] sb],.int .i64 a,.int .i64 b] w λe w'=>e=.returned (.tuple #[])/\∃m os,w'=sortWorldK enc k w blk off m (breakPatterns d a b) os) :
  ∀(w:World) (d:Array α) (a b:Nat),StK p enc k w0 blk off n d w->a<=b->b<=n->Calls Tryz.prog f #[.agg #[.func (.func lf) #[] lb,.func (.func sf) #[] sb],.int .i64 a,.int .i64 b] w λe w'=>e=.returned (.tuple #[])/\StK p enc k w0 blk off n (breakPatterns d a b) w'/\Fwd w0.heap.size w w':=by
 intro w d a b h hab hbn;have hl:=h.le;refine(hb d w a b (h.holds hblk h0 hn) h.1 zX0 hab (by rw[h.1];exact hbn)).mono ?_;rintro e w' ⟨he,m,os,rfl⟩;have hpp0:=breakPatterns_holds d a b hab (by rw[h.1];exact hbn);have hp:=hpp0.1;have hsz:(sortWorldK enc k w blk off m (breakPatterns d a b) os).heap.size=w.heap.size+os.size:=by unfold sortWorldK grow;show(_++os).size=_;rw[zY2x,z9d];rfl
 have hsm:∀b',b'<w.heap.size->(sortWorldK enc k w blk off m (breakPatterns d a b) os).heap[b']?=(putRowK enc k w blk off (breakPatterns d a b)).heap[b']?:=λb' hb'=>by unfold sortWorldK;rw[Go.Sort.heap_grow_old _ _ (by rw[z9d];exact hb')];rfl
 refine⟨he,⟨hp.trans h.1,?_,λq hq=>?_⟩,?_⟩
 ·have hpp:putRowK enc k (putRowK enc k w0 blk off d) blk off (breakPatterns d a b)=putRowK enc k w0 blk off (breakPatterns d a b):=by unfold putRowK;exact putRow_putRow id w0 blk off _ _ (by simp[hp])
  refine⟨h.2.1.os,h.2.1.tape,h.2.1.output,by rw[z9d,hsz];omega,λb' hb'=>?_⟩;rw[hsm b' zX0,<- hpp];exact z02e _ (h.2.1.block b' hb')
 ·exact z0ba hpp0 (λi hi=>h.2.2 i (by rw[<- h.1];exact hi)) q (by rw[h.1];exact hq)
 ·refine⟨rfl,rfl,rfl,by rw[hsz];omega,λb' h1 h2=>(hsm b' h2).trans ?_⟩;unfold putRowK putRow mapBlock;rw[zY2l,zN zX0]
end
end
section
open Go.Sort Go.Shelf Go.Lib
section
variable {α:Type} [Inhabited α]
theorem z02f{enc:α->List Value}{k blk off:Nat}{w:World}(os:Array Obj)(hblk:blk<w.heap.size){dk:Array α}{W:World}(h:Below (grow w os).heap.size (putRowK enc k (grow w os) blk off dk) W):Below w.heap.size (putRowK enc k w blk off dk) W:=by
 rw[putRowK_grow enc k w os blk off dk hblk]at h;have hs:(grow w os).heap.size=w.heap.size+os.size:=zY2x;have hs2:(grow (putRowK enc k w blk off dk) os).heap.size=w.heap.size+os.size:=by show(_++os).size=_;rw[zY2x,z9d]
 refine⟨h.os,h.tape,h.output,?_,λb hb=>(h.block b (by rw[hs];omega)).trans (Go.Sort.heap_grow_old _ _ (by rw[z9d];exact hb))⟩;have:=h.size;rw[hs2]at this;rw[z9d];omega
theorem zyl{ρ:Ren}(L:LaysGg.n6 Tryz.prog ρ)(h14:ρ.f 14=132)(h28:ρ.f 28=156)(t e:TypeId)(i ie:TypeInfo)(hi:(Tryz.prog).info? t=some i)(hd:i.desc = .slice e)(hpk:(Tryz.prog).packed t=false)(hie:(Tryz.prog).info? e=some ie)(ke:Nat)(hke:∀w,(Extern.Rtype.kind e).run Tryz.prog w = .ok ke w)
  (enc:α->List Value) (k:Nat) (hk:∀x,(enc x).length=k) (hs1:ie.size=k) (hagg:∀w,(isAgg e).run Tryz.prog w = .ok true w) (h1:∀x,∀v∈enc x,v.oneCell'=true) (lt:α->α->Bool) (hO:SWO lt) (g:Nat) (lb:Array Value)
  (eg:∀args w,(callFunc g args).run Tryz.prog w = .ok (.enter g args) w) (blk off c:Nat) (d:Array α) (h2:2<=d.size) (hsz:d.size<4611686018427387904)
  (f:Nat) (hf:(Tryz.prog).funcs.findIdx? (·.name == "internal/reflectlite" ++ ".Swapper$" ++ toString (swapperK d.size ie ke))=some f)
  (gS:Bool) (hx:∀args W,(callFunc f args).run Tryz.prog W=((Extern.ReflectliteSwapper.swap gS args).run Tryz.prog W).andThen λv w'=>.ok (.value v) w')
  (w:World) (hH:HoldsK enc k w blk off d) (hblk:blk<w.heap.size)
  (p:α->Prop) (hp0:∀i,i<d.size->p d[i]!)
  (hless:∀(dk:Array α) (W:World) (i j:Nat),dk.size=d.size->(∀i,i<d.size->p dk[i]!)->Below w.heap.size (putRowK enc k w blk off dk) W->i<d.size->j<d.size->Calls Tryz.prog g (#[.int .i64 i,.int .i64 j]++lb) W λe W'=>e = .returned (.bool (lt dk[i]! dk[j]!))/\Below W.heap.size W W') :
  Calls Tryz.prog (ρ.f 6) #[.iface t (.slice (some ⟨blk,off,none⟩) d.size c),.func (.func g) #[] lb] w λe w' =>
   e = .returned (.tuple #[])/\∃d':Array α,PermIn 0 d.size d d'/\SortedIn lt 0 d.size d'/\Below w.heap.size (putRowK enc k w blk off d') w':=by
 refine Any.sort_Slice_of_pdq L t e i ie hi hd hpk hie ke hke _ d.size c hsz f hf (.func g) #[] lb w _ ?_;have hB:sliceBound Tryz.prog e ie ke (some ⟨blk,off,none⟩) d.size c=#[.slice (some ⟨blk,off,none⟩) d.size c,typeHandle Tryz.prog e]:=by unfold sliceBound;rw[zN (swapperK_gt _ _ _ h2)]
 obtain⟨os,hW⟩:∃os,sliceWorld Tryz.prog ρ t (some ⟨blk,off,none⟩) d.size c w=grow w os:=⟨_,by unfold sliceWorld;rw[alloc_eq_grow,alloc_eq_grow,grow_grow]⟩
 rw[hB,hW,h14];have hbl:blk<(grow w os).heap.size:=by show blk<(w.heap++os).size;rw[zY2x];omega
 have hHg:=holdsK_grow enc k w os blk off d hblk hH;have hsw:=swapSwapsK_of_literal gS f hx e ie hie enc k hk hs1 hagg h1 blk off d.size c;have hlim:Lib.bitLen d.size<4611686018427387904:=Nat.lt_of_le_of_lt (Lib.bitLen_le d.size 62 zX0 zX0) zX0;have S:=z0gd (p:=p) (lt:=lt) (w0:=grow w os) hk hbl hHg rfl hsz eg hsw λdk W i j h hi hj=>hless dk W i j h.1 h.2.2 (z02f os hblk h.2.1) hi hj;have hbrk:=z0ge (p:=p) (w0:=grow w os) (lf:=g) (lb:=lb) (sf:=f) (sb:=#[.slice (some ⟨blk,off,none⟩) d.size c,typeHandle Tryz.prog e]) (f:=156) hbl hHg rfl λd1 w1 a b hH1 hn1 hb1 hab hbn=>by rw[<- h28];exact Any.breakPatterns_func_cells_w (P:=Tryz.prog) (ρ:=ρ) { L with } enc k hk (.func g) #[] lb f _ blk off a b d1 w1 (by rw[hn1];exact hsw) hH1 hb1 hab hbn (by rw[hn1];exact hsz)
 have hp:=z0h4 S hO hbrk (d.size+1) (grow w os) d 0 d.size (Lib.bitLen d.size) zX0 ⟨rfl,by rw[putRowK_self enc k _ blk off d hHg];exact Below.refl _ _,hp0⟩ (Nat.zero_le _) (zY0k _) hlim (Or.inl rfl);refine hp.mono ?_;rintro e w' ⟨rfl,⟨d',hp1,hp2,hp3⟩,-⟩;exact⟨rfl,d',hp1,hp2,z02f os hblk hp3.2.1⟩
end
end
section
open Go.Sort
def putC(c:Coin)(r:List Coin):List Coin:=r.take (zp r c.p)++[c]++r.drop (zp r c.p)
def z0v(l:List Coin):List Coin:=l.foldr putC []
def z1s(l:List Coin):Prop:=l.Pairwise λc d=>c.p≠d.p
theorem z08f(c:Coin)(r:List Coin):(putC c r).Perm (c::r):=by unfold putC;rw[zY1a,zY2y];refine List.perm_middle.trans ?_;rw[zY10]
theorem z2x:∀(l:List Coin),(z0v l).Perm l
 | []=>List.Perm.refl _
 |c::r=>(z08f c (z0v r)).trans ((z2x r).cons c)
theorem zcz{l m:List Coin}(h:l.Perm m)(p:Point):z1q l p=z1q m p:=by unfold z1q;rw[Bool.eq_iff_iff,zY36,zY36];exact⟨λ⟨x,hx,hp⟩=>⟨x,h.mem_iff.1 hx,hp⟩,λ⟨x,hx,hp⟩=>⟨x,h.mem_iff.2 hx,hp⟩⟩
theorem z5r:∀ {l:List Coin},z1s l->z05 (z0v l)
 | [],_=>List.Pairwise.nil
 |c::r,h=>by
  rw[z1s,zY1h]at h;have hh:z1q (z0v r) c.p=false:=by rw[zcz (z2x r)];unfold z1q;rw[zY3m];intro x hx;have:=h.1 x hx;simp only[decide_eq_true_eq];exact λe=>this e.symm
  exact z69 (z5r h.2) hh
theorem zcj{l m:List Coin}(hp:l.Perm m)(hl:z05 l)(hm:z05 m):l=m :=
 hp.eq_of_pairwise (λa b _ _ h1 h2=>absurd h2 (zjz h1)) hl hm
theorem z08g{l m:List Coin}(h:l.Perm m)(hd:z1s l):z1s m:=(h.pairwise_iff (R:=λc d:Coin=>c.p≠d.p) (λhab=>Ne.symm hab)).1 hd
theorem z80{l:List Coin}(h:z05 l):z1s l:=by unfold z05 at h;unfold z1s;refine List.Pairwise.imp ?_ h;intro c d hab e;rw[e]at hab;exact z51 _ hab
abbrev CC:Type:=Coin×Option Addr×Nat×Nat
instance:Inhabited CC:=⟨(z6s,none,0,0)⟩
def z2b(x:CC):List Value:=[.int .i64 x.1.p.tx,.int .i64 x.1.p.at_,.int .i64 x.1.o.coin,.slice x.2.1 x.2.2.1 x.2.2.2,.int .i64 x.1.height,.bool x.1.reward]
def ltCC(x y:CC):Bool:=decide (ltP x.1.p y.1.p)
theorem z0h5:SWO ltCC where
 irrefl:=λx=>decide_eq_false (z51 _)
 trans:=λx y z h1 h2=>decide_eq_true (z8g (of_decide_eq_true h1) (of_decide_eq_true h2))
 ntrans:=λx y z h1 h2=>by have h1:=of_decide_eq_false h1;have h2:=of_decide_eq_false h2;refine decide_eq_false ?_;unfold ltP at *;omega
theorem zfs(x:CC):(z2b x).length=6:=rfl
theorem z08h(x:CC):∀v∈z2b x,v.oneCell'=true:=by intro v hv;simp only[z2b,zY0g,zY1k,or_false]at hv;rcases hv with rfl|rfl|rfl|rfl|rfl|rfl<;>rfl
theorem z0h6{w:World}{F:Nat->Prop}{x:Coin}{cs:List Value}(h:shCoin.rep w F x cs):∃y:CC,z2b y=cs/\y.1=x:=by obtain⟨A,n,c,rfl,-⟩:=z09r h;exact⟨(x,A,n,c),rfl,rfl⟩
theorem z08i{w:World}{F:Nat->Prop}:∀ {zs:List (Coin×List Value)},(∀z∈zs,shCoin.rep w F z.1 z.2)->∃ys:List CC,ys.map (λy=>(y.1,z2b y))=zs
 | [],_=>⟨[],rfl⟩
 |z::zs,h=>by obtain⟨y,h1,h2⟩:=z0h6 (h z (zY0i ..));obtain⟨ys,hys⟩:=z08i λz hz=>h z (zY0h _ hz);refine⟨y::ys,?_⟩;rw[zY1n,hys,h1,h2]
theorem zqi{k:Nat}(hk:0<k):∀(l:List (List Value)),(∀x∈l,x.length=k)->∀t,l.flatten[t]?=(l[t/k]?).bind (·[t%k]?)
 | [],_,t=>by simp
 |x::r,h,t=>by
  have hx:=h x (zY0i ..);rw[zY1q];by_cases ht:t<k
  ·rw[zY0l zX0,Nat.div_eq_of_lt ht,Nat.mod_eq_of_lt ht];rfl
  ·rw[zY0q zX0,hx,zqi hk r (λy hy=>h y (zY0h _ hy))];obtain⟨q,rfl⟩:∃q,t=q+k:=⟨t-k,by omega⟩
   rw[zY30,Nat.add_div_right q hk,Nat.add_mod_right];rfl
theorem zo5(ys:List CC):(flatK z2b 6 ys.toArray).toList=(ys.map z2b).flatten:=by
 apply zY2w;intro t;rw[zqi (k:=6) zX0 _ (λx hx=>by obtain⟨y,_,rfl⟩:=zY2k.1 hx;rfl)];by_cases ht:t<ys.length*6
 ·have h1:t<(flatK z2b 6 ys.toArray).size:=by simpa using ht
  have h2:=get_flatK z2b 6 ys.toArray t zX13;have h3:t/6<ys.length:=zX0;rw[zY1t,zY14 h1,<- getElem!_pos _ t h1,h2,zY0m,zY03 h3];have h4:(ys.toArray)[t/6]! = ys[t/6]:=by simp[h3]
  rw[h4];have h5:t%6<(z2b ys[t/6]).length:=by rw[zfs];omega
  rw[zY1i,zY07,zY03 h5,getElem!_pos (z2b ys[t/6]) (t%6) h5]
 ·rw[zY2m zX13,zY2m zXa];rfl
theorem z08j{ys:List CC}{d:Array CC}(hp:PermIn 0 ys.toArray.size ys.toArray d)(hs:SortedIn ltCC 0 ys.toArray.size d)(hd:z1s (ys.map (·.1))):d.toList.map (·.1)=z0v (ys.map (·.1))/\d.toList.Perm ys:=by
 have hsz:d.size=ys.length:=by rw[hp.1];simp
 have h1:d.toList.Perm ys:=by have:=hp.2.2;simp only[zY2n]at this;rw[Array.extract_eq_self_of_le zX0,Array.extract_eq_self_of_le zX4]at this;exact this
 refine⟨zcj ((h1.map _).trans (z2x _).symm) ?_ (z5r hd),h1⟩;have hdd:z1s (d.toList.map (·.1)):=z08g (h1.map _).symm hd;unfold z05;rw[zY2t];intro i j hi hj hij;rw[zY0y,zY2h]at hi hj;have h2:=hs i j (Nat.zero_le _) hij zXa;have h3:=(zY2t.1 hdd) i j zXw zX14 hij;rw[List.getElem_map,List.getElem_map,Array.getElem_toList,Array.getElem_toList]at h3⊢;rw[getElem!_pos d i hi,getElem!_pos d j hj]at h2;have h2:=of_decide_eq_false h2;rcases zra d[i].1.p d[j].1.p with h|h|h
 ·exact h
 ·exact absurd h h3
 ·exact absurd h h2
end
section
open Go.Sort Go.Shelf
theorem zym{P:Program}{α β:Type}{S:Sh β}{eS:β->List Dt}(hE:ShE S eS){e:α->List Dt}{xs:α->List β}{pk:List PK}{t sz:Nat}{f:Nat}(hpk:z4w pk=false)(hsz:S.size=sz)(hpos:0<S.size)(hen:En P f)
  (h:∀x W F us,zd1 F W->PKRs W F pk (e x) us->Calls P f us.toArray W λr W'=>∃n,z4x S t W F (xs x) n r W') :
  Meets P (z09 e λx=>[.l sz ((xs x).map eS)]) f ⟨pk,[(false,[.fresh t sz])],false⟩:=by
 refine .mk hpk ?_;intro W F ds args rs hF hargs hsp;obtain⟨x,rfl,rfl⟩:=z38 hsp;refine .inl ⟨hen.run _ _,(h x W F args hF hargs).mono ?_⟩;rintro r W' ⟨n,v,zs,rfl,hz,hr,ho,hb⟩;subst hsz;have hag:Agree F W W':=λb hb'=>hb.block b (hF.1 b hb');have hzl:zs.length=n:=by have h1:=ho.1;rw[z9k λz hz=>S.len (hr z hz)]at h1;exact Nat.eq_of_mul_eq_mul_right hpos h1
 refine⟨v,rfl,hb,[v],F,⟨⟨rfl,rfl⟩,rfl,rfl,λj c d u hf hd hu=>?_,λb hb=>.inl hb,λj e' sz' u b hf hu hbl hFb=>?_,λj j' e sz e' sz' u u' b hf hu hf' hu' _ _=>?_⟩⟩
 ·cases j with
  |succ j=>simp[zu]at hf
  |zero =>
   simp only[zu,zY1x,zY2r,zY1b,zY05,zY00]at hf hd hu;subst hf;subst hd;subst hu;refine⟨_,flat zs,rfl,λy hy=>?_,?_,?_⟩
   ·obtain⟨z,_,rfl⟩:=zY2k.1 hy;exact hE.len z
   ·rw[zY0y,<- hz,zY0y,hzl];exact ho
   ·rw[<- hz];clear ho hz hzl;induction zs with
    |nil=>exact trivial
    |cons z zs ih =>simp only[flat,zY1n,zY1q];exact(hE.to (S.keep hag (hr z (zY0i ..)))).append (ih λz hz=>hr z (zY0h _ hz))
 ·cases j with
  |succ j=>simp[zu]at hf
  |zero =>simp only[zY05,zY00]at hu;subst hu;have h1:=zjm ho hbl;have h2:=hF.1 b hFb;omega
 ·cases j<;>cases j'<;>simp[zu]at hf hf' ⊢
def z2a(l:List Coin)(i:Int):Coin:=(l[i.toNat]?).getD z6s
noncomputable def zmp:zd:=spD (λx:Int×Int×List Coin=>(0<=x.1/\x.1<x.2.2.length)/\0<=x.2.1/\x.2.1<x.2.2.length) λx=>decide (ltP (z2a x.2.2 x.1).p (z2a x.2.2 x.2.1).p)
theorem zs4(i j:Int)(l:List Coin)(h:(0<=i/\i<l.length)/\0<=j/\j<l.length):zmp [I i,I j,.l 6 (l.map za)]=some [.b (decide (ltP (z2a l i).p (z2a l j).p))]:=zi (f:=λx:Int×Int×List Coin=>decide (ltP (z2a x.2.2 x.1).p (z2a x.2.2 x.2.1).p)) (i,j,l) h
theorem zu5{l:List Coin}{i:Int}(h0:0<=i)(h1:i<l.length):l[i.toNat]?=some (z2a l i):=by unfold z2a;have h:i.toNat<l.length:=zX0;rw[zY03 h];rfl
def zif:T:=.W [] [.inr 6 2 0] (.W (zD 2 0 2) [] (.W [] [.inr 6 2 1] (.W (zD 2 1 2) [] (zC 24 [3,4,5,6] (.ret [7])))))
theorem z04w:Meets Tryz.prog zmp 115 ⟨[.one,.one,.ptr 1],[(false,[.scal])],true⟩:=by
 refine zg (sp:=(zx [(24,z9a)])) (sigs:=z02) (cut:=[]) (hints:=[]) (fn:=Tryz.f115) (t:=zif) ?_ ?_
 ·exact(zq (L:=[(24,z9a)]) ⟨z7 rfl zu1,trivial⟩)
 ·rintro ds rs hok h;obtain⟨⟨i,j,l⟩,⟨⟨h1,h2⟩,h3,h4⟩,rfl,rfl⟩:=zh h;clear h hok;simp only at h1 h2 h3 h4;refine⟨⟨1,?_⟩,z0b rfl⟩;show den _ _ zif [I i,I j,.l 6 (l.map za)] []=ret (decide (ltP (z2a l i).p (z2a l j).p));have hi:=zu5 h1 h2;have hj:=zu5 h3 h4;generalize z2a l i=x at *;generalize z2a l j=y at *;unfold zif;repeat'(first|refine dqc ?_|refine dqm ?_|refine dqk rfl (zj2 x.p y.p) ?_|exact z5 rfl rfl|fail)
noncomputable def srT:TypeInfo:=((Tryz.prog).info? 29).get (by kernel_rfl)
noncomputable def srE:TypeInfo:=((Tryz.prog).info? 84).get (by kernel_rfl)
theorem srK(n:Nat)(h2:2<=n):Lib.swapperK n srE 25=9:=by have a:srE.hasPointers=true:=zX1;have b:srE.bytes=64:=zX1;unfold Lib.swapperK;rw[a,b,zN zXa,zN zXa];rfl
theorem z0e5{w0 W:World}{F:Nat->Prop}{g b0 n cap:Nat}{dk:Array CC}(hF:∀b,F b->W.heap[b]?=w0.heap[b]?/\b<W.heap.size)(hn:dk.size=n)(hcap:n<=cap)(hcm:cap<=9223372036854775807)(hH:HoldsK z2b 6 W g 0 dk)(hg:g<W.heap.size)
  (hb:W.cell? ⟨b0,0,none⟩=some (.slice (some ⟨g,0,none⟩) n cap)) (hb0:b0<W.heap.size) (hp:∀i,i<n->shCoin.rep w0 F dk[i]!.1 (z2b dk[i]!)) {i j:Nat} (hi:i<n) (hj:j<n) (hbig:n<4611686018427387904) (hG:Glob W) :
  Calls Tryz.prog 115 (#[.int .i64 i,.int .i64 j]++#[.pointer (some ⟨b0,0,none⟩)]) W λe W'=>e=.returned (.bool (ltCC dk[i]! dk[j]!))/\Below W.heap.size W W':=by
 have hl:(dk.toList.map (·.1)).length=n:=by simp[hn]
 have at_:∀k,k<n->z2a (dk.toList.map (·.1)) (k:Int)=dk[k]!.1:=λk hk=>by unfold z2a;rw[zY1d,zY0m,zY1t,getElem!_pos dk k zX0,zY14 zX0];rfl
 have hs:=zs4 (i:Int) (j:Int) (dk.toList.map (·.1)) ⟨⟨by omega,by rw[hl];omega⟩,by omega,by rw[hl];omega⟩;rw[at_ i hi,at_ j hj]at hs;refine zm2 (F:=Lt W.heap.size) (us:=[.int .i64 i,.int .i64 j,.pointer (some ⟨b0,0,none⟩)]) rfl (z25 (fn:=Tryz.f115) ) z04w ⟨λ_ h=>h,hG⟩ hs ?_;refine⟨[I i],_,_,_,rfl,rfl,⟨_,rfl,.i _ _ (wrap_i64 ⟨by omega,by omega⟩)⟩,[I j],_,_,_,rfl,rfl,⟨_,rfl,.i _ _ (wrap_i64 ⟨by omega,by omega⟩)⟩,[.l 6 ((dk.toList.map (·.1)).map za)],_,_,_,rfl,rfl,⟨rfl,b0,0,[.slice (some ⟨g,0,none⟩) n cap],rfl,hb0,λk v hk=>?_,?_,trivial⟩,rfl,rfl⟩
 ·cases k with
  |zero=>simp only[zY05,zY00]at hk;subst hk;exact hb
  |succ k=>simp at hk
 ·refine .l 6 _ _ n cap g 0 (λi j=>(z2b dk[i]!)[j]!) (by simp[hn]) (by simp[hn];omega) hcm (λx hx=>?_) (λ_=>⟨rfl,hg⟩) (λi j x d hx hd=>?_) (λi j x d hx hd=>?_)
  ·obtain⟨c,_,rfl⟩:=zY2k.1 hx;rfl
  ·have hi:i<n:=by have:=(zY02.1 hx).1;simpa[hn]using this
   have hxe:x=za dk[i]!.1:=by rw[zY0m,zY0m,zY1t,zY14 zX0]at hx;rw[getElem!_pos dk i zX0];simpa using hx.symm
   subst hxe;have hj:j<6:=(zY02.1 hd).1;exact(hH.cell zX0 hj).1
  ·have hi:i<n:=by have:=(zY02.1 hx).1;simpa[hn]using this
   have hxe:x=za dk[i]!.1:=by rw[zY0m,zY0m,zY1t,zY14 zX0]at hx;rw[getElem!_pos dk i zX0];simpa using hx.symm
   subst hxe;obtain⟨u,hu,hr⟩:=(she_coin.to (hp i hi)).get hd;have hj:j<6:=(zY02.1 hd).1;have:(z2b dk[i]!)[j]! = u:=by rw[getElem!_pos _ _ (by rw[zfs];exact hj)];rw[zY03 (by rw[zfs];exact hj)]at hu;exact Option.some.inj hu
   rw[this];exact hr.mono (F':=Lt W.heap.size) (λb hb=>(hF b hb).1) λb hb=>(hF b hb).2
theorem z017{l:List Coin}(h:l.length<=1):z0v l=l:=by
 match l,h with
 | [],_=>rfl
 | [x],_=>rfl
theorem z04x(W:World)(os:Array Obj):Below W.heap.size W (grow W os) :=
 ⟨rfl,rfl,rfl,by show _<=(W.heap++os).size;rw[zY2x];omega,λb hb=>Go.Sort.heap_grow_old _ _ hb⟩
theorem z08k{w0 W:World}{F:Nat->Prop}{b0 base n:Nat}{v:Value}{zs:List (Coin×List Value)}(hrow:W.ownsRow base 84 6 v n (flat zs))(hzn:zs.length=n)(hrep:∀z∈zs,shCoin.rep w0 F z.1 z.2)
  (hF:∀b,F b->b<base/\W.heap[b]?=w0.heap[b]?) (hb0:b0<base) (hbox:W.cell? ⟨b0,0,none⟩=some v) (hbase:base<=W.heap.size) (hd:z1s (zs.map (·.1))) (hbig:n<4611686018427387904) {wg:World} (hG:Glob wg) (hbg:Below wg.heap.size wg W) (hgs:wg.heap.size<=base) :
  Calls Tryz.prog 114 #[.iface 29 v,.func (.func 115) #[] #[.pointer (some ⟨b0,0,none⟩)]] W λe W'=>e=.returned (.tuple #[]) /\
   ∃zs':List (Coin×List Value),zs'.map (·.1)=z0v (zs.map (·.1))/\(∀z∈zs',shCoin.rep w0 F z.1 z.2)/\W'.ownsRow base 84 6 v n (flat zs')/\Below base W W':=by
 obtain⟨hlen,hv⟩:=hrow;by_cases h1:n<=1
 ·have hs:z0v (zs.map (·.1))=zs.map (·.1):=z017 (by rw[zY0y];omega);obtain⟨p,c,hvp⟩:∃p c,v=.slice p n c:=by
   rcases hv with⟨rfl,rfl⟩|⟨g,cap,cur,rfl,-⟩
   ·exact⟨none,0,rfl⟩
   ·exact⟨_,_,rfl⟩
  have ht:Calls Tryz.prog 114 #[.iface 29 v,.func (.func 115) #[] #[.pointer (some ⟨b0,0,none⟩)]] W λe w'=>e=.returned (.tuple #[])/\∃os,w'=grow W os:=by
   rw[hvp];rcases zY1u n with h0|h0
   ·subst h0;exact Any.sort_Slice_tiny Tryz.lays6 29 84 srT srE zX1 zX1 zX1 zX1 25 (λ_=>by kernel_rfl) p 0 c h1 143 zX1 (.func 115) #[] #[.pointer (some ⟨b0,0,none⟩)] W
   ·obtain rfl:n=1:=zX0;exact Any.sort_Slice_tiny Tryz.lays6 29 84 srT srE zX1 zX1 zX1 zX1 25 (λ_=>by kernel_rfl) p 1 c h1 144 zX1 (.func 115) #[] #[.pointer (some ⟨b0,0,none⟩)] W
  refine ht.mono ?_;rintro e W' ⟨he,os,rfl⟩;have hg:=z04x W os;refine⟨he,zs,hs.symm,hrep,⟨hlen,?_⟩,hg.mono hbase⟩;rcases hv with h|⟨g,cap,cur,h2,h3,h4,h5⟩
  ·exact .inl h
  ·exact .inr ⟨g,cap,cur,h2,h3,(hg.block g (by rw[zY15]at h4;exact h4.1)).trans h4,h5⟩
 ·rcases hv with⟨-,h0⟩|⟨g,cap,cur,rfl,hgb,hh,hnc,hcm,hcs,ht⟩
  ·omega
  obtain⟨ys,hys⟩:=z08i hrep;have hyn:ys.length=n:=by rw[<- hzn,<- hys,zY0y]
  have hfl:flat zs=(flatK z2b 6 ys.toArray).toList:=by rw[zo5,<- hys];unfold flat;rw[zY3t];rfl
  have hgl:g<W.heap.size:=by rw[zY15]at hh;exact hh.1
  have hH:HoldsK z2b 6 W g 0 ys.toArray:=by
   intro j hj;rw[size_flatK]at hj;have hj:j<n*6:=by rw[<- hyn];simpa using hj
   refine⟨?_,by rw[zY0z];exact zna hh⟩;rw[zY0z,cell_of_row W g j cur _ (0,0) hh];have e1:(cur.toList.take (n*6))[j]?=(flatK z2b 6 ys.toArray).toList[j]?:=by rw[ht,hfl]
   rw[zY17,zP hj,zY1t,zY1t]at e1;rw[e1];have h2:j<(flatK z2b 6 ys.toArray).size:=by rw[size_flatK];simp;omega
   rw[zY14 h2,getElem!_pos (flatK z2b 6 ys.toArray) j h2];rfl
  have hsz:ys.toArray.size=n:=by simpa using hyn
  have hsl:=zyl (α:=CC) Tryz.lays6 rfl rfl 29 84 srT srE zX1 zX1 zX1 zX1 25 (λ_=>by kernel_rfl) z2b 6 zfs zX1 (λ_=>by kernel_rfl) z08h ltCC z0h5 115 #[.pointer (some ⟨b0,0,none⟩)]
   (enters_of Tryz.func115 zX1 rfl) g 0 cap ys.toArray (by rw[hsz];omega) (by rw[hsz];exact hbig) 151 (by rw[srK _ (by rw[hsz];omega)];kernel_rfl) false
   (λargs W=>run_callFunc_extern Tryz.func151 zX1 zX1 zX1 (e:=Extern.ReflectliteSwapper.swap false) zX1 args W) W hH hgl (λy=>shCoin.rep w0 F y.1 (z2b y))
   (λi hi=>by
    rw[getElem!_pos ys.toArray i hi];have hi':i<ys.length:=by simpa using hi
    have:=hrep (ys[i].1,z2b ys[i]) (by rw[<- hys];exact zY26 (zY1y hi'));simpa using this)
   (λdk X i j hdn hdp hbl hi hj=>by
    rw[hsz]at hdn hdp hi hj;have hXs:W.heap.size<=X.heap.size:=by have:=hbl.size;rwa [z9d]at this
    have hoth:∀b,b<W.heap.size->b≠g->X.heap[b]?=W.heap[b]?:=λb hb hne=>(hbl.block b hb).trans (by unfold putRowK putRow mapBlock;rw[zY2l,zN zX0])
    have hHX:HoldsK z2b 6 X g 0 dk:=StK.holds (p:=λ_:CC=>True) (w0:=W) (n:=n) hgl hH hsz ⟨hdn,hbl,λ_ _=>trivial⟩;have hbX:X.cell? ⟨b0,0,none⟩=some (.slice (some ⟨g,0,none⟩) n cap):=by rw[<- hbox];unfold World.cell?;rw[hoth b0 zX0 zX0]
    exact z0e5 (w0:=w0) (F:=F) (λb hb=>⟨(hoth b (by have:=(hF b hb).1;omega) (by have:=(hF b hb).1;omega)).trans (hF b hb).2,by have:=(hF b hb).1;omega⟩) hdn hnc hcm hHX zX0 hbX zX0 hdp hi hj hbig (hG.on ⟨hbl.os.trans hbg.os,hbl.tape.trans hbg.tape,hbl.output.trans hbg.output,by have:=hbg.size;omega,λb hb'=>(hoth b zX0 zX0).trans (hbg.block b hb')⟩))
  rw[hsz]at hsl;refine hsl.mono ?_;rintro e W' ⟨he,d,hp,hs,hb⟩;have hdy:z1s (ys.map (·.1)):=by
   have:ys.map (·.1)=zs.map (·.1):=by rw[<- hys,zY3t];rfl
   rw[this];exact hd
  obtain⟨q1,q2⟩:=z08j (ys:=ys) (by rw[hsz];exact hp) (by rw[hsz];exact hs) hdy;have hdn:d.size=n:=hp.1.trans hsz;have hWs:W.heap.size<=W'.heap.size:=by have:=hb.size;rwa [z9d]at this
  refine⟨he,d.toList.map (λy=>(y.1,z2b y)),?_,?_,⟨?_,.inr ⟨g,cap,putCells id 0 (flatK z2b 6 d) cur,rfl,hgb,?_,hnc,hcm,?_,?_⟩⟩,?_⟩
  ·rw[zY3t,<- hys,zY3t];exact q1
  ·intro z hz;obtain⟨y,hy,rfl⟩:=zY2k.1 hz;exact hrep _ (by rw[<- hys];exact zY26 (q2.mem_iff.1 hy))
  ·have:flat (d.toList.map (λy=>(y.1,z2b y)))=(flatK z2b 6 d).toList:=by have:=zo5 d.toList;rw[zY1r]at this;rw[this];unfold flat;rw[zY3t];rfl
   rw[this,zY2h,size_flatK,hdn]
  ·refine(hb.block g hgl).trans ?_;unfold putRowK putRow mapBlock;rw[zY2l,zP rfl,hh];rfl
  ·unfold putCells;rw[Array.size_mapIdx];exact hcs
  ·have:flat (d.toList.map (λy=>(y.1,z2b y)))=(flatK z2b 6 d).toList:=by have:=zo5 d.toList;rw[zY1r]at this;rw[this];unfold flat;rw[zY3t];rfl
   rw[this];apply zY2w;intro t;rw[zY17];by_cases h:t<n*6
   ·have hn6:n*6<=cur.size:=by rw[hcs];omega
    have h2:t<(flatK z2b 6 d).size:=by rw[size_flatK,hdn];exact h
    rw[zP h,zY1t,zY1t,zY14 h2];unfold putCells;rw[Array.getElem?_mapIdx,zY14 zX0,zY1i,zP ⟨by omega,by omega⟩,Nat.sub_zero,getElem!_pos (flatK z2b 6 d) t h2];rfl
   ·rw[zN h,zY2m (by rw[zY2h,size_flatK,hdn];omega)]
  ·refine⟨hb.os,hb.tape,hb.output,hWs,λb hb'=>(hb.block b zX0).trans ?_⟩;unfold putRowK putRow mapBlock;rw[zY2l,zN zX0]
theorem z04y{W:World}{base e sz n:Nat}{v:Value}{xs:List Value}(h:W.ownsRow base e sz v n xs):∃B c,v=.slice B n c:=by
 rcases h.2 with⟨rfl,rfl⟩|⟨g,cap,cur,rfl,_⟩
 ·exact⟨none,0,rfl⟩
 ·exact⟨_,_,rfl⟩
noncomputable def z6d:zd:=spD (λl:List Coin=>l.length<=1000000/\z1s l) λl=>z0v l
theorem zdc(l:List Coin)(h:l.length<=1000000/\z1s l):z6d [.l 6 (l.map za)]=some [.l 6 ((z0v l).map za)]:=zi (f:=λl:List Coin=>z0v l) l h
theorem z018{W:World}{base base' e sz n:Nat}{v:Value}{xs:List Value}(h:W.ownsRow base e sz v n xs)(hb:base'<=base):W.ownsRow base' e sz v n xs:=by
 refine⟨h.1,?_⟩;rcases h.2 with h|⟨g,cap,cur,h1,h2,h3⟩
 ·exact .inl h
 ·exact .inr ⟨g,cap,cur,h1,by omega,h3⟩
theorem z0bc(xs:List Coin)(A:Option Addr)(n c:Nat)(w:World)(F:Nat->Prop)(h:Rds shCoin w F xs A n c)(hF:∀b,F b->b<w.heap.size)(hn:n*64<=140737488355328)(hd:z1s xs)(hG:Glob w) :
  Calls Tryz.prog 89 #[.slice A n c] w (z4x shCoin 84 w F (z0v xs) n):=by
 obtain⟨w1,hw1⟩:∃w1,w1=w.alloc (.cells #[.slice A n c] 29):=⟨_,rfl⟩
 have hs1:w1.heap.size=w.heap.size+1:=by rw[hw1,z5q]
 have hb1:Below w.heap.size w w1:=by rw[hw1];exact(Below.refl _ _).alloc (zY0k _) _
 have hbx:w1.heap[w.heap.size]?=some (.cells #[.slice A n c] 29 (0,0)):=by rw[hw1,zc3]
 have hag:Agree F w w1:=λb hb=>hb1.block b (hF b hb);have hcl:=zhm xs A n c w1 F (h.keep hag) (λb hb=>by have:=hF b hb;omega) hn;have hxn:=h.1;have HQ:Hid (∀(v:Value) (zs:List (Coin×List Value)) (w2:World),zs.map (·.1)=xs->(∀z∈zs,shCoin.rep w1 F z.1 z.2)->w2.ownsRow w1.heap.size 84 shCoin.size v n (flat zs)->Below w1.heap.size w1 w2 ->
   Calls Tryz.prog 114 #[.iface 29 v,.func (.func 115) #[] #[.pointer (some ⟨w.heap.size,0,none⟩)]] (w2.setCell ⟨w.heap.size,0,none⟩ v) λe W'=>e=.returned (.tuple #[])/\W'.cell? ⟨w.heap.size,0,none⟩=some v/\z4x shCoin 84 w F (z0v xs) n (.returned v) W'):=by
  intro v zs w2 hz1 hz2 hz3 hz4;have hb2:w2.heap[w.heap.size]?=some (.cells #[.slice A n c] 29 (0,0)):=(hz4.block _ zX0).trans hbx;have hst:=heap_setCell_same w2 w.heap.size 0 _ _ v hb2;have hbox:(w2.setCell ⟨w.heap.size,0,none⟩ v).cell? ⟨w.heap.size,0,none⟩=some v:=by unfold World.cell?;rw[hst];rfl
  have hsz:(w2.setCell ⟨w.heap.size,0,none⟩ v).heap.size=w2.heap.size:=by simp[World.setCell]
  have hoth:∀b,b≠w.heap.size->(w2.setCell ⟨w.heap.size,0,none⟩ v).heap[b]?=w2.heap[b]?:=λb hb=>heap_setCell_other w2 _ b _ hb;have hzl:zs.length=n:=by rw[<- hxn,<- hz1,zY0y]
  have hs2:=hz4.size;refine(z08k (w0:=w1) (F:=F) (base:=w1.heap.size) (zzm hz3 (p:=⟨w.heap.size,0,none⟩) (by show w.heap.size<_;omega) v) hzl hz2 (λb hb=>⟨by have:=hF b hb;omega,(hoth b (by have:=hF b hb;omega)).trans (hz4.block b (by have:=hF b hb;omega))⟩) zX0 hbox (by rw[hsz];exact hs2) (by rw[hz1];exact hd) zX0 hG ⟨hz4.os.trans hb1.os,hz4.tape.trans hb1.tape,hz4.output.trans hb1.output,by rw[hsz];omega,λb hb=>(hoth b zX0).trans ((hz4.block b zX0).trans (hb1.block b hb))⟩ zX0).mono ?_;rintro e W' ⟨he,zs',h1,h2,h3,h4⟩;refine⟨he,?_,v,zs',rfl,by rw[h1,hz1],λz hz=>shCoin.keep (λb hb=>(hag b hb).symm) (h2 z hz),z018 h3 zX0,?_⟩
  ·rw[<- hbox];unfold World.cell?;rw[h4.block w.heap.size zX0]
  ·refine⟨h4.os.trans (hz4.os.trans hb1.os),h4.tape.trans (hz4.tape.trans hb1.tape),h4.output.trans (hz4.output.trans hb1.output),by have:=h4.size;omega,λb hb=>(h4.block b zX0).trans ((hoth b zX0).trans ((hz4.block b zX0).trans (hb1.block b hb)))⟩
 have HX:=Lib.hid hbx;clear hbx hag h hd hG;rw[hw1]at hcl;go_enter Tryz.func89,Tryz.ntmps89;go_wp2_with (first|(go_at_call 37;refine hcl.mono ?_;rintro e w2 ⟨v,zs,rfl,hz1,hz2,hz3,hz4⟩;rw[<- hw1]at hz2 hz3 hz4;have hb2:w2.heap[w.heap.size]?=some (.cells #[.slice A n c] 29 (0,0)):=(hz4.block _ zX0).trans HX.out;have hcc:w2.cell? ⟨w.heap.size,0,none⟩=some (.slice A n c):=(by unfold World.cell?;rw[hb2];rfl);have hff:w2.frozen? ⟨w.heap.size,0,none⟩=false:=zna hb2;obtain⟨vB,vc,rfl⟩:=z04y hz3;have hq:=HQ.out _ zs w2 hz1 hz2 hz3 hz4;clear hcl hz1 hz2 hz3 hz4;simp only[])|(go_at_call 114;refine hq.mono ?_;rintro e w3 ⟨rfl,hv,hC⟩;clear hq;simp only[]));go_ret;exact hC
theorem zu6:Meets Tryz.prog z6d 89 zW03 :=
 zym (e:=λx:{ l:List Coin // l.length<=1000000/\z1s l }=>Enc.e x.1) (xs:=λx=>z0v x.1) she_coin rfl rfl zX9 (z25 (fn:=Tryz.f89) ) λx W F us hF h=>by obtain⟨v,us,rfl,h1,h⟩:=z1c h;obtain rfl:=z1y h;obtain⟨A,n,c,rfl,k1⟩:=z2u she_coin h1;have:=x.2.1;have:=k1.1;exact(z0bc x.1 A n c W F k1 hF.1 zX0 x.2.2 hF.2).mono λr W' h=>⟨n,h⟩
end
section
theorem zqj(p:Point):∀(r:List Coin) (k:Nat),(zkz p r k= -1/\z1q r p=false)\/∃j,∃(hj:j<r.length),zkz p r k=((k+j:Nat):Int)/\r[j].p=p
 | [],k=>.inl ⟨rfl,rfl⟩
 |c::r,k=>by
  rw[zkz];by_cases h:c.p=p
  ·rw[zP h];exact .inr ⟨0,by simp,by simp,h⟩
  ·rw[zN h];rcases zqj p r (k+1)with⟨h1,h2⟩|⟨j,hj,h1,h2⟩
   ·refine .inl ⟨h1,?_⟩;unfold z1q at h2⊢;rw[zY3a,h2,decide_eq_false h];rfl
   ·exact .inr ⟨j+1,by simpa using hj,by rw[h1];omega,by simpa using h2⟩
theorem z64(r:List Coin)(p:Point):(z0r r p= -1/\z1q r p=false)\/∃j,∃(hj:j<r.length),z0r r p=(j:Int)/\r[j].p=p:=by
 rcases zqj p r 0 with h|⟨j,hj,h1,h2⟩
 ·exact .inl h
 ·exact .inr ⟨j,hj,by unfold z0r;rw[h1];simp,h2⟩
theorem zo6{r:List Coin}(h:z1s r)(k:Nat):z1s (r.take k++r.drop (k+1)):=by have:(r.take k++r.drop (k+1))=r.eraseIdx k:=(List.eraseIdx_eq_take_drop_succ r k).symm;rw[this];exact h.sublist (List.eraseIdx_sublist r k)
theorem zig{r:List Coin}{c:Coin}(h:z1s r)(hc:z1q r c.p=false):z1s (r++[c]):=by unfold z1s at *;rw[zY2p];refine⟨h,List.pairwise_singleton _ _,λa ha b hb=>?_⟩;rw[zY12.1 hb];intro e;unfold z1q at hc;rw[zY3m]at hc;exact hc a ha (by simpa using e)
def zft(nm:Int)(K:List Coin->List Coin×Int):List Coin->Nat->List Out->List Coin×Int
 |r,_,[]=>K r
 |r,i,o::os=>if z0r r ⟨nm,i⟩<0 then z5x 7 else if decide ((z2a r (z0r r ⟨nm,i⟩)).o=o)=true then zft nm K (r.take (z0r r ⟨nm,i⟩).toNat++r.drop (z0r r ⟨nm,i⟩+1).toNat) (i+1) os else z5x 7
def zdu(ins:List In):List Coin->Nat->List Coin->List Coin×Int
 |r,_,[]=>za5 (z0v r)
 |r,i,c::cs=>if z0r r c.p>=0 then z5x 6 else if c.p≠((ins[i]?).getD ⟨⟨0,0⟩,[]⟩).p then z5x 6 else zdu ins (r++[c]) (i+1) cs
def z40(l:List Coin)(t:Tx)(nm:Int)(u:List Coin):List Coin×Int :=
 if(u.length:Int)≠t.ins.length then z5x 4 else zft nm (λr=>zdu t.ins r 0 u) l 0 t.outs
attribute [local irreducible] z09 spD z1w z9 zo zb z0v den denX z0s z0w
noncomputable def z8t:zd:=spD (λx:List Coin×Tx×Int×List Coin=>z1s x.1/\x.1.length<=1000/\x.2.1.ins.length<=1000/\x.2.1.outs.length<=1000) λx=>z40 x.1 x.2.1 x.2.2.1 x.2.2.2
theorem zqk(l:List Coin)(t:Tx)(nm:Int)(u:List Coin)(h:z1s l/\l.length<=1000/\t.ins.length<=1000/\t.outs.length<=1000):z8t [.l 6 (l.map za),I t.height,.l 3 (t.ins.map eIn),.l 2 (t.outs.map z30),I nm,.l 6 (u.map za)]=some [.l 6 ((z40 l t nm u).1.map za),I (z40 l t nm u).2]:=zi (f:=λx:List Coin×Tx×Int×List Coin=>z40 x.1 x.2.1 x.2.2.1 x.2.2.2) (l,t,nm,u) h
def zv6:T:=zC 48 [13,4,14] (zQ .lss 18 (zI 0) 19 (.ret [.c (.nil 6),zI 7]) (.W [] [.inr 6 13 18] (.W [.idx 13 18 2,.idx 13 18 3] [] (zC 22 [20,21,16,17] (zS (.not 22) (.ite 23 (.ret [.c (.nil 6),zI 7]) (zB .add 18 (zI 1) (zC 13 [13,18,24] (zUn 14 11 12 25 26)))))))))
def zv7:T:=zC 48 [19,22,23] (zQ .geq 28 (zI 0) 29 (.ret [.c (.nil 6),zI 6]) (.W [] [.inr 3 2 20] (.W (zD 2 20 2) [] (zS (.eqs true [(22,30),(23,31)]) (.ite 32 (.ret [.c (.nil 6),zI 6]) (zS (.mk 6 [[22,23,24,25,26,27]]) (zS (.app 6 19 33) (zUe 18 17 34 35))))))))
def zv8:T:=zL 3 (.loop [.c (.nil 6),zI 0,9,zI 0] (zQ .lss 14 10 15 (zE 2 3 14 zv6) (zL 5 (.loop [11,12,13,zI 0] (zQ .lss 20 16 21 (zE 6 5 20 zv7) (zC 49 [19] (zC 25 [22] (zQ .neq 23 (zI 0) 24 (.ret [.c (.nil 6),23]) (.ret [22,zI 0])))))))))
def zga:T:=zL 5 (zL 2 (zQ .neq 6 7 8 (.ret [.c (.nil 6),zI 4]) (zC 9 [0] zv8)))
attribute [local irreducible] z5b z58 z29 z76 z6l z6d
theorem z019:Meets Tryz.prog z8t 58 zW06:=by
 refine zg (sp:=(zx [(9,z5b),(13,z58),(22,z6l),(25,z29),(48,z76),(49,z6d)])) (sigs:=z02) (cut:=[]) (hints:=[⟨5,[.r 8 84 6,.t 9,.r 0 84 6,.t 28,.z 24]⟩,⟨13,[.r 8 84 6,.t 9,.r 0 84 6,.t 59]⟩]) (fn:=Tryz.f58) (t:=zga) ?_ ?_
 ·exact(zq (L:=[(9,z5b),(13,z58),(22,z6l),(25,z29),(48,z76),(49,z6d)]) ⟨z7 rfl zni,z7 rfl zkk,z7 rfl zpv,z7 rfl zdb,z7 rfl zyg,z7 rfl zu6,trivial⟩)
 ·rintro ds rs-h;obtain⟨⟨l,t,nm,u⟩,⟨hd,hl,hti,hto⟩,rfl,rfl⟩:=zh h;clear h;simp only at hd hl hti hto;refine⟨⟨u.length+t.outs.length+1,?_⟩,ztu⟩;show den _ _ zga [.l 6 (l.map za),I t.height,.l 3 (t.ins.map eIn),.l 2 (t.outs.map z30),I nm,.l 6 (u.map za)] []=ret (z40 l t nm u);unfold zga z40;repeat'(first|refine dq1 ?_|refine dqk rfl (z8i l zX0) ?_|exact z5 rfl rfl|refine tR (λh=>?_) λh=>?_|fail)
  have hul:u.length=t.ins.length:=zX0
  (refine zj (λ(r:List Coin) k=>[.l 6 (([]:List Coin).map za),I 0,.l 6 (r.map za),I k]) (λ(r:List Coin) k (os:List Out)=>zft nm (λr=>zdu t.ins r 0 u) r k os) (λr k=>z1s r/\r.length<=l.length) l t.outs ?_ ?_ ?_ ?_ ?_;rfl;exact⟨hd,zY0k _⟩;omega)
  ·rintro r k o os hx hk1 hk ⟨hs,hrl⟩ again hag;rw[zft];have hp:=z8s r ⟨nm,k⟩;rcases z64 r ⟨nm,k⟩with⟨h1,h2⟩|⟨j,hj,h1,h2⟩
   ·rw[h1]at hp⊢;have hn0:(-1:Int)<0:=zX0;rw[zP hn0];have hxo:=hx;repeat'(first|refine dq1 ?_|refine dqc ?_|refine dqm ?_|refine dqk rfl (hp) ?_|exact z5 rfl rfl|refine dqT ?_|fail)
   ·rw[h1]at hp⊢;have hc:r[j]?=some r[j]:=zY03 hj;have hca:z2a r (j:Int)=r[j]:=by unfold z2a;rw[zY1d,hc];rfl
    have e1:((j:Int)).toNat=j:=zX0;have e2:((j:Int)+1).toNat=j+1:=zX0;rw[hca,e1,e2];generalize r[j]=c at *;have hn0:¬(j:Int)<0:=zX0;rw[zN hn0];have hxo:=hx;have hx:=hc;have hag:=hag (r.take j++r.drop (j+1)) ⟨zo6 hs _,by simp only[zY04,zY0d,zY0w];omega⟩;have hdl:=zd8 r (j:Int) ((j:Int)+1) ⟨by omega,by omega,by omega⟩;rw[e1,e2]at hdl;repeat'(first|refine dq1 ?_|refine dqc ?_|refine dqm ?_|refine dqk rfl (hp) ?_|refine dqk rfl (zgy c.o o) ?_|refine dqk rfl (hdl) ?_|exact z6 rfl rfl hag|exact z5 rfl rfl|refine tN (λh=>?_) λh=>?_|refine dqT ?_|refine dqF ?_|fail)
  ·rintro r ⟨hs,hrl⟩ again;rw[zft];repeat'(first|refine dq1 ?_|refine dqF ?_|fail)
   (refine zj (λ(r:List Coin) k=>[.l 6 (([]:List Coin).map za),I 0,.l 6 (r.map za),I k]) (λ(r:List Coin) k (cs:List Coin)=>zdu t.ins r k cs) (λr k=>z1s r/\r.length<=l.length+k) r u ?_ ?_ ?_ ?_ ?_;rfl;exact⟨hs,by omega⟩;omega)
   ·rintro r k c cs hx hk1 hk ⟨hs,hrl⟩ again' hag;rw[zdu];have hki:k<t.ins.length:=zX0;obtain⟨x,hxi⟩:∃x,t.ins[k]?=some x:=⟨_,zY03 hki⟩
    rw[hxi];simp only[zY1f];have hp:=z8s r c.p;rcases z64 r c.p with⟨h1,h2⟩|⟨j,hj,h1,h2⟩
    ·rw[h1]at hp⊢;have hag:=hag (r++[c]) ⟨zig hs h2,by rw[zY04,zY1c];omega⟩;have hn0:¬(-1:Int)>=0:=zX0;rw[zN hn0];have hlr:r.length+1<=1000000:=zX0;repeat'(first|refine dq1 ?_|refine dqc ?_|refine dqm ?_|refine dqk rfl (hp) ?_|refine z4 (z1p (r:=[za c]) rfl rfl zX4) ?_|exact z6 rfl rfl hag|exact z5 rfl rfl|refine tR (λh=>?_) λh=>?_|refine dqT ?_|refine dqF ?_|fail)
    ·rw[h1]at hp⊢;have hn0:(j:Int)>=0:=zX0;rw[zP hn0];repeat'(first|refine dq1 ?_|refine dqc ?_|refine dqm ?_|refine dqk rfl (hp) ?_|exact z5 rfl rfl|refine dqT ?_|fail)
   ·rintro r ⟨hs,hrl⟩ again';rw[zdu];unfold za5;repeat'(first|refine dq1 ?_|refine dqk rfl (zdc r ⟨by omega,hs⟩) ?_|refine dqk rfl (z3w (z0v r)) ?_|exact z5 rfl rfl|refine tR (λh=>?_) λh=>?_|refine dqF ?_|fail)
end
theorem z0e6{r:List Coin}{i:Nat}{c:Coin}(h:r[i]?=some c):(r.take i++c::r.drop (i+1))=r:=by obtain⟨hi,rfl⟩:=zY02.1 h;rw[<- zY1z hi,zY10]
theorem zyn{r:List Coin}{i:Nat}{c:Coin}(h:r[i]?=some c):(c::(r.take i++r.drop (i+1))).Perm r:=by have hp:=(List.perm_middle (a:=c) (l₁:=r.take i) (l₂:=r.drop (i+1))).symm;rw[z0e6 h]at hp;exact hp
theorem zbi{r:List Coin}(h:z1s r){p:Point}:(z0r r p<0/\z1q (z0v r) p=false) \/
  ∃c,0<=z0r r p/\z1q (z0v r) p=true/\c∈r/\c.p=p/\z2a r (z0r r p)=c/\((z0v r)[zp (z0v r) p]?).getD z6s=c/\(z0v r)[zp (z0v r) p]?=some c/\z1s (r.take (z0r r p).toNat++r.drop (z0r r p+1).toNat)/\(r.take (z0r r p).toNat++r.drop (z0r r p+1).toNat).length<=r.length /\
   (z0v r).take (zp (z0v r) p)++(z0v r).drop (zp (z0v r) p+1)=z0v (r.take (z0r r p).toNat++r.drop (z0r r p+1).toNat):=by
 rcases z64 r p with⟨h1,h2⟩|⟨j,hj,h1,h2⟩
 ·exact .inl ⟨by omega,(zcz (z2x r) p).trans h2⟩
 ·refine .inr ⟨r[j],?_⟩;have hs:=z5r h;have hm:r[j]∈r:=zY1y hj;have hm':r[j]∈z0v r:=(z2x r).mem_iff.2 hm;have hp:=zkm hs hm';have e1:((j:Int)).toNat=j:=zX0;have e2:((j:Int)+1).toNat=j+1:=zX0;have hc:r[j]?=some r[j]:=zY03 hj;have hd:=zo6 h j;rw[h2]at hp;rw[h1,e1,e2];refine⟨by omega,hasP_mem.2 ⟨_,hm',h2⟩,hm,h2,?_,?_,hp,hd,?_,?_⟩
  ·unfold z2a;rw[e1,hc];rfl
  ·rw[hp];rfl
  ·simp only[zY04,zY0d,zY0w];omega
  ·refine zcj (List.Perm.cons_inv (a:=r[j]) ?_) (z7d hs _) (z5r hd);exact(zyn hp).trans ((z2x r).trans ((zyn hc).symm.trans ((z2x _).symm.cons _)))
theorem zyo{r:List Coin}(h:z1s r){c:Coin}(hc:z1q r c.p=false):z1s (r++[c])/\(z0v r).take (zp (z0v r) c.p)++[c]++(z0v r).drop (zp (z0v r) c.p)=z0v (r++[c]):=by have hd:=zig h hc;refine⟨hd,zcj ?_ (z69 (z5r h) ((zcz (z2x r) _).trans hc)) (z5r hd)⟩;rw[zY1a,zY2y];refine List.perm_middle.trans ?_;rw[zY10];exact((z2x r).cons c).trans ((List.perm_append_singleton c r).symm.trans (z2x _).symm)
theorem zyp{r:List Coin}(h:z05 r):z0v r=r:=zcj (z2x r) (z5r (z80 h)) h
theorem zu7(ins:List In):∀(u r:List Coin) (k:Nat),z1s r->zdu ins r k u=z6t ins z5x za5 (z0v r) k u
 | [],r,k,_=>by rw[zdu,z6t]
 |c::u,r,k,h=>by
  rw[zdu,z6t];by_cases hh:z1q (z0v r) c.p=true
  ·rw[zP hh];rcases zbi h (p:=c.p)with⟨_,h2⟩|⟨d,h1,_⟩
   ·rw[hh]at h2;cases h2
   ·rw[zP h1]
  ·rw[zN hh];rcases zbi h (p:=c.p)with⟨h1,h2⟩|⟨d,_,h2,_⟩
   ·have hn:¬z0r r c.p>=0:=zX0;rw[zN hn];obtain⟨hd,he⟩:=zyo h ((zcz (z2x r) c.p).symm.trans h2);rw[he,zu7 ins u _ _ hd];by_cases e:c.p=((ins[k]?).getD ⟨⟨0,0⟩,[]⟩).p
    ·rw[zN (λx=>x e),zN (λx=>x e.symm)]
    ·rw[zP e,zP (λx=>e x.symm)]
   ·exact absurd h2 hh
theorem zu8(nm:Int){K K':List Coin->List Coin×Int}(hK:∀r,z1s r->K r=K' (z0v r)):∀(os:List Out) (r:List Coin) (k:Nat),z1s r->zft nm K r k os=z87 nm z5x K' (z0v r) k os
 | [],r,k,h=>by rw[zft,z87,hK r h]
 |o::os,r,k,h=>by
  rw[zft,z87];rcases zbi h (p:=⟨nm,k⟩)with⟨h1,h2⟩|⟨d,h1,h2,h3,h4,h5,h6,_,h7,_,h8⟩
  ·rw[zP h1,zN (by rw[h2];decide)]
  ·have hn:¬z0r r ⟨nm,k⟩<0:=zX0;rw[zN hn,zP h2,h5,h6,h8,zu8 nm hK os _ _ h7]
theorem zck{l:List Coin}{t:Tx}{nm:Int}{u:List Coin}(hl:z9 l=0)(ht:zo t=0):z40 l t nm u=z1i l t nm u:=by
 have ok:=(z0m l).1 hl;unfold z40 z1i;rw[zN (show ¬z9 l≠0 by rw[hl];decide),zN (show ¬zo t≠0 by rw[ht];decide)];by_cases h:(u.length:Int)≠t.ins.length
 ·rw[zP h,zP h]
 ·rw[zN h,zN h,zu8 nm (K':=λr=>z6t t.ins z5x za5 r 0 u) (λr h=>zu7 t.ins u r 0 h) t.outs l 0 (z80 ok.sorted),zyp ok.sorted]
theorem z08l{l seen:List In}(h:z2w l seen=0):∀x∈l,zb x.key=0:=by
 induction l generalizing seen with
 |nil=>intro x hx;cases hx
 |cons y l ih =>
  rw[z2w]at h;by_cases hb:z53 y≠0
  ·rw[zP hb]at h;exact absurd h hb
  ·rw[zN hb]at h;by_cases hi:0<=z52 seen y.p 0
   ·rw[zP hi]at h;cases h
   ·rw[zN hi]at h;intro x hx;rcases zY0g.1 hx with rfl|hx
    ·have hb':z53 x=0:=zY0u.1 hb;unfold z53 at hb';split at hb'
     ·cases hb'
     ·exact hb'
    ·exact ih h x hx
section
variable {ρ:Type}
def z7q(h:Int)(bad:Int->ρ)(K:List Coin->List Coin->ρ):List Coin->List Coin->List In->ρ
 |r,s,[]=>K r s
 |r,s,x::xs=>if z0r r x.p<0 then bad 7 else
   if(z2a r (z0r r x.p)).reward=true then
    if(z2a r (z0r r x.p)).height+2>h then bad 10
    else if(z2e (z2a r (z0r r x.p)).o.lock x.key h).1=true then z7q h bad K (r.take (z0r r x.p).toNat++r.drop (z0r r x.p+1).toNat) (s++[z2a r (z0r r x.p)]) xs else bad 8
   else if(z2e (z2a r (z0r r x.p)).o.lock x.key h).1=true then z7q h bad K (r.take (z0r r x.p).toNat++r.drop (z0r r x.p+1).toNat) (s++[z2a r (z0r r x.p)]) xs else bad 8
def z6e(nm h:Int)(rw:Bool)(bad:Int->ρ)(K:List Coin->ρ):List Coin->Nat->List Out->ρ
 |r,_,[]=>K r
 |r,i,o::os=>if z0r r ⟨nm,i⟩>=0 then bad 6 else z6e nm h rw bad K (r++[⟨⟨nm,i⟩,o,h,rw⟩]) (i+1) os
theorem zih(h:Int)(bad:Int->ρ){K K':List Coin->List Coin->ρ}(hK:∀r s,z1s r->K r s=K' (z0v r) s):∀(xs:List In) (r s:List Coin),z1s r->z7q h bad K r s xs=z3l h bad K' (z0v r) s xs
 | [],r,s,hd=>by rw[z7q,z3l,hK r s hd]
 |x::xs,r,s,hd=>by
  rw[z7q,z3l];rcases zbi hd (p:=x.p)with⟨h1,h2⟩|⟨d,h1,h2,h3,h4,h5,h6,_,h7,_,h8⟩
  ·rw[zP h1,zN (by rw[h2];decide)]
  ·have hn:¬z0r r x.p<0:=zX0;rw[zN hn,zP h2,h5,h6,h8,zih h bad hK xs _ _ h7]
theorem zii(nm h:Int)(rw_:Bool)(bad:Int->ρ){K K':List Coin->ρ}(hK:∀r,z1s r->K r=K' (z0v r)):∀(os:List Out) (r:List Coin) (k:Nat),z1s r->z6e nm h rw_ bad K r k os=z3c nm h rw_ bad K' (z0v r) k os
 | [],r,k,hd=>by rw[z6e,z3c,hK r hd]
 |o::os,r,k,hd=>by
  rw[z6e,z3c];rcases zbi hd (p:=⟨nm,k⟩)with⟨h1,h2⟩|⟨d,h1,h2,_⟩
  ·have hn:¬z0r r ⟨nm,k⟩>=0:=zX0;obtain⟨hd',he⟩:=zyo hd (c:=⟨⟨nm,k⟩,o,h,rw_⟩) ((zcz (z2x r) _).symm.trans h2);simp only at he;rw[zN hn,zN (by rw[h2];decide),he,zii nm h rw_ bad hK os _ _ hd']
  ·rw[zP h1,zP h2]
end
def z3i(l:List Coin)(t:Tx)(nm h:Int):List Coin×List Coin×Int :=
 if nm<1 then z1v 3 else if nm>120 then z1v 3 else if h<1 then z1v 3 else if h>1000 then z1v 3 else
 if(t.ins.length:Int)=0 then
  if t.height≠h then z1v 4 else z7q h z1v (λr s=>z6e nm h (decide ((t.ins.length:Int)=0)) z1v (λr=>z5w s (z0v r)) r 0 t.outs) l [] t.ins
 else z7q h z1v (λr s=>if z16 t s<0 then z1v 9 else z6e nm h (decide ((t.ins.length:Int)=0)) z1v (λr=>z5w s (z0v r)) r 0 t.outs) l [] t.ins
theorem zdv{l:List Coin}{t:Tx}{nm h:Int}(hl:z9 l=0)(ht:zo t=0):z3i l t nm h=zy l t nm h:=by
 have ok:=(z0m l).1 hl;unfold z3i zy;rw[zN (show ¬z9 l≠0 by rw[hl];decide),zN (show ¬zo t≠0 by rw[ht];decide)];by_cases a1:nm<1
 ·rw[zP a1,zP (show nm<1\/120<nm\/h<1\/1000<h by omega)]
 rw[zN a1];by_cases a2:nm>120
 ·rw[zP a2,zP (show nm<1\/120<nm\/h<1\/1000<h by omega)]
 rw[zN a2];by_cases a3:h<1
 ·rw[zP a3,zP (show nm<1\/120<nm\/h<1\/1000<h by omega)]
 rw[zN a3];by_cases a4:h>1000
 ·rw[zP a4,zP (show nm<1\/120<nm\/h<1\/1000<h by omega)]
 rw[zN a4,zN (show ¬(nm<1\/120<nm\/h<1\/1000<h)by omega)];have hs:=zyp ok.sorted;have hd:=z80 ok.sorted;by_cases e:(t.ins.length:Int)=0
 ·rw[zP e,zP e];by_cases e2:t.height≠h
  ·rw[zP e2,zP e2]
  ·rw[zN e2,zN e2,zih h z1v (K':=λr s=>z3c nm h (decide ((t.ins.length:Int)=0)) z1v (z5w s) r 0 t.outs) (λr s hr=>zii nm h _ z1v (λr _=>rfl) t.outs r 0 hr) t.ins l [] hd,hs]
 ·rw[zN e,zN e,zih h z1v (K':=λr s=>if z16 t s<0 then z1v 9 else z3c nm h (decide ((t.ins.length:Int)=0)) z1v (z5w s) r 0 t.outs) (λr s hr=>by
   by_cases f:z16 t s<0
   ·rw[zP f,zP f]
   ·rw[zN f,zN f];exact zii nm h _ z1v (λr _=>rfl) t.outs r 0 hr) t.ins l [] hd,hs]
section
open Go.Lib (itoa)
theorem zmq{l:List Coin}{t:Tx}{nm h:Int}(h0:(zy l t nm h).2.2=0):z9 (zy l t nm h).1=0:=(z0m _).2 (z96 h0).choose_spec.end_
theorem z04z{r:List Coin}(h:(za5 r).2=0):z9 (za5 r).1=0:=by
 unfold za5 at h⊢;by_cases hr:z9 r=0
 ·rw[zN (λk=>k hr)];exact hr
 ·rw[zP hr]at h;exact absurd h hr
theorem zmr{ins:List In}:∀(u r:List Coin) (k:Nat),(z6t ins z5x za5 r k u).2=0->z9 (z6t ins z5x za5 r k u).1=0
 | [],r,k,h=>by rw[z6t]at h⊢;exact z04z h
 |c::u,r,k,h=>by
  rw[z6t]at h⊢;by_cases h1:z1q r c.p=true
  ·rw[zP h1]at h;cases h
  ·rw[zN h1]at h⊢;by_cases h2:((ins[k]?).getD ⟨⟨0,0⟩,[]⟩).p≠c.p
   ·rw[zP h2]at h;cases h
   ·rw[zN h2]at h⊢;exact zmr u _ _ h
theorem zms{nm:Int}{K:List Coin->List Coin×Int}(hK:∀r,(K r).2=0->z9 (K r).1=0):∀(os:List Out) (r:List Coin) (k:Nat),(z87 nm z5x K r k os).2=0->z9 (z87 nm z5x K r k os).1=0
 | [],r,k,h=>by rw[z87]at h⊢;exact hK r h
 |o::os,r,k,h=>by
  rw[z87]at h⊢;by_cases h1:z1q r ⟨nm,k⟩=true
  ·rw[zP h1]at h⊢;by_cases h2:decide (((r[zp r ⟨nm,k⟩]?).getD z6s).o=o)=true
   ·rw[zP h2]at h⊢;exact zms hK os _ _ h
   ·rw[zN h2]at h;cases h
  ·rw[zN h1]at h;cases h
theorem zf1{l:List Coin}{t:Tx}{nm:Int}{u:List Coin}(h:(z1i l t nm u).2=0):z9 (z1i l t nm u).1=0:=by
 unfold z1i at h⊢;by_cases k1:z9 l≠0
 ·rw[zP k1]at h;exact absurd h k1
 rw[zN k1]at h⊢;by_cases k2:zo t≠0
 ·rw[zP k2]at h;exact absurd h k2
 rw[zN k2]at h⊢;by_cases k3:(u.length:Int)≠t.ins.length
 ·rw[zP k3]at h;cases h
 rw[zN k3]at h⊢;exact zms (λr=>zmr u r 0) _ _ _ h
def z4k(b:Block)(ns:List Int):List Coin->List Undo->Int->List Int->List Coin×List Undo×Int
 |l,us,_,[]=>(l,us,0)
 |l,us,fees,i::r=>if i=0/\z12 (b.txs.getD 0 zTx).outs>z0z b.height+fees then([],[],9)else
  if(z3i l (b.txs.getD i.toNat zTx) (ns.getD i.toNat 0) b.height).2.2≠0 then([],[],(z3i l (b.txs.getD i.toNat zTx) (ns.getD i.toNat 0) b.height).2.2)else
  z4k b ns (z3i l (b.txs.getD i.toNat zTx) (ns.getD i.toNat 0) b.height).1 (us.set i.toNat ⟨(z3i l (b.txs.getD i.toNat zTx) (ns.getD i.toNat 0) b.height).2.1⟩) (if i>0 then fees+z16 (b.txs.getD i.toNat zTx) (z3i l (b.txs.getD i.toNat zTx) (ns.getD i.toNat 0) b.height).2.1 else fees) r
def zdd(i n:Nat):List Int:=(List.range' i n).map λj:Nat=>(j:Int)
theorem zu9(i:Nat):zdd i 0=[]:=rfl
theorem zua(i n:Nat):zdd i (n+1)=(i:Int)::zdd (i+1) n:=by unfold zdd;rw[List.range'_succ];rfl
def zs5(ts:List (List UInt8))(l:List Coin)(b:Block):List Coin×List Undo×Int :=
 if(z1x ts b).2.2.2≠0 then([],[],(z1x ts b).2.2.2)else
 z4k b (z1x ts b).2.2.1 l (List.replicate b.txs.length ⟨[]⟩) 0 (zdd 1 (b.txs.length-1)++[0])
theorem zmt{b:Block}{ns:List Int}(hb:zf b=0):∀(m i:Nat) (l:List Coin) (us:List Undo) (fees:Int),b.txs.length=m+i->1<=i->z9 l=0 ->
  z4k b ns l us fees (zdd i m++[0])=z5n b ns l us (z0z b.height+fees) i (b.txs.drop i)
 |0,i,l,us,fees,hn,hi,hl=>by
  have ok:=z1b hb;have ht0:b.txs[0]?=some (b.txs.getD 0 zTx):=z1r _ ok.some;have hct:=ok.each _ (zY06 ht0);have e:b.txs.drop i=[]:=zY1m zX0;rw[e,z5n,zu9,zY16,z4k,z4k,show Int.toNat 0=0 from rfl,zdv hl hct];have ef:z16 (b.txs.getD 0 zTx) []= -z12 (b.txs.getD 0 zTx).outs:=by rw[zew];simp only[zm,zY2o,List.sum_nil];omega
  unfold zc0;by_cases hbig:z12 (b.txs.getD 0 zTx).outs>z0z b.height+fees
  ·rw[zP ⟨rfl,hbig⟩,zP (show z0z b.height+fees < -z16 (b.txs.getD 0 zTx) []by omega)]
  ·rw[zN (λh=>hbig h.2),zN (show ¬z0z b.height+fees < -z16 (b.txs.getD 0 zTx) []by omega)]
 |m+1,i,l,us,fees,hn,hi,hl=>by
  have ok:=z1b hb;have hti:b.txs[i]?=some (b.txs.getD i zTx):=z1r _ zX0;have hct:=ok.each _ (zY06 hti);have e:b.txs.drop i=b.txs.getD i zTx::b.txs.drop (i+1):=by rw[zY1z zX0];congr 1;rw[zY0r,zY03 zX0];rfl
  have h0:¬((i:Int)=0/\z12 (b.txs.getD 0 zTx).outs>z0z b.height+fees):=λh=>by have:=h.1;omega
  rw[e,z5n,zua,zY1g,z4k,zN h0,zY1d,zdv hl hct,zP (show(i:Int)>0 by omega)];by_cases hq:(zy l (b.txs.getD i zTx) (ns.getD i 0) b.height).2.2=0
  ·rw[zN (λk=>k hq),zN (λk=>k hq),zmt hb m (i+1) _ _ _ zX0 zX0 (zmq hq),<- Int.add_assoc]
  ·rw[zP hq,zP hq]
theorem z08m{k:Book}{l:List Coin}{b:Block}(hk:zk k=0)(hl:z9 l=0):zs5 k.texts l b=z03 k l b:=by
 unfold zs5 z03;rw[zqf hk,zN (show ¬z9 l≠0 from λx=>x hl)];by_cases he:(z0c k b).2.2.2=0
 ·obtain⟨hb,hn⟩:=zbc he;have ok:=z1b hb;have:=ok.some;rw[zN (λk=>k he),zN (λk=>k he),zmt hb (b.txs.length-1) 1 _ _ _ zX0 (zY0k _) hl,Int.add_zero]
 ·rw[zP he,zP he]
def z6p(b:Block)(ns:List Int)(us:List Undo):List Coin->List Int->List Coin×Int
 |l,[]=>(l,0)
 |l,i::r=>if(z40 l (b.txs.getD i.toNat zTx) (ns.getD i.toNat 0) (us.getD i.toNat ⟨[]⟩).spent).2≠0 then([],(z40 l (b.txs.getD i.toNat zTx) (ns.getD i.toNat 0) (us.getD i.toNat ⟨[]⟩).spent).2)else
  z6p b ns us (z40 l (b.txs.getD i.toNat zTx) (ns.getD i.toNat 0) (us.getD i.toNat ⟨[]⟩).spent).1 r
def z88:Nat->List Int
 |0=>[]
 |i+1=>((i:Int)+1)::z88 i
def zyq(ts:List (List UInt8))(l:List Coin)(b:Block)(us:List Undo):List Coin×Int :=
 if(z1x ts b).2.2.2≠0 then([],(z1x ts b).2.2.2)else
 if(us.length:Int)≠b.txs.length then([],4)else
 z6p b (z1x ts b).2.2.1 us l (0::z88 (b.txs.length-1))
theorem zql{b:Block}{ns:List Int}{us:List Undo}(hb:zf b=0):∀(i:Nat) (l:List Coin),i<b.txs.length->z9 l=0->z6p b ns us l (z88 i)=zbd b ns us l i
 |0,l,hi,hl=>by rw[z88,z6p,zbd]
 |i+1,l,hi,hl=>by
  have ok:=z1b hb;have hti:b.txs[i+1]?=some (b.txs.getD (i+1) zTx):=z1r _ hi;have hct:=ok.each _ (zY06 hti);rw[z88,z6p,zbd,show((i:Int)+1).toNat=i+1 by omega,zck hl hct];by_cases hq:(z1i l (b.txs.getD (i+1) zTx) (ns.getD (i+1) 0) (us.getD (i+1) ⟨[]⟩).spent).2=0
  ·rw[zN (λk=>k hq),zN (λk=>k hq),zql hb i _ zX0 (zf1 hq)]
  ·rw[zP hq,zP hq]
theorem z0bd{k:Book}{l:List Coin}{b:Block}{us:List Undo}(hk:zk k=0)(hl:z9 l=0):zyq k.texts l b us=z1o k l b us:=by
 unfold zyq z1o;rw[zqf hk,zN (show ¬z9 l≠0 from λx=>x hl)];by_cases he:(z0c k b).2.2.2=0
 ·obtain⟨hb,hn⟩:=zbc he;have ok:=z1b hb;have h1:=ok.some;have ht0:b.txs[0]?=some (b.txs.getD 0 zTx):=z1r _ ok.some;have hct:=ok.each _ (zY06 ht0);have he':¬(z0c k b).2.2.2≠0:=λx=>x he;rw[zN he',zN he'];by_cases hu:(us.length:Int)≠b.txs.length
  ·rw[zP hu,zP hu]
  rw[zN hu,zN hu,z6p,Int.toNat_zero,zck hl hct];by_cases hq:(z1i l (b.txs.getD 0 zTx) ((z0c k b).2.2.1.getD 0 0) (us.getD 0 ⟨[]⟩).spent).2=0
  ·rw[zN (λk=>k hq),zN (λk=>k hq),zql hb _ _ zX0 (zf1 hq)]
  ·rw[zP hq,zP hq]
 ·rw[zP he,zP he]
end
section
attribute [local irreducible] z09 spD z1w
def zgb(r:Option (List Int)):List Int×Bool:=match r with
 |none=>([],false)
 |some s=>(s,true)
noncomputable def z7e:zd:=spD (λ_:Int=>True) λn=>decide (-1000000<=n/\n<=1000000)
theorem z13(n:Int):z7e [I n]=some [.b (decide (-1000000<=n/\n<=1000000))]:=zi (f:=λn:Int=>decide (-1000000<=n/\n<=1000000)) n trivial
def zs6:T:=zQ .geq 0 (zI (-1000000)) 1 (zB .leq 0 (zI 1000000) (.ret [2])) (.ret [.c (.b false)])
def zU1f(c:Nat):T:=.ite (.v (c+8)) (.ret [.c (.nil 1),.c (.b false)]) (zC 42 [.v (c+6)] (zS (.not (.v (c+9))) (.ite (.v (c+10)) (.ret [.c (.nil 1),.c (.b false)]) (zS (.mk 1 [[.v (c+6)]]) (zS (.app 1 (.v (c+3)) (.v (c+11))) (zUe (c+2) (.v (c+1)) (.v (c+12)) (.v (c+13))))))))
def zU0(a b:Atom)(c:Nat):T:=zL a (.loop [17,18,b,zI 0] (zQ .lss (.v (c+4)) (.v c) (.v (c+5)) (zE 1 a (.v (c+4)) (zL (.v (c+3)) (zB .geq (.v (c+7)) (zI 16) (zU1f c)))) (zUn 20 (.v (c+1)) (.v (c+2)) (.v (c+3)) (.v (c+6)))))
def zUh(a:Atom)(b:Nat)(c:Atom):T:=zS (.mk 1 [[a]]) (zU0 (.v b) c (b+1))
def zU1g(a:Nat):T:=.ite (.v (a+27)) (.ret [.c (.nil 1),.c (.b false)]) (zC 42 [.v (a+25)] (zS (.not (.v (a+28))) (.ite (.v (a+29)) (.ret [.c (.nil 1),.c (.b false)]) (zS (.mk 1 [[.v (a+25)]]) (zS (.app 1 (.v (a+22)) (.v (a+30))) (zB .add (.v (a+23)) (zI 1) (.again 2 [.v (a+20),.v (a+21),.v (a+31),.v (a+32)])))))))
def zU1h(a:Nat):T:=zS (.mk 1 [[.v (a+17)]]) (zL (.v (a+18)) (.loop [17,18,.v a,zI 0] (zQ .lss (.v (a+23)) (.v (a+19)) (.v (a+24)) (zE 1 (.v (a+18)) (.v (a+23)) (zL (.v (a+22)) (zB .geq (.v (a+26)) (zI 16) (zU1g a)))) (zUn 20 (.v (a+20)) (.v (a+21)) (.v (a+22)) (.v (a+25))))))
def zU1i(a:Nat):T:=.loop [.v (a+13),zI 0] (zQ .lss (.v (a+15)) (zI 3) (.v (a+16)) (zB .mul (.v (a+14)) (zI 7919) (zB .add (.v (a+17)) (zI 104729) (zB .rem (.v (a+18)) (zI 1000003) (zUx (.v (a+15)) (.v (a+19)) (.v (a+20)))))) (zB .rem (.v (a+14)) (zI 1000001) (zU1h a)))
def zU9(a:Nat)(b:Atom):T:=zQ .eql 22 (zI 12) (.v (a+11)) (zUh 2 (a+12) (.v a)) (zQ .eql 22 (zI 13) (.v (a+12)) (zB .add b (zI 1000000) (zU1i a)) (zU0 (.c (.nil 1)) (.v a) (a+13)))
def zUd(a:Nat)(b:Atom):T:=.ite (.v a) (zUh (zI 1) (a+1) b) (zUh (zI 0) (a+1) b)
def zU1j(a:Nat)(b c:Atom):T:=.ite (.v (a+10)) (zB .mul b c (zB .neq (.v (a+11)) (zI 0) (zUd (a+12) (.v (a+2))))) (zQ .eql 22 (zI 9) (.v (a+11)) (zB .eql b (zI 0) (zUd (a+12) (.v (a+2)))) (zQ .eql 22 (zI 11) (.v (a+12)) (zQ .eql b (zI 0) (.v (a+13)) (.ret [.c (.nil 1),.c (.b false)]) (zU0 (.c (.nil 1)) (.v (a+2)) (a+14))) (zU9 (a+2) b)))
def zU1k(a:Nat)(b c:Atom):T:=.ite (.v (a+6)) (zB .add b c (zUh (.v (a+7)) (a+8) (.v (a+2)))) (zQ .eql 22 (zI 6) (.v (a+7)) (zB .sub b c (zUh (.v (a+8)) (a+9) (.v (a+2)))) (zQ .eql 22 (zI 7) (.v (a+8)) (zB .eql b c (zUd (a+9) (.v (a+2)))) (zQ .eql 22 (zI 8) (.v (a+9)) (zB .lss b c (zUd (a+10) (.v (a+2)))) (zB .eql 22 (zI 10) (zU1j a b c)))))
def zU1l(a:Nat)(b c:Atom):T:=.ite (.v (a+3)) (zUh 23 (a+4) (.v (a+2))) (zQ .eql 22 (zI 2) (.v (a+4)) (zS (.mk 1 [[b],[b]]) (zU0 (.v (a+5)) (.v (a+2)) (a+6))) (zQ .eql 22 (zI 3) (.v (a+5)) (zS (.mk 1 [[c],[b]]) (zU0 (.v (a+6)) (.v (a+2)) (a+7))) (zB .eql 22 (zI 5) (zU1k a b c))))
def zU1(a:Nat)(b c:Atom):T:=zL 19 (zB .sub (.v a) 24 (zS (.sub 1 19 none (some (.v (a+1)))) (zB .eql 22 (zI 1) (zU1l a b c))))
def z01a:T:=zQ .eql 22 (zI 8) 38 (zB .lss (zI 0) (zI 0) (zUd 39 31)) (zQ .eql 22 (zI 10) 39 (zB .mul (zI 0) (zI 0) (zB .neq 40 (zI 0) (zUd 41 31))) (zQ .eql 22 (zI 9) 40 (zUh (zI 1) 41 31) (zQ .eql 22 (zI 11) 41 (.ret [.c (.nil 1),.c (.b false)]) (zU9 31 (zI 0)))))
def z01b:T:=.ite 33 (zS (.mk 1 [[zI 0],[zI 0]]) (zU0 34 31 35)) (zQ .eql 22 (zI 3) 34 (zS (.mk 1 [[zI 0],[zI 0]]) (zU0 35 31 36)) (zQ .eql 22 (zI 5) 35 (zB .add (zI 0) (zI 0) (zUh 36 37 31)) (zQ .eql 22 (zI 6) 36 (zB .sub (zI 0) (zI 0) (zUh 37 38 31)) (zQ .eql 22 (zI 7) 37 (zUh (zI 1) 38 31) z01a))))
def z01c:T:=.ite 27 (zL 19 (zB .sub 28 (zI 1) (zE 1 19 29 (zQ .eql 24 (zI 2) 31 (zL 19 (zB .sub 32 (zI 2) (zE 1 19 33 (zL 19 (zB .sub 35 (zI 1) (zE 1 19 36 (zU1 38 34 37))))))) (zU1 32 30 (zI 0)))))) (zQ .eql 24 (zI 2) 28 (zL 19 (zB .sub 29 (zI 2) (zE 1 19 30 (zL 19 (zB .sub 32 (zI 1) (zE 1 19 33 (zU1 35 31 34))))))) (zL 19 (zB .sub 29 24 (zS (.sub 1 19 none (some 30)) (zQ .eql 22 (zI 1) 32 (zUh 23 33 31) (zB .eql 22 (zI 2) z01b))))))
def z01d:T:=zS (.mput 1 14 (zI 13) [zI 1]) (zL 0 (.loop [.c (.nil 1),.c (.b false),4,zI 0] (zQ .lss 20 16 21 (zE 2 0 20 (zS (.mget [.i .i64 0] 15 22 0) (zL 19 (zQ .lss 25 24 26 (.ret [.c (.nil 1),.c (.b false)]) (zB .eql 24 (zI 1) z01c))))) (.ret [19,.c (.b true)]))))
def z01e:T:=zS (.mput 1 6 (zI 4) [zI 1]) (zS (.mput 1 7 (zI 5) [zI 2]) (zS (.mput 1 8 (zI 6) [zI 2]) (zS (.mput 1 9 (zI 7) [zI 2]) (zS (.mput 1 10 (zI 8) [zI 2]) (zS (.mput 1 11 (zI 9) [zI 1]) (zS (.mput 1 12 (zI 10) [zI 2]) (zS (.mput 1 13 (zI 11) [zI 1]) z01d)))))))
def z0p:T:=zS (.mk 1 []) (zS (.app 1 3 1) (zS (.mput 1 (.c (.nil 2)) (zI 2) [zI 1]) (zS (.mput 1 5 (zI 3) [zI 2]) z01e)))
def zl2:T:=.W (zK 43 [1,.c (.nil 1),2] 2) [] (.ite 4 (.W (zK 43 [0,3,2] 2) [] (.ite 6 (zL 5 (zQ .eql 7 (zI 1) 8 (zE 1 5 (zI 0) (zB .neq 9 (zI 0) (.ret [10]))) (.ret [.c (.b false)]))) (.ret [.c (.b false)]))) (.ret [.c (.b false)]))
theorem z0e7:Meets Tryz.prog z7e 127 zW01:=by
 refine zg (sp:=(zx [])) (sigs:=z02) (cut:=[]) (hints:=[]) (fn:=Tryz.f127) (t:=zs6) ?_ ?_
 ·exact(zq (L:=[]) trivial)
 ·rintro ds rs-h;obtain⟨n,-,rfl,rfl⟩:=zh h;clear h;refine⟨⟨1,?_⟩,z0b rfl⟩;show den _ _ zs6 [I n] []=ret (decide (-1000000<=n/\n<=1000000));rw[Bool.decide_and];unfold zs6;repeat'(first|refine dq1 ?_|exact z5 rfl rfl|refine tU (λh=>?_) λh=>?_|fail)
noncomputable def zdw:zd:=spD (λx:List Op×List Int×Int=>zb x.1=0/\z1z x.2.1) λx=>zgb (z3a x.2.2 x.2.1 x.1)
theorem zj5(l:List Op)(s:List Int)(h:Int)(hl:zb l=0)(hs:z1z s):zdw [.l 2 (l.map eOp),.l 1 (s.map zl),I h]=some [.l 1 ((zgb (z3a h s l)).1.map zl),.b (zgb (z3a h s l)).2]:=zi (p:=λx:List Op×List Int×Int=>zb x.1=0/\z1z x.2.1) (f:=λx:List Op×List Int×Int=>zgb (z3a x.2.2 x.2.1 x.1)) (l,s,h) ⟨hl,hs⟩
theorem z0be{sp:Nat->zd}{E:Env}{a b:Atom}{m n y:Int}(ha:a.val E=some (I m))(hb:b.val E=some (I n))(h:n≠0)(hy:m.tmod n=y):denX sp E (.B .rem a b)=some (I y):=by rw[zr3 ha hb h,hy]
theorem z08n{o:Op}(h:z4o o=0):1<=o.kind/\o.kind<=13:=by
 unfold z4o at h;split at h
 ·cases h
 ·split at h
  ·cases h
  ·omega
theorem z0gf{l:List Op}(h:zb l=0):l.length<=16/\∀o∈l,z4o o=0:=by
 have key:∀l:List Op,z67 l=0->∀o∈l,z4o o=0:=by
  intro l;induction l with
  |nil=>intro _ o ho;cases ho
  |cons x l ih =>
   intro h;rw[z67]at h;split at h
   ·rename_i hx;exact absurd h hx
   ·rename_i hx;intro o ho;rcases zY0g.1 ho with rfl|ho
    ·exact zY0u.1 hx
    ·exact ih h o ho
 unfold zb at h;split at h
 ·cases h
 ·exact⟨by omega,key l h⟩
noncomputable def z6f:Nat->zd:=zx [(42,z7e)]
def z24:T->T
 |.W _ _ k=>z24 k
 |.loop _ b=>b
 |t=>t
def zbj(l:List Op)(s0:List Int)(ht:Int):Env:=[.l 2 (l.map eOp),.l 1 (s0.map zl),I ht,.l 1 [],.l 1 (s0.map zl),.l 2 [[I 2,I 1]],.l 2 [[I 2,I 1],[I 3,I 2]],.l 2 [[I 2,I 1],[I 3,I 2],[I 4,I 1]],.l 2 [[I 2,I 1],[I 3,I 2],[I 4,I 1],[I 5,I 2]],.l 2 [[I 2,I 1],[I 3,I 2],[I 4,I 1],[I 5,I 2],[I 6,I 2]],.l 2 [[I 2,I 1],[I 3,I 2],[I 4,I 1],[I 5,I 2],[I 6,I 2],[I 7,I 2]],.l 2 [[I 2,I 1],[I 3,I 2],[I 4,I 1],[I 5,I 2],[I 6,I 2],[I 7,I 2],[I 8,I 2]],.l 2 [[I 2,I 1],[I 3,I 2],[I 4,I 1],[I 5,I 2],[I 6,I 2],[I 7,I 2],[I 8,I 2],[I 9,I 1]],.l 2 [[I 2,I 1],[I 3,I 2],[I 4,I 1],[I 5,I 2],[I 6,I 2],[I 7,I 2],[I 8,I 2],[I 9,I 1],[I 10,I 2]],.l 2 [[I 2,I 1],[I 3,I 2],[I 4,I 1],[I 5,I 2],[I 6,I 2],[I 7,I 2],[I 8,I 2],[I 9,I 1],[I 10,I 2],[I 11,I 1]],.l 2 [[I 2,I 1],[I 3,I 2],[I 4,I 1],[I 5,I 2],[I 6,I 2],[I 7,I 2],[I 8,I 2],[I 9,I 1],[I 10,I 2],[I 11,I 1],[I 13,I 1]],I l.length]
def z89(kd:Int):Prop:=∀(l:List Op) (s0 s:List Int) (ht nn:Int) (k:Nat) (R:List Int×Bool) (again:List Dt->Option (List Dt)),l.length<=16->s.length<=16->z1z s->k<l.length->l[k]?=some ⟨kd,nn⟩ ->
 (z3d ht s ⟨kd,nn⟩=none->R=([],false))->(∀s',z3d ht s ⟨kd,nn⟩=some s'->again [.l 1 (([]:List Int).map zl),.b false,.l 1 (s'.map zl),I ((k:Int)+1)]=ret R) ->
 den z6f (l.length+6) (z24 z0p) (zbj l s0 ht++[.l 1 (([]:List Int).map zl),.b false,.l 1 (s.map zl),I k]) [again]=ret R
theorem z3m{s:List Int}(hfit:z1z s):(s.length=0/\z5v s=none)\/(∃a t,z47 a/\z5v s=some (a,t)/\(s.length:Int)=t.length+1/\s[((s.length:Int)-1).toNat]?=some a/\s.take ((s.length:Int)-1).toNat=t/\((t.length=0/\z5v t=none)\/∃b u,z47 b/\z5v t=some (b,u)/\(t.length:Int)=u.length+1/\s[((s.length:Int)-2).toNat]?=some b/\s.take ((s.length:Int)-2).toNat=u)):=by
 by_cases h0:s.length=0
 ·exact .inl ⟨h0,zfe h0⟩
 ·obtain⟨a,t,p1,p2,p3,p4,p5⟩:=zff h0;have f1:=z62 hfit p1;refine .inr ⟨a,t,f1.1,p1,p3,p4,p5,?_⟩;by_cases h1:t.length=0
  ·exact .inl ⟨h1,zfe h1⟩
  ·obtain⟨b,u,q1,q2,q3,q4,q5⟩:=zff h1;have e1:((s.length:Int)-2).toNat=u.length:=zX0;refine .inr ⟨b,u,(z62 f1.2 q1).1,q1,q3,?_,?_⟩
   ·rw[e1,p2,q2];simp
   ·rw[e1,p2,q2];simp
theorem zw{sp:Nat->zd}{E:Env}{z:List Lit}{a ka:Atom}{j:Nat}{l:Nat}{rows:List (List Dt)}{n:Int}{d:Dt}(ha:a.val E=some (.l l rows))(hk:ka.val E=some (I n))(h:(match z78 n rows with|some v=>v[j]? | none=>(z[j]?).map Lit.dt)=some d):denX sp E (.mget z a ka j)=some d:=by simp only[denX,ha,hk,asI];exact h
end
section
attribute [local irreducible] z09 spD z1w zb1 z1n z7e den denX z0s z0w
theorem z0e8:z89 1:=by
 intro l s0 s ht nn k R again' hl16 hsl hfit hk hx hF hO;have hcase:=z3m hfit;have hs0t:s.take (((s.length:Nat):Int)-0).toNat=s:=zX7;simp only[z3d,Int.reduceEq,if_true,if_false]at hF hO;unfold zbj;with_unfolding_all show den z6f _ (z24 z0p) [_,_,_,_,_,_,_,_,_,_,_,_,_,_,_,_,_,_,_,_,_] _=_;simp only[z0p,z24];rcases hcase with⟨c1,c2⟩|⟨a,t,fa,p1,p3,p4,p5,⟨c1,c2⟩|⟨b,u,fb,q1,q3,q4,q5⟩⟩
 ·try simp only[c2,z1u,z21,zY0b]at hF hO
  repeat'(first|refine dq1 ?_|refine dqc ?_|refine dqm ?_|refine dqk rfl (z13 _) ?_|refine dqT ?_|refine dqF ?_|refine z0h rfl ?_|refine z0e rfl ?_|refine z4 (zw (d:=I 0) rfl rfl rfl) ?_|refine z26 (z1h rfl rfl zX0 zX4) ?_|refine z4 (z1d rfl rfl zX0 rfl rfl) ?_|refine z4 (z2f rfl rfl) ?_|exact z5 rfl zXb|exact z6 rfl rfl (hO _ zX3)|(refine z0y rfl ?_;rw[z04])|(refine z6 rfl rfl ?_;rw[z04])|refine tZn (λh=>?_) (λh=>?_)|fail)
 ·try simp only[p1,c2,z1u,z21,zY0b,zY07]at hF hO
  obtain⟨fa1,fa2⟩:=id fa;repeat'(first|refine dq1 ?_|refine dqc ?_|refine dqm ?_|refine dqk rfl (z13 _) ?_|refine dqT ?_|refine dqF ?_|refine z0h rfl ?_|refine z0e rfl ?_|refine z4 (zw (d:=I 0) rfl rfl rfl) ?_|refine z26 (z1h rfl rfl zX0 zX4) ?_|refine z4 (z1d rfl rfl zX0 rfl rfl) ?_|refine z4 (z2f rfl rfl) ?_|exact z5 rfl zXb|exact z6 rfl rfl (hO _ zX3)|(refine z0y rfl ?_;rw[z04])|(refine z6 rfl rfl ?_;rw[z04])|refine tZn (λh=>?_) (λh=>?_)|fail)
 ·try simp only[p1,q1,z1u,z21,zY0b,zY07]at hF hO
  obtain⟨fa1,fa2⟩:=id fa;obtain⟨fb1,fb2⟩:=id fb;repeat'(first|refine dq1 ?_|refine dqc ?_|refine dqm ?_|refine dqk rfl (z13 _) ?_|refine dqT ?_|refine dqF ?_|refine z0h rfl ?_|refine z0e rfl ?_|refine z4 (zw (d:=I 0) rfl rfl rfl) ?_|refine z26 (z1h rfl rfl zX0 zX4) ?_|refine z4 (z1d rfl rfl zX0 rfl rfl) ?_|refine z4 (z2f rfl rfl) ?_|exact z5 rfl zXb|exact z6 rfl rfl (hO _ zX3)|(refine z0y rfl ?_;rw[z04])|(refine z6 rfl rfl ?_;rw[z04])|refine z3r rfl (λh=>?_) (λh=>?_)|refine tZn (λh=>?_) (λh=>?_)|fail)
theorem z0e9:z89 2:=by
 intro l s0 s ht nn k R again' hl16 hsl hfit hk hx hF hO;have hcase:=z3m hfit;have hs0t:s.take (((s.length:Nat):Int)-0).toNat=s:=zX7;simp only[z3d,Int.reduceEq,if_true,if_false]at hF hO;unfold zbj;with_unfolding_all show den z6f _ (z24 z0p) [_,_,_,_,_,_,_,_,_,_,_,_,_,_,_,_,_,_,_,_,_] _=_;simp only[z0p,z24];rcases hcase with⟨c1,c2⟩|⟨a,t,fa,p1,p3,p4,p5,⟨c1,c2⟩|⟨b,u,fb,q1,q3,q4,q5⟩⟩
 ·try simp only[c2,z1u,z21,zY0b]at hF hO
  repeat'(first|refine dq1 ?_|refine dqc ?_|refine dqm ?_|refine dqT ?_|refine z4 (zw (d:=I 1) rfl rfl rfl) ?_|exact z5 rfl zX5|fail)
 ·try simp only[p1,c2,z1u,z21,zY0b,zY07]at hF hO
  obtain⟨fa1,fa2⟩:=id fa;repeat'(first|refine dq1 ?_|refine dqc ?_|refine dqm ?_|refine dqk rfl (z13 _) ?_|refine dqT ?_|refine dqF ?_|refine z0h rfl ?_|refine z0e rfl ?_|refine z5u ?_|refine z4 (zw (d:=I 1) rfl rfl rfl) ?_|refine z26 (z1h rfl rfl zX0 zX4) ?_|refine z4 (z1d rfl rfl zX0 rfl rfl) ?_|refine z4 (z1p rfl rfl zX4) ?_|refine z4 (z2f rfl rfl) ?_|exact z5 rfl zXm|exact z6 rfl rfl (hO _ zXh)|(refine z0y rfl ?_;rw[z04])|(refine z6 rfl rfl ?_;rw[z04])|refine z3r rfl (λh=>?_) (λh=>?_)|fail)
 ·try simp only[p1,q1,z1u,z21,zY0b,zY07]at hF hO
  obtain⟨fa1,fa2⟩:=id fa;obtain⟨fb1,fb2⟩:=id fb;repeat'(first|refine dq1 ?_|refine dqc ?_|refine dqm ?_|refine dqk rfl (z13 _) ?_|refine dqT ?_|refine dqF ?_|refine z0h rfl ?_|refine z0e rfl ?_|refine z5u ?_|refine z4 (zw (d:=I 1) rfl rfl rfl) ?_|refine z26 (z1h rfl rfl zX0 zX4) ?_|refine z4 (z1d rfl rfl zX0 rfl rfl) ?_|refine z4 (z1p rfl rfl zX4) ?_|refine z4 (z2f rfl rfl) ?_|exact z5 rfl (by rw[hF (by(repeat'(first|rw[z2o (by(simp only[zY04,zY08,zY0p]at *;omega))]|rw[z0n zX0 zX0 zX0]|simp only[zY07,zY0b]|fail)))];rfl)|exact z6 rfl rfl (hO _ (by(repeat'(first|rw[z0n zX0 zX0 zX0]|simp only[zY07,zY0b]|fail))))|(refine z0y rfl ?_;rw[z04])|(refine z6 rfl rfl ?_;rw[z04])|refine z3r rfl (λh=>?_) (λh=>?_)|fail)
theorem z0ea:z89 3:=by
 intro l s0 s ht nn k R again' hl16 hsl hfit hk hx hF hO;have hcase:=z3m hfit;have hs0t:s.take (((s.length:Nat):Int)-0).toNat=s:=zX7;simp only[z3d,Int.reduceEq,if_true,if_false]at hF hO;unfold zbj;with_unfolding_all show den z6f _ (z24 z0p) [_,_,_,_,_,_,_,_,_,_,_,_,_,_,_,_,_,_,_,_,_] _=_;simp only[z0p,z24];rcases hcase with⟨c1,c2⟩|⟨a,t,fa,p1,p3,p4,p5,⟨c1,c2⟩|⟨b,u,fb,q1,q3,q4,q5⟩⟩
 ·try simp only[c2,z1u,z21,zY0b]at hF hO
  repeat'(first|refine dq1 ?_|refine dqc ?_|refine dqm ?_|refine dqT ?_|refine z4 (zw (d:=I 2) rfl rfl rfl) ?_|exact z5 rfl zX5|fail)
 ·try simp only[p1,c2,z1u,z21,zY0b,zY07]at hF hO
  obtain⟨fa1,fa2⟩:=id fa;repeat'(first|refine dq1 ?_|refine dqc ?_|refine dqm ?_|refine dqT ?_|refine z4 (zw (d:=I 2) rfl rfl rfl) ?_|exact z5 rfl zX5|fail)
 ·try simp only[p1,q1,z1u,z21,zY0b,zY07]at hF hO
  obtain⟨fa1,fa2⟩:=id fa;obtain⟨fb1,fb2⟩:=id fb;repeat'(first|refine dq1 ?_|refine dqc ?_|refine dqm ?_|refine dqk rfl (z13 _) ?_|refine dqT ?_|refine dqF ?_|refine z0h rfl ?_|refine z0e rfl ?_|refine z5u ?_|refine z4 (zw (d:=I 2) rfl rfl rfl) ?_|refine z26 (z1h rfl rfl zX0 zX4) ?_|refine z4 (z1d rfl rfl zX0 rfl rfl) ?_|refine z4 (z1p rfl rfl zX4) ?_|refine z4 (z2f rfl rfl) ?_|exact z5 rfl zXm|exact z6 rfl rfl (hO _ zXh)|(refine z0y rfl ?_;rw[z04])|(refine z6 rfl rfl ?_;rw[z04])|refine z3r rfl (λh=>?_) (λh=>?_)|fail)
theorem z0eb:z89 4:=by
 intro l s0 s ht nn k R again' hl16 hsl hfit hk hx hF hO;have hcase:=z3m hfit;have hs0t:s.take (((s.length:Nat):Int)-0).toNat=s:=zX7;simp only[z3d,Int.reduceEq,if_true,if_false]at hF hO;unfold zbj;with_unfolding_all show den z6f _ (z24 z0p) [_,_,_,_,_,_,_,_,_,_,_,_,_,_,_,_,_,_,_,_,_] _=_;simp only[z0p,z24];rcases hcase with⟨c1,c2⟩|⟨a,t,fa,p1,p3,p4,p5,⟨c1,c2⟩|⟨b,u,fb,q1,q3,q4,q5⟩⟩
 ·try simp only[c2,z1u,z21,zY0b]at hF hO
  repeat'(first|refine dq1 ?_|refine dqc ?_|refine dqm ?_|refine dqT ?_|refine z4 (zw (d:=I 1) rfl rfl rfl) ?_|exact z5 rfl zX5|fail)
 ·try simp only[p1,c2,z1u,z21,zY0b,zY07]at hF hO
  obtain⟨fa1,fa2⟩:=id fa;repeat'(first|refine dq1 ?_|refine dqc ?_|refine dqm ?_|refine dqT ?_|refine dqF ?_|refine z0h rfl ?_|refine z4 (zw (d:=I 1) rfl rfl rfl) ?_|exact z6 rfl rfl (hO _ (by(repeat'(first|rfl|fail))))|(refine z0y rfl ?_;rw[z04])|fail)
 ·try simp only[p1,q1,z1u,z21,zY0b,zY07]at hF hO
  obtain⟨fa1,fa2⟩:=id fa;obtain⟨fb1,fb2⟩:=id fb;repeat'(first|refine dq1 ?_|refine dqc ?_|refine dqm ?_|refine dqT ?_|refine dqF ?_|refine z0h rfl ?_|refine z4 (zw (d:=I 1) rfl rfl rfl) ?_|exact z6 rfl rfl (hO _ (by(repeat'(first|rfl|fail))))|(refine z0y rfl ?_;rw[z04])|fail)
end
section
attribute [local irreducible] z09 spD z1w zb1 z1n z7e den denX z0s z0w
theorem z0ec:z89 5:=by
 intro l s0 s ht nn k R again' hl16 hsl hfit hk hx hF hO;have hcase:=z3m hfit;have hs0t:s.take (((s.length:Nat):Int)-0).toNat=s:=zX7;simp only[z3d,Int.reduceEq,if_true,if_false]at hF hO;unfold zbj;with_unfolding_all show den z6f _ (z24 z0p) [_,_,_,_,_,_,_,_,_,_,_,_,_,_,_,_,_,_,_,_,_] _=_;simp only[z0p,z24];rcases hcase with⟨c1,c2⟩|⟨a,t,fa,p1,p3,p4,p5,⟨c1,c2⟩|⟨b,u,fb,q1,q3,q4,q5⟩⟩
 ·try simp only[c2,z1u,z21,zY0b]at hF hO
  repeat'(first|refine dq1 ?_|refine dqc ?_|refine dqm ?_|refine dqT ?_|refine z4 (zw (d:=I 2) rfl rfl rfl) ?_|exact z5 rfl zX5|fail)
 ·try simp only[p1,c2,z1u,z21,zY0b,zY07]at hF hO
  obtain⟨fa1,fa2⟩:=id fa;repeat'(first|refine dq1 ?_|refine dqc ?_|refine dqm ?_|refine dqT ?_|refine z4 (zw (d:=I 2) rfl rfl rfl) ?_|exact z5 rfl zX5|fail)
 ·try simp only[p1,q1,z1u,z21,zY0b,zY07]at hF hO
  obtain⟨fa1,fa2⟩:=id fa;obtain⟨fb1,fb2⟩:=id fb;repeat'(first|refine dq1 ?_|refine dqc ?_|refine dqm ?_|refine dqk rfl (z13 _) ?_|refine dqT ?_|refine dqF ?_|refine z0h rfl ?_|refine z0e rfl ?_|refine z4 (zw (d:=I 2) rfl rfl rfl) ?_|refine z26 (z1h rfl rfl zX0 zX4) ?_|refine z4 (z1d rfl rfl zX0 rfl rfl) ?_|refine z4 (z2f rfl rfl) ?_|exact z5 rfl zXb|exact z6 rfl rfl (hO _ zX3)|(refine z0y rfl ?_;rw[z04])|(refine z6 rfl rfl ?_;rw[z04])|refine tZn (λh=>?_) (λh=>?_)|fail)
theorem z0ed:z89 6:=by
 intro l s0 s ht nn k R again' hl16 hsl hfit hk hx hF hO;have hcase:=z3m hfit;have hs0t:s.take (((s.length:Nat):Int)-0).toNat=s:=zX7;simp only[z3d,Int.reduceEq,if_true,if_false]at hF hO;unfold zbj;with_unfolding_all show den z6f _ (z24 z0p) [_,_,_,_,_,_,_,_,_,_,_,_,_,_,_,_,_,_,_,_,_] _=_;simp only[z0p,z24];rcases hcase with⟨c1,c2⟩|⟨a,t,fa,p1,p3,p4,p5,⟨c1,c2⟩|⟨b,u,fb,q1,q3,q4,q5⟩⟩
 ·try simp only[c2,z1u,z21,zY0b]at hF hO
  repeat'(first|refine dq1 ?_|refine dqc ?_|refine dqm ?_|refine dqT ?_|refine z4 (zw (d:=I 2) rfl rfl rfl) ?_|exact z5 rfl zX5|fail)
 ·try simp only[p1,c2,z1u,z21,zY0b,zY07]at hF hO
  obtain⟨fa1,fa2⟩:=id fa;repeat'(first|refine dq1 ?_|refine dqc ?_|refine dqm ?_|refine dqT ?_|refine z4 (zw (d:=I 2) rfl rfl rfl) ?_|exact z5 rfl zX5|fail)
 ·try simp only[p1,q1,z1u,z21,zY0b,zY07]at hF hO
  obtain⟨fa1,fa2⟩:=id fa;obtain⟨fb1,fb2⟩:=id fb;repeat'(first|refine dq1 ?_|refine dqc ?_|refine dqm ?_|refine dqk rfl (z13 _) ?_|refine dqT ?_|refine dqF ?_|refine z0h rfl ?_|refine z0e rfl ?_|refine z4 (zw (d:=I 2) rfl rfl rfl) ?_|refine z26 (z1h rfl rfl zX0 zX4) ?_|refine z4 (z1d rfl rfl zX0 rfl rfl) ?_|refine z4 (z2f rfl rfl) ?_|exact z5 rfl zXb|exact z6 rfl rfl (hO _ zX3)|(refine z0y rfl ?_;rw[z04])|(refine z6 rfl rfl ?_;rw[z04])|refine tZn (λh=>?_) (λh=>?_)|fail)
theorem z0ee:z89 7:=by
 intro l s0 s ht nn k R again' hl16 hsl hfit hk hx hF hO;have hcase:=z3m hfit;have hs0t:s.take (((s.length:Nat):Int)-0).toNat=s:=zX7;simp only[z3d,Int.reduceEq,if_true,if_false]at hF hO;unfold zbj;with_unfolding_all show den z6f _ (z24 z0p) [_,_,_,_,_,_,_,_,_,_,_,_,_,_,_,_,_,_,_,_,_] _=_;simp only[z0p,z24];rcases hcase with⟨c1,c2⟩|⟨a,t,fa,p1,p3,p4,p5,⟨c1,c2⟩|⟨b,u,fb,q1,q3,q4,q5⟩⟩
 ·try simp only[c2,z1u,z21,zY0b]at hF hO
  repeat'(first|refine dq1 ?_|refine dqc ?_|refine dqm ?_|refine dqT ?_|refine z4 (zw (d:=I 2) rfl rfl rfl) ?_|exact z5 rfl zX5|fail)
 ·try simp only[p1,c2,z1u,z21,zY0b,zY07]at hF hO
  obtain⟨fa1,fa2⟩:=id fa;repeat'(first|refine dq1 ?_|refine dqc ?_|refine dqm ?_|refine dqT ?_|refine z4 (zw (d:=I 2) rfl rfl rfl) ?_|exact z5 rfl zX5|fail)
 ·try simp only[p1,q1,z1u,z21,zY0b,zY07]at hF hO
  obtain⟨fa1,fa2⟩:=id fa;obtain⟨fb1,fb2⟩:=id fb;by_cases hab:b=a
  ·have e7:z1n (decide (b=a))=1:=by with_unfolding_all simp[z1n,hab]
   rw[e7]at hF hO;repeat'(first|refine dq1 ?_|refine dqc ?_|refine dqm ?_|refine dqk rfl (z13 _) ?_|refine dqT ?_|refine dqF ?_|refine z0h rfl ?_|refine z0e rfl ?_|refine z4 (zw (d:=I 2) rfl rfl rfl) ?_|refine z26 (z1h rfl rfl zX0 zX4) ?_|refine z4 (z1d rfl rfl zX0 rfl rfl) ?_|refine z4 (z2f rfl rfl) ?_|exact z6 rfl rfl (hO _ zX3)|(refine z0y rfl ?_;rw[z04])|(refine z6 rfl rfl ?_;rw[z04])|fail)
  ·have e7:z1n (decide (b=a))=0:=by with_unfolding_all simp[z1n,hab]
   rw[e7]at hF hO;repeat'(first|refine dq1 ?_|refine dqc ?_|refine dqm ?_|refine dqk rfl (z13 _) ?_|refine dqT ?_|refine dqF ?_|refine z0h rfl ?_|refine z0e rfl ?_|refine z4 (zw (d:=I 2) rfl rfl rfl) ?_|refine z26 (z1h rfl rfl zX0 zX4) ?_|refine z4 (z1d rfl rfl zX0 rfl rfl) ?_|refine z4 (z2f rfl rfl) ?_|exact z6 rfl rfl (hO _ zX3)|(refine z0y rfl ?_;rw[z04])|(refine z6 rfl rfl ?_;rw[z04])|fail)
theorem z0ef:z89 8:=by
 intro l s0 s ht nn k R again' hl16 hsl hfit hk hx hF hO;have hcase:=z3m hfit;have hs0t:s.take (((s.length:Nat):Int)-0).toNat=s:=zX7;simp only[z3d,Int.reduceEq,if_true,if_false]at hF hO;unfold zbj;with_unfolding_all show den z6f _ (z24 z0p) [_,_,_,_,_,_,_,_,_,_,_,_,_,_,_,_,_,_,_,_,_] _=_;simp only[z0p,z24];rcases hcase with⟨c1,c2⟩|⟨a,t,fa,p1,p3,p4,p5,⟨c1,c2⟩|⟨b,u,fb,q1,q3,q4,q5⟩⟩
 ·try simp only[c2,z1u,z21,zY0b]at hF hO
  repeat'(first|refine dq1 ?_|refine dqc ?_|refine dqm ?_|refine dqT ?_|refine z4 (zw (d:=I 2) rfl rfl rfl) ?_|exact z5 rfl zX5|fail)
 ·try simp only[p1,c2,z1u,z21,zY0b,zY07]at hF hO
  obtain⟨fa1,fa2⟩:=id fa;repeat'(first|refine dq1 ?_|refine dqc ?_|refine dqm ?_|refine dqT ?_|refine z4 (zw (d:=I 2) rfl rfl rfl) ?_|exact z5 rfl zX5|fail)
 ·try simp only[p1,q1,z1u,z21,zY0b,zY07]at hF hO
  obtain⟨fa1,fa2⟩:=id fa;obtain⟨fb1,fb2⟩:=id fb;by_cases hab:b<a
  ·have e7:z1n (decide (b<a))=1:=by with_unfolding_all simp[z1n,hab]
   rw[e7]at hF hO;repeat'(first|refine dq1 ?_|refine dqc ?_|refine dqm ?_|refine dqk rfl (z13 _) ?_|refine dqT ?_|refine dqF ?_|refine z0h rfl ?_|refine z0e rfl ?_|refine z4 (zw (d:=I 2) rfl rfl rfl) ?_|refine z26 (z1h rfl rfl zX0 zX4) ?_|refine z4 (z1d rfl rfl zX0 rfl rfl) ?_|refine z4 (z2f rfl rfl) ?_|exact z6 rfl rfl (hO _ zX3)|(refine z0y rfl ?_;rw[z04])|(refine z6 rfl rfl ?_;rw[z04])|fail)
  ·have e7:z1n (decide (b<a))=0:=by with_unfolding_all simp[z1n,hab]
   rw[e7]at hF hO;repeat'(first|refine dq1 ?_|refine dqc ?_|refine dqm ?_|refine dqk rfl (z13 _) ?_|refine dqT ?_|refine dqF ?_|refine z0h rfl ?_|refine z0e rfl ?_|refine z4 (zw (d:=I 2) rfl rfl rfl) ?_|refine z26 (z1h rfl rfl zX0 zX4) ?_|refine z4 (z1d rfl rfl zX0 rfl rfl) ?_|refine z4 (z2f rfl rfl) ?_|exact z6 rfl rfl (hO _ zX3)|(refine z0y rfl ?_;rw[z04])|(refine z6 rfl rfl ?_;rw[z04])|fail)
end
section
attribute [local irreducible] z09 spD z1w zb1 z1n z7e den denX z0s z0w
theorem z0eg:z89 9:=by
 intro l s0 s ht nn k R again' hl16 hsl hfit hk hx hF hO;have hcase:=z3m hfit;have hs0t:s.take (((s.length:Nat):Int)-0).toNat=s:=zX7;simp only[z3d,Int.reduceEq,if_true,if_false]at hF hO;unfold zbj;with_unfolding_all show den z6f _ (z24 z0p) [_,_,_,_,_,_,_,_,_,_,_,_,_,_,_,_,_,_,_,_,_] _=_;simp only[z0p,z24];rcases hcase with⟨c1,c2⟩|⟨a,t,fa,p1,p3,p4,p5,-⟩
 ·try simp only[c2,z1u,z21,zY0b]at hF hO
  repeat'(first|refine dq1 ?_|refine dqc ?_|refine dqm ?_|refine dqT ?_|refine z4 (zw (d:=I 1) rfl rfl rfl) ?_|exact z5 rfl zX5|fail)
 ·try simp only[p1,z1u,z21,zY0b,zY07]at hF hO
  obtain⟨fa1,fa2⟩:=id fa;by_cases ha0:a=0
  ·have e7:z1n (decide (a=0))=1:=by with_unfolding_all simp[z1n,ha0]
   rw[e7]at hF hO;repeat'(first|refine dq1 ?_|refine dqc ?_|refine dqm ?_|refine dqk rfl (z13 _) ?_|refine dqT ?_|refine dqF ?_|refine z0h rfl ?_|refine z0e rfl ?_|refine z4 (zw (d:=I 1) rfl rfl rfl) ?_|refine z26 (z1h rfl rfl zX0 zX4) ?_|refine z4 (z1d rfl rfl zX0 rfl rfl) ?_|refine z4 (z2f rfl rfl) ?_|exact z6 rfl rfl (hO _ zX3)|(refine z0y rfl ?_;rw[z04])|(refine z6 rfl rfl ?_;rw[z04])|fail)
  ·have e7:z1n (decide (a=0))=0:=by with_unfolding_all simp[z1n,ha0]
   rw[e7]at hF hO;repeat'(first|refine dq1 ?_|refine dqc ?_|refine dqm ?_|refine dqk rfl (z13 _) ?_|refine dqT ?_|refine dqF ?_|refine z0h rfl ?_|refine z0e rfl ?_|refine z4 (zw (d:=I 1) rfl rfl rfl) ?_|refine z26 (z1h rfl rfl zX0 zX4) ?_|refine z4 (z1d rfl rfl zX0 rfl rfl) ?_|refine z4 (z2f rfl rfl) ?_|exact z6 rfl rfl (hO _ zX3)|(refine z0y rfl ?_;rw[z04])|(refine z6 rfl rfl ?_;rw[z04])|fail)
theorem z0bf:z89 10:=by
 intro l s0 s ht nn k R again' hl16 hsl hfit hk hx hF hO;have hcase:=z3m hfit;have hs0t:s.take (((s.length:Nat):Int)-0).toNat=s:=zX7;simp only[z3d,Int.reduceEq,if_true,if_false]at hF hO;unfold zbj;with_unfolding_all show den z6f _ (z24 z0p) [_,_,_,_,_,_,_,_,_,_,_,_,_,_,_,_,_,_,_,_,_] _=_;simp only[z0p,z24];rcases hcase with⟨c1,c2⟩|⟨a,t,fa,p1,p3,p4,p5,⟨c1,c2⟩|⟨b,u,fb,q1,q3,q4,q5⟩⟩
 ·try simp only[c2,z1u,z21,zY0b]at hF hO
  repeat'(first|refine dq1 ?_|refine dqc ?_|refine dqm ?_|refine dqT ?_|refine z4 (zw (d:=I 2) rfl rfl rfl) ?_|exact z5 rfl zX5|fail)
 ·try simp only[p1,c2,z1u,z21,zY0b,zY07]at hF hO
  obtain⟨fa1,fa2⟩:=id fa;repeat'(first|refine dq1 ?_|refine dqc ?_|refine dqm ?_|refine dqT ?_|refine z4 (zw (d:=I 2) rfl rfl rfl) ?_|exact z5 rfl zX5|fail)
 ·try simp only[p1,q1,z1u,z21,zY0b,zY07]at hF hO
  obtain⟨fa1,fa2⟩:=id fa;obtain⟨fb1,fb2⟩:=id fb;have hm0: -9223372036854775808<=b*a/\b*a<=9223372036854775807:=by
   have h1:(b*a).natAbs<=1000000*1000000:=by rw[Int.natAbs_mul];exact Nat.mul_le_mul zX0 zX0
   omega
  by_cases hb0:b=0
  ·have e7:z1n (decide (b≠0)&&decide (a≠0))=0:=by with_unfolding_all simp[z1n,hb0]
   rw[e7]at hF hO;have hz:¬b*a≠0:=by rw[hb0];simp
   repeat'(first|refine dq1 ?_|refine dqc ?_|refine dqm ?_|refine dqk rfl (z13 _) ?_|refine dqT ?_|refine dqF ?_|refine z0h rfl ?_|refine z0e rfl ?_|refine z4 (zw (d:=I 2) rfl rfl rfl) ?_|refine z26 (z1h rfl rfl zX0 zX4) ?_|refine z4 (z1d rfl rfl zX0 rfl rfl) ?_|refine z4 (z2f rfl rfl) ?_|refine z4 (zgk rfl rfl zX0) ?_|exact z6 rfl rfl (hO _ zX3)|(refine z0y rfl ?_;rw[z04])|(refine z6 rfl rfl ?_;rw[z04])|fail)
  ·by_cases ha0:a=0
   ·have e7:z1n (decide (b≠0)&&decide (a≠0))=0:=by with_unfolding_all simp[z1n,ha0]
    rw[e7]at hF hO;have hz:¬b*a≠0:=by rw[ha0];simp
    repeat'(first|refine dq1 ?_|refine dqc ?_|refine dqm ?_|refine dqk rfl (z13 _) ?_|refine dqT ?_|refine dqF ?_|refine z0h rfl ?_|refine z0e rfl ?_|refine z4 (zw (d:=I 2) rfl rfl rfl) ?_|refine z26 (z1h rfl rfl zX0 zX4) ?_|refine z4 (z1d rfl rfl zX0 rfl rfl) ?_|refine z4 (z2f rfl rfl) ?_|refine z4 (zgk rfl rfl zX0) ?_|exact z6 rfl rfl (hO _ zX3)|(refine z0y rfl ?_;rw[z04])|(refine z6 rfl rfl ?_;rw[z04])|fail)
   ·have e7:z1n (decide (b≠0)&&decide (a≠0))=1:=by with_unfolding_all simp[z1n,hb0,ha0]
    rw[e7]at hF hO;have hz:b*a≠0:=Int.mul_ne_zero hb0 ha0;repeat'(first|refine dq1 ?_|refine dqc ?_|refine dqm ?_|refine dqk rfl (z13 _) ?_|refine dqT ?_|refine dqF ?_|refine z0h rfl ?_|refine z0e rfl ?_|refine z4 (zw (d:=I 2) rfl rfl rfl) ?_|refine z26 (z1h rfl rfl zX0 zX4) ?_|refine z4 (z1d rfl rfl zX0 rfl rfl) ?_|refine z4 (z2f rfl rfl) ?_|refine z4 (zgk rfl rfl zX0) ?_|exact z6 rfl rfl (hO _ zX3)|(refine z0y rfl ?_;rw[z04])|(refine z6 rfl rfl ?_;rw[z04])|fail)
theorem z0bg:z89 11:=by
 intro l s0 s ht nn k R again' hl16 hsl hfit hk hx hF hO;have hcase:=z3m hfit;have hs0t:s.take (((s.length:Nat):Int)-0).toNat=s:=zX7;simp only[z3d,Int.reduceEq,if_true,if_false]at hF hO;unfold zbj;with_unfolding_all show den z6f _ (z24 z0p) [_,_,_,_,_,_,_,_,_,_,_,_,_,_,_,_,_,_,_,_,_] _=_;simp only[z0p,z24];rcases hcase with⟨c1,c2⟩|⟨a,t,fa,p1,p3,p4,p5,⟨c1,c2⟩|⟨b,u,fb,q1,q3,q4,q5⟩⟩
 ·try simp only[c2,z1u,z21,zY0b]at hF hO
  repeat'(first|refine dq1 ?_|refine dqc ?_|refine dqm ?_|refine dqT ?_|refine z4 (zw (d:=I 1) rfl rfl rfl) ?_|exact z5 rfl zX5|fail)
 ·try simp only[p1,c2,z1u,z21,zY0b,zY07]at hF hO
  obtain⟨fa1,fa2⟩:=id fa;repeat'(first|refine dq1 ?_|refine dqc ?_|refine dqm ?_|refine dqT ?_|refine dqF ?_|refine z0h rfl ?_|refine z4 (zw (d:=I 1) rfl rfl rfl) ?_|exact z5 rfl zX15|exact z6 rfl rfl (hO _ (by(repeat'(first|rw[zN zX0]|fail))))|(refine z0y rfl ?_;rw[z04])|refine z3r rfl (λh=>?_) (λh=>?_)|fail)
 ·try simp only[p1,q1,z1u,z21,zY0b,zY07]at hF hO
  obtain⟨fa1,fa2⟩:=id fa;obtain⟨fb1,fb2⟩:=id fb;repeat'(first|refine dq1 ?_|refine dqc ?_|refine dqm ?_|refine dqT ?_|refine dqF ?_|refine z0h rfl ?_|refine z4 (zw (d:=I 1) rfl rfl rfl) ?_|exact z5 rfl zX15|exact z6 rfl rfl (hO _ (by(repeat'(first|rw[zN zX0]|fail))))|(refine z0y rfl ?_;rw[z04])|refine z3r rfl (λh=>?_) (λh=>?_)|fail)
theorem z0bh:z89 12:=by
 intro l s0 s ht nn k R again' hl16 hsl hfit hk hx hF hO;have hcase:=z3m hfit;have hs0t:s.take (((s.length:Nat):Int)-0).toNat=s:=zX7;simp only[z3d,Int.reduceEq,if_true,if_false]at hF hO;unfold zbj;with_unfolding_all show den z6f _ (z24 z0p) [_,_,_,_,_,_,_,_,_,_,_,_,_,_,_,_,_,_,_,_,_] _=_;simp only[z0p,z24];rcases hcase with⟨c1,c2⟩|⟨a,t,fa,p1,p3,p4,p5,⟨c1,c2⟩|⟨b,u,fb,q1,q3,q4,q5⟩⟩
 ·try simp only[c2,z1u,z21,zY0b]at hF hO
  repeat'(first|refine dq1 ?_|refine dqc ?_|refine dqm ?_|refine dqk rfl (z13 _) ?_|refine dqT ?_|refine dqF ?_|refine z0h rfl ?_|refine z0e rfl ?_|refine z4 (zw (d:=I 0) rfl rfl rfl) ?_|refine z26 (z1h rfl rfl zX0 zX4) ?_|refine z4 (z1d rfl rfl zX0 rfl rfl) ?_|refine z4 (z2f rfl rfl) ?_|exact z5 rfl zXb|exact z6 rfl rfl (hO _ zX3)|(refine z0y rfl ?_;rw[z04])|(refine z6 rfl rfl ?_;rw[z04])|refine tZn (λh=>?_) (λh=>?_)|fail)
 ·try simp only[p1,c2,z1u,z21,zY0b,zY07]at hF hO
  obtain⟨fa1,fa2⟩:=id fa;repeat'(first|refine dq1 ?_|refine dqc ?_|refine dqm ?_|refine dqk rfl (z13 _) ?_|refine dqT ?_|refine dqF ?_|refine z0h rfl ?_|refine z0e rfl ?_|refine z4 (zw (d:=I 0) rfl rfl rfl) ?_|refine z26 (z1h rfl rfl zX0 zX4) ?_|refine z4 (z1d rfl rfl zX0 rfl rfl) ?_|refine z4 (z2f rfl rfl) ?_|exact z5 rfl zXb|exact z6 rfl rfl (hO _ zX3)|(refine z0y rfl ?_;rw[z04])|(refine z6 rfl rfl ?_;rw[z04])|refine tZn (λh=>?_) (λh=>?_)|fail)
 ·try simp only[p1,q1,z1u,z21,zY0b,zY07]at hF hO
  obtain⟨fa1,fa2⟩:=id fa;obtain⟨fb1,fb2⟩:=id fb;repeat'(first|refine dq1 ?_|refine dqc ?_|refine dqm ?_|refine dqk rfl (z13 _) ?_|refine dqT ?_|refine dqF ?_|refine z0h rfl ?_|refine z0e rfl ?_|refine z4 (zw (d:=I 0) rfl rfl rfl) ?_|refine z26 (z1h rfl rfl zX0 zX4) ?_|refine z4 (z1d rfl rfl zX0 rfl rfl) ?_|refine z4 (z2f rfl rfl) ?_|exact z5 rfl zXb|exact z6 rfl rfl (hO _ zX3)|(refine z0y rfl ?_;rw[z04])|(refine z6 rfl rfl ?_;rw[z04])|refine z3r rfl (λh=>?_) (λh=>?_)|refine tZn (λh=>?_) (λh=>?_)|fail)
theorem zgc{x:Int}(h0:0<=x):0<=z1j x/\z1j x<1000003:=by unfold z1j;exact⟨zY3u _ zX0,Int.tmod_lt_of_pos _ zX0⟩
theorem z0bi:z89 13:=by
 intro l s0 s ht nn k R again' hl16 hsl hfit hk hx hF hO;have hcase:=z3m hfit;have hs0t:s.take (((s.length:Nat):Int)-0).toNat=s:=zX7;simp only[z3d,Int.reduceEq,if_true,if_false]at hF hO;unfold zbj;with_unfolding_all show den z6f _ (z24 z0p) [_,_,_,_,_,_,_,_,_,_,_,_,_,_,_,_,_,_,_,_,_] _=_;simp only[z0p,z24];rcases hcase with⟨c1,c2⟩|⟨a,t,fa,p1,p3,p4,p5,-⟩
 ·try simp only[c2,z1u,z21,zY0b]at hF hO
  repeat'(first|refine dq1 ?_|refine dqc ?_|refine dqm ?_|refine dqT ?_|refine z4 (zw (d:=I 1) rfl rfl rfl) ?_|exact z5 rfl zX5|fail)
 ·try simp only[p1,z1u,z21,zY0b,zY07]at hF hO
  obtain⟨fa1,fa2⟩:=id fa;obtain⟨x1,hx1⟩:∃x,x=z1j (a+1000000):=⟨_,rfl⟩
  obtain⟨x2,hx2⟩:∃x,x=z1j x1:=⟨_,rfl⟩
  obtain⟨x3,hx3⟩:∃x,x=z1j x2:=⟨_,rfl⟩
  obtain⟨x4,hx4⟩:∃x,x=x3.tmod 1000001:=⟨_,rfl⟩
  have b1:=zgc (x:=a+1000000) zX0;rw[<- hx1]at b1;have b2:=zgc b1.1;rw[<- hx2]at b2;have b3:=zgc b2.1;rw[<- hx3]at b3;have em:zb1 a=x4:=by
   with_unfolding_all show(z1j (z1j (z1j (a+1000000)))).tmod 1000001=x4
   rw[<- hx1,<- hx2,<- hx3,<- hx4]
  have b4:=zY3u (1000001:Int) b3.1;have b5:=Int.tmod_lt_of_pos x3 (b:=1000001) zX0;rw[<- hx4]at b4 b5;have r1:((a+1000000)*7919+104729).tmod 1000003=x1:=hx1.symm;have r2:(x1*7919+104729).tmod 1000003=x2:=hx2.symm;have r3:(x2*7919+104729).tmod 1000003=x3:=hx3.symm;have r4:x3.tmod 1000001=x4:=hx4.symm;rw[em]at hF hO;clear hx1 hx2 hx3 hx4 em;repeat'(first|refine dq1 ?_|refine dqc ?_|refine dqm ?_|refine dqk rfl (z13 _) ?_|refine dqT ?_|refine dqF ?_|refine z0h rfl ?_|refine z0e rfl ?_|refine z5u ?_|refine z4 (zw (d:=I 1) rfl rfl rfl) ?_|refine z26 (z1h rfl rfl zX0 zX4) ?_|refine z4 (z1d rfl rfl zX0 rfl rfl) ?_|refine z4 (z2f rfl rfl) ?_|refine z4 (zgk rfl rfl zX0) ?_|refine z4 (z0be rfl rfl zX9 zXn) ?_|exact z6 rfl rfl (hO _ zX3)|(refine z0y rfl ?_;rw[z04])|(refine z6 rfl rfl ?_;rw[z04])|fail)
end
end Go.Proofs.YtmjelcjgllkapaaGreatDoor
