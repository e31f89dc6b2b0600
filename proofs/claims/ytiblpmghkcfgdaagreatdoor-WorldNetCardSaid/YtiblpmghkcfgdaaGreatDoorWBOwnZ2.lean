/- Own texts, put together by wip/bundle.py: VC1, VB6, VCT, VT3, VU3, VU7, VRow, VDel, VIns, VU8, VU4, VU9, VPU, VPB, VC2, VC3, VR2, VR3, VS2, VS3, VL7, VB4, VB5, VC5, VC8, VC9, VT4, VR1, VR4, VR5, VR7, VR8, VC10, VN0. -/
import Derived.Laws.IdiomCopy
import Derived.Lib.AppendZerosOnto
import Derived.Deep.RegionLaw
import Derived.Lib.Hide
import Derived.Laws.Externs
import Derived.Laws.NewBlocks
import Derived.Lib.FieldsLaws
import Derived.Test.YtiblpmghkcfgdaaGreatDoorWBOwnB
import Derived.Test.YtiblpmghkcfgdaaGreatDoorWBOwnC
import Derived.Test.YtiblpmghkcfgdaaGreatDoorWBOwnR
import Derived.Test.YtiblpmghkcfgdaaGreatDoorWBOwnS
import Derived.Test.YtiblpmghkcfgdaaGreatDoorWBOwnV2
import Derived.Test.YtiblpmghkcfgdaaGreatDoorWBOwnZ1
set_option linter.unusedVariables false
set_option linter.unusedSimpArgs false
namespace Go.Proofs.YtiblpmghkcfgdaaGreatDoor
section
open Go.RowKit
set_option maxRecDepth 100000
set_option maxHeartbeats 4000000
theorem zur:∀ l s:List (List UInt8),Er (z7d l s)
 | [],_=>z1g _ rfl
 | x::l,s=>z23 (z1g _ rfl) (z23 (z1g _ rfl) (zur l _))
theorem zlt (k:Book):Er (zg k):=z23 (z1g _ rfl) (zur _ _)
theorem z02t (t:List (List UInt8)) (s:List UInt8):Er (z2i t s):=z23 (z1g _ rfl) (z23 (z1g _ rfl) (z1g _ rfl))
theorem z0o3 (k:Book) (s:List UInt8):Er (z2c k s):=z23 (zlt k) (z23 (z1g _ rfl) (z02t _ _))
theorem z02u:∀ (l t:List (List UInt8)) (o:List Int),Er (z2w l t o).2.2
 | [],t,o=>z1g _ rfl
 | s::l,t,o=>by
  rw [z2w]
  split
  ·exact z1g _ rfl
  ·split
   ·exact z02t _ _
   ·exact z02u l _ _
theorem z0cd (k:Book) (l:List (List UInt8)):Er (z12 k l).2.2:=by
 unfold z12
 split
 ·exact zlt k
 ·exact z02u _ _ _
theorem zcj {n:Int} (h:0≤n∧n≤1000):I64 n:=⟨by have:=h.1;omega,by have:=h.2;omega⟩
noncomputable def z1o:z7:=spD (fun _:Book=>True) fun k=>zg k
theorem z81 (k:Book):z1o [.l 1 (k.texts.map z05)]=some [I (zg k)]:=za (f:=fun k:Book=>zg k) k trivial
theorem zc3:Meets Tryz.prog z1o 30 ⟨[.agg 1],[(false,[.scal])],true⟩ :=
 zi7 rfl (z2h (fn:=Tryz.f30) (by kernel_rfl) (by kernel_rfl) (by kernel_rfl)) fun k _ W F us hF h=>by
  obtain ⟨cs,rfl,hr⟩:=zee h;exact ⟨(zlt k).i64,z9m k cs W F (she_book.of hr) hF.1⟩
theorem z0iq {W W':World} {F:Nat→Prop}:∀ b,Mid W W' b→F b∨(W.heap.size≤b∧b<W'.heap.size):=fun b h=>.inr h
theorem z0o4 (k:Book) (s:List UInt8):I64 (z1e k s):=by
 unfold z1e
 split
 ·exact zcj ⟨by decide,by decide⟩
 rename_i h
 split
 ·exact zcj ⟨by decide,by decide⟩
 ·exact zcj (zz9 (z9n (zY0i.1 h)))
noncomputable def z7q:z7:=spD (fun _:Book × List UInt8=>True) fun x=>(z2y x.1 x.2,z1e x.1 x.2,z2c x.1 x.2)
theorem zsa (k:Book) (s:List UInt8):z7q [.l 1 (k.texts.map z05),.s s]=some [.l 1 ((z2y k s).map z05),I (z1e k s),I (z2c k s)]:=za (f:=fun x:Book × List UInt8=>(z2y x.1 x.2,z1e x.1 x.2,z2c x.1 x.2)) (k,s) trivial
theorem z0ce:Meets Tryz.prog z7q 163 ⟨[.agg 1,.one],[(true,[.pure]),(false,[.scal]),(false,[.scal])],false⟩ :=
 z65 rfl (z2h (fn:=Tryz.f163) (by kernel_rfl) (by kernel_rfl) (by kernel_rfl)) fun x _ W F us hF h=>by
  obtain ⟨k,s⟩:=x;obtain ⟨cs,us,rfl,h1,h⟩:=zrj (d1:=zaj k) (d2:=z05 s) h rfl;obtain ⟨v,us,rfl,h2,h⟩:=z1j h;obtain rfl:=z2f h;obtain ⟨rfl,hs⟩:=zgx h2;refine (z0ht k cs s W F (she_book.of h1) hF.1 hs).mono ?_;rintro e w' ⟨A,n,c,rfl,hr,hb⟩;refine ⟨_,rfl,hb,?_⟩;exact resP (us:=[.slice A n c,.int .i64 (z1e k s),.int .i64 (z2c k s)]) (F':=Mid W w') ⟨[.agg #[.slice A n c],.int .i64 (z1e k s),.int .i64 (z2c k s)],rfl,.agg #[.slice A n c],_,[.slice A n c],_,rfl,rfl,⟨rfl,rfl⟩,.int .i64 (z1e k s),_,[.int .i64 (z1e k s)],_,rfl,rfl,⟨rfl,rfl⟩,.int .i64 (z2c k s),[],[.int .i64 (z2c k s)],[],rfl,rfl,⟨rfl,rfl⟩,rfl,rfl⟩ rfl ⟨rfl,rfl,trivial⟩ ⟨zgn zbj hr,.i _ _ (wrap_i64 (z0o4 k s)),.i _ _ (wrap_i64 (z0o3 k s).i64),trivial⟩ rfl z0iq
noncomputable def zaz:z7:=spD (fun x:Book × List (List UInt8)=>x.2.length≤8796093022207) fun x=>z12 x.1 x.2
theorem zwq (k:Book) (l:List (List UInt8)) (h:l.length≤8796093022207):zaz [.l 1 (k.texts.map z05),.l 1 (l.map z05)]=some [.l 1 ((z12 k l).1.map z05),.l 1 ((z12 k l).2.1.map zf),I (z12 k l).2.2]:=za (p:=fun x:Book × List (List UInt8)=>x.2.length≤8796093022207) (f:=fun x:Book × List (List UInt8)=>z12 x.1 x.2) (k,l) h
theorem z0ir:Meets Tryz.prog zaz 155 ⟨[.agg 1,.one],[(true,[.pure]),(false,[.pure]),(false,[.scal])],false⟩ :=
 z65 rfl (z2h (fn:=Tryz.f155) (by kernel_rfl) (by kernel_rfl) (by kernel_rfl)) fun x hx W F us hF h=>by
  obtain ⟨k,l⟩:=x;obtain ⟨cs,us,rfl,h1,h⟩:=zrj (d1:=zaj k) (d2:=Enc.e l) h rfl;obtain ⟨v,us,rfl,h2,h⟩:=z1j h;obtain rfl:=z2f h;obtain ⟨A,n,c,rfl,hl⟩:=z3s zbj h2;have:=hl.1;simp only at hx;refine (z0qw k cs l A n c W F (she_book.of h1) hl hF.1 (by omega)).mono ?_;rintro e w' ⟨A,n,c,A',n',c',rfl,hr,hr',hb⟩;refine ⟨_,rfl,hb,?_⟩;exact resP (us:=[.slice A n c,.slice A' n' c',.int .i64 (z12 k l).2.2]) (F':=Mid W w') ⟨[.agg #[.slice A n c],.slice A' n' c',.int .i64 (z12 k l).2.2],rfl,.agg #[.slice A n c],_,[.slice A n c],_,rfl,rfl,⟨rfl,rfl⟩,.slice A' n' c',_,[.slice A' n' c'],_,rfl,rfl,⟨rfl,rfl⟩,.int .i64 (z12 k l).2.2,[],[.int .i64 (z12 k l).2.2],[],rfl,rfl,⟨rfl,rfl⟩,rfl,rfl⟩ rfl ⟨rfl,trivial⟩ ⟨zgn zbj hr,zgn z1d hr',.i _ _ (wrap_i64 (z0cd k l).i64),trivial⟩ rfl z0iq
noncomputable def z2b:z7:=spD (fun _:Block=>True) fun k=>zd k
theorem z92 (b:Block):z2b [I b.parent,I b.height,I b.work,I b.nonce,.l 3 (b.txs.map eTx)]=some [I (zd b)]:=za (f:=fun k:Block=>zd k) b trivial
theorem zdh:Meets Tryz.prog z2b 73 ⟨[.agg 5],[(false,[.scal])],true⟩ :=
 zi7 rfl (z2h (fn:=Tryz.f73) (by kernel_rfl) (by kernel_rfl) (by kernel_rfl)) fun k _ W F us hF h=>by
  obtain ⟨cs,rfl,hr⟩:=zee h;exact ⟨(z0i8 k).i64,zgr k cs W F (she_block.of hr) hF.1⟩
theorem zk8 (n:Int):0≤z1f n∧z1f n≤1000:=by
  unfold z1f
  split
  ·exact ⟨by decide,by decide⟩
  ·rename_i h
   have h1:(0:Int)≤2 ^ (min ((n - 1) / 8) 30).toNat:=Int.pow_nonneg (by decide);have h2:=Int.ediv_nonneg (show (0:Int)≤64 by decide) h1;have h3:=Int.ediv_le_self (2 ^ (min ((n - 1) / 8) 30).toNat) (show (0:Int)≤64 by decide);exact ⟨h2,by omega⟩
theorem zus (n:Int):I64 (z1f n)∧I64 (z4f n):=by
 have h1:=zk8 n;have h2:0≤z4f n∧z4f n≤1000:=by
  unfold z4f
  split <;> exact ⟨by decide,by decide⟩
 exact ⟨zcj h1,zcj h2⟩
noncomputable def z4b:z7:=spD (fun _:Int=>True) fun n=>(z1f n,z4f n)
theorem zem (n:Int):z4b [I n]=some [I (z1f n),I (z4f n)]:=za (f:=fun n:Int=>(z1f n,z4f n)) n trivial
theorem z0rp (n:Int) (w:World):Calls Tryz.prog 169 #[.int .i64 n] w fun e w'=>e = .returned (.tuple #[.int .i64 (z1f n),.int .i64 (z4f n)])∧w=w':=by
 by_cases h:n<1∨1000<n
 ·go_enter Tryz.func169,Tryz.ntmps169
  go_wp2
  all_goals (go_ret2;refine ⟨ze2 ?_ ?_,rfl⟩)
  all_goals simp [z1f,z4f,h]
 ·have h1:1≤n:=by omega
  have h2:n≤1000:=by omega
  go_enter Tryz.func169,Tryz.ntmps169;go_wp2
  all_goals (go_ret2;refine ⟨ze2 ?_ ?_,rfl⟩)
  all_goals first|(simp only [z1f];rw [if_neg (by omega)])|(simp [z4f];omega)
theorem zk9:Meets Tryz.prog z4b 169 ⟨[.one],[(false,[.scal]),(false,[.scal])],true⟩ :=
 z65 rfl (z2h (fn:=Tryz.f169) (by kernel_rfl) (by kernel_rfl) (by kernel_rfl)) fun n _ W F us hF h=>by
  obtain ⟨v,us,rfl,h2,h⟩:=z1j (d:=I n) h;obtain rfl:=z2f h;obtain ⟨rfl,hn⟩:=zdy h2;refine (z0rp n W).mono ?_;rintro e w' ⟨rfl,rfl⟩;exact ⟨_,rfl,Below.refl _ _,zlq rfl rfl (.i _ _ (wrap_i64 (zus n).1)) (.i _ _ (wrap_i64 (zus n).2))⟩
theorem z0rq {α:Type} [DecidableEq α] (l:List α) (x:α) (h:l.length≤9223372036854775807):I64 (idx l x):=by
 have:=zp6 l x;exact ⟨by omega,by omega⟩
noncomputable def z3t:z7:=spD (fun _:List Int × Int=>True) fun x=>idx x.1 x.2
theorem z8g (l:List Int) (n:Int):z3t [.l 1 (l.map zf),I n]=some [I (idx l n)]:=za (f:=fun x:List Int × Int=>idx x.1 x.2) (l,n) trivial
theorem zen:Meets Tryz.prog z3t 52 ⟨[.one,.one],[(false,[.scal])],true⟩ :=
 zi7 rfl (z2h (fn:=Tryz.f52) (by kernel_rfl) (by kernel_rfl) (by kernel_rfl)) fun x _ W F us hF h=>by
  obtain ⟨l,n⟩:=x;obtain ⟨v,us,rfl,h1,h⟩:=z1j h;obtain ⟨v2,us,rfl,h2,h⟩:=z1j h;obtain rfl:=z2f h;obtain ⟨rfl,hn⟩:=zdy h2;obtain ⟨A,m,c,rfl,hl⟩:=z3s z1d h1;have hlm:l.length=m:=hl.1;have:=hl.2.1;have:=hl.2.2.1;refine ⟨z0rq l n (by omega),(z0hs l n A m c W F hl).mono ?_⟩;rintro e w' ⟨rfl,rfl⟩;exact ⟨rfl,Below.refl _ _⟩
noncomputable def zeo:z7:=spD (fun l:List Int=>l.length≤1000000) fun l=>l
theorem z07b (l:List Int) (h:l.length≤1000000):zeo [.l 1 (l.map zf)]=some [.l 1 (l.map zf)]:=za (p:=fun l:List Int=>l.length≤1000000) (f:=fun l:List Int=>l) l h
theorem z0rr:Meets Tryz.prog zeo 25 ⟨[.one],[(false,[.fresh 3 1])],false⟩ :=
 z5d (e:=fun x:{ l:List Int // l.length≤1000000 }=>Enc.e x.1) (xs:=fun x=>x.1) z1d rfl rfl (by decide) (z2h (fn:=Tryz.f25) (by kernel_rfl) (by kernel_rfl) (by kernel_rfl)) fun x W F us hF h=>by
  obtain ⟨v,us,rfl,h1,h⟩:=z1j h;obtain rfl:=z2f h;obtain ⟨A,n,c,rfl,k1⟩:=z3s z1d h1;have:=x.2;have:=k1.1;exact (z0ho x.1 A n c W F k1 hF (by omega)).mono fun r W' h=>⟨n,h⟩
noncomputable def z8h:z7:=spD (fun l:List (List UInt8)=>l.length≤1000000) fun l=>l
theorem zmh (l:List (List UInt8)) (h:l.length≤1000000):z8h [.l 1 (l.map z05)]=some [.l 1 (l.map z05)]:=za (p:=fun l:List (List UInt8)=>l.length≤1000000) (f:=fun l:List (List UInt8)=>l) l h
theorem z0aj:Meets Tryz.prog z8h 75 ⟨[.one],[(false,[.fresh 9 1])],false⟩ :=
 z5d (e:=fun x:{ l:List (List UInt8) // l.length≤1000000 }=>Enc.e x.1) (xs:=fun x=>x.1) zbj rfl rfl (by decide) (z2h (fn:=Tryz.f75) (by kernel_rfl) (by kernel_rfl) (by kernel_rfl)) fun x W F us hF h=>by
  obtain ⟨v,us,rfl,h1,h⟩:=z1j h;obtain rfl:=z2f h;obtain ⟨A,n,c,rfl,k1⟩:=z3s zbj h1;have:=x.2;have:=k1.1;exact (zfh x.1 A n c W F k1 hF (by omega)).mono fun r W' h=>⟨n,h⟩
noncomputable def zck:z7:=spD (fun _:List Int=>True) fun l=>l.reverse
theorem z02v (l:List Int):zck [.l 1 (l.map zf)]=some [.l 1 (l.reverse.map zf)]:=za (f:=fun l:List Int=>l.reverse) l trivial
theorem zut {W:World} {F:Nat→Prop}:∀ {l:List Int} {vs:List Value},Reps W F (l.map zf).flatten vs→vs=l.map (Value.int .i64)∧∀ x ∈ l,I64 x
 | [],[],_=>⟨rfl,by simp⟩
 | [],_::_,h=>absurd h id
 | x::l,vs,h=>by
  cases vs with
  | nil=>exact absurd h id
  | cons v vs =>
   have h':Rep W F (I x) v∧Reps W F (l.map zf).flatten vs:=h;obtain ⟨rfl,hx⟩:=zdy h'.1;obtain ⟨rfl,hl⟩:=zut h'.2;refine ⟨rfl,fun y hy=>?_⟩;rcases zY0f.1 hy with rfl|hy
   ·exact hx
   ·exact hl y hy
theorem zuu {W:World} {F:Nat→Prop}:∀ {l:List Int},(∀ x ∈ l,I64 x)→Reps W F (l.map zf).flatten (l.map (Value.int .i64))
 | [],_=>trivial
 | x::l,h=>⟨.i _ _ (wrap_i64 (h x (by simp))),zuu fun y hy=>h y (zY08 _ hy)⟩
theorem z0o5:Meets Tryz.prog zck 92 ⟨[.mine 3 1],[],false⟩:=⟨fun h=>(by cases h),fun e sz ps he=>by
 cases he
 intro W F base v xs vs ds args rs hF hbase hno hlen hown hreps hpk hs;obtain ⟨l,-,h1,rfl⟩:=z9 hs;have h1':xs=l.map zf∧ds=[]:=by
  injection h1 with ha hb
  injection ha with _ ha
  exact ⟨ha,hb⟩
 obtain ⟨rfl,rfl⟩:=h1';obtain rfl:=z2f hpk;obtain ⟨rfl,hI⟩:=zut hreps;refine ⟨l.reverse.map zf,rfl,by simp [zf],.inl ⟨(z2h (fn:=Tryz.f92) (by kernel_rfl) (by kernel_rfl) (by kernel_rfl)).run _ _,?_⟩⟩;rw [zY15] at hown;have hown':=hown;rcases hown.2 with ⟨rfl,hn⟩|⟨g,cap,cur,rfl,hg,hh,hnc,hcm,hcs,ht⟩
 ·obtain rfl:l=[]:=zY06 hn
  refine (zwn none 0 W).mono ?_;rintro e w' ⟨rfl,rfl⟩;exact ⟨_,rfl,.slice none 0 0,[],⟨fun _=>rfl,fun h=>absurd rfl h⟩,World.grownBy.refl _ _,hown',trivial,fun b hb=>.inl hb⟩
 ·unfold maxLen at hcm
  have hcell:∀ j,j<l.length→W.cell? ⟨g,0+j,none⟩=some (.int .i64 (l.getD j 0)):=by
   intro j hj;have e1:(cur.toList.take (l.length * 1))[j]? = some (.int .i64 l[j]):=by rw [ht];simp [hj]
   rw [zY18] at e1
   split at e1
   ·rw [cell_of_row W g _ cur _ (0,0) hh]
    simpa [List.getD,hj] using e1
   ·cases e1
  refine (zwm g 0 l.length cap l W (by omega) (by omega) hcell (fun j _=>z0n6 hh)).mono ?_;rintro e w' ⟨rfl,q,rfl⟩;rw [zY0n (zY0p _)];obtain ⟨s1,s2,s3,s4⟩:=zwp (g:=g) (l.reverse.map (Value.int .i64)) 0 (W.drewN q);have hb0:=zbt (Below.refl W.heap.size W) q;have hgr:W.grownBy ((W.drewN q).setCells g 0 (l.reverse.map (Value.int .i64))) (Value.slice (some ⟨g,0,none⟩) l.length cap).ownBlock :=
   ⟨s2.trans hb0.os,s3.trans hb0.tape,s4.trans hb0.output,by have:=hb0.size;omega,fun b hlt hb=>(z02s _ _ _ _ (fun e=>hb (by rw [e];rfl))).trans (hb0.block b hlt)⟩
  have hown2:(W.drewN q).ownsRow base 3 1 (.slice (some ⟨g,0,none⟩) l.length cap) l.length (l.map (Value.int .i64)):=zja hown' (fun b hb=>hb0.block b (by
   simp only [Value.ownBlock,zY00] at hb;subst hb;exact zjn hh))
  have hset:=zk6 rfl (l.reverse.map (Value.int .i64)) 0 _ _ hown2;rw [z0o0 _ _ (by simp)] at hset;exact ⟨_,rfl,_,l.reverse.map (Value.int .i64),⟨fun _=>rfl,fun h=>absurd rfl h⟩,hgr,by rw [zY15,List.length_reverse];exact hset,zuu fun x hx=>hI x (List.mem_reverse.1 hx),fun b hb=>.inl hb⟩⟩
end
section
open Go.RowKit
open Go.Lib (itoa)
set_option maxRecDepth 100000
set_option maxHeartbeats 4000000
def z3d (b:Block):List (List UInt8):=b.txs.map fun t=>(zu t).1
def z9w (k:Book) (s:List UInt8) (l:List (List UInt8)):List (List UInt8) × Int × List Int × Int :=
 if (z12 k (l++[s])).2.2≠0 then ([],0,[],(z12 k (l++[s])).2.2) else
 ((z12 k (l++[s])).1,((z12 k (l++[s])).2.1).getD l.length 0,((z12 k (l++[s])).2.1).take l.length,0)
def z01 (k:Book) (b:Block):List (List UInt8) × Int × List Int × Int :=
 if (z0q b).2≠0 then ([],0,[],(z0q b).2) else z9w k (z0q b).1 (z3d b)
theorem zuv:∀ (l t:List (List UInt8)) (o:List Int),(z2w l t o).2.2=0→(z2w l t o).2.1.length=o.length+l.length
 | [],t,o,_=>by simp [z2w]
 | s::l,t,o,h=>by
  rw [z2w] at h ⊢
  split at h
  ·cases h
  rename_i h1;rw [if_neg h1]
  split at h
  ·rename_i h2;exact absurd h h2
  rename_i h2;rw [if_neg h2];rw [zuv l _ _ h];simp;omega
theorem zmi {k:Book} {l:List (List UInt8)} (h:(z12 k l).2.2=0):(z12 k l).2.1.length=l.length:=by
 unfold z12 at h ⊢
 split at h
 ·rename_i h1;exact absurd h h1
 rename_i h1;rw [if_neg h1];simpa using zuv l k.texts [] h
theorem zcy {b:Block} (h:(z0q b).2=0):zd b=0:=by
 unfold z0q at h
 by_cases hb:zd b=0
 ·exact hb
 ·rw [if_pos hb] at h;exact absurd h hb
attribute [local irreducible] z0i spD z12 z0q zu
attribute [local irreducible] den denX z0x z1c
noncomputable def z5e:z7:=spD (fun _:Book × Block=>True) fun x=>z01 x.1 x.2
theorem zh1 (k:Book) (b:Block):z5e [.l 1 (k.texts.map z05),I b.parent,I b.height,I b.work,I b.nonce,.l 3 (b.txs.map eTx)]=some [.l 1 ((z01 k b).1.map z05),I (z01 k b).2.1,.l 1 ((z01 k b).2.2.1.map zf),I (z01 k b).2.2.2]:=za (f:=fun x:Book × Block=>z01 x.1 x.2) (k,b) trivial
theorem zfp (b:Block):z40 [I b.parent,I b.height,I b.work,I b.nonce,.l 3 (b.txs.map eTx)]=some [.s (z0q b).1,I (z0q b).2]:=zs5 b
theorem zbm (t:Tx):z3l [I t.height,.l 3 (t.ins.map eIn),.l 2 (t.outs.map z0z)]=some [.s (zu t).1,I (zu t).2]:=zwl t
def z02w:T :=
 .lets [.call 43 [13,14,15] 0,.call 43 [13,14,15] 1] [] (.lets [.mk 1 [[16]]] [] (.lets [.app 1 10 18] [] (.lets [.bin .add 11 (.c (.i .i64
 1))] [] (.again 0 [19,20]))))
def z02x:T :=
 .lets [.len 10] [] (.lets [.sub 1 16 none (some 21),.sub 1 16 (some 21) (some 22)] [] (.ret [15,20,23,zI 0]))
def z02y:T :=
 .ite 18 (.ret [.c (.nil 1),zI 0,.c (.nil 1),17]) (.lets [.len 10] [] (.lets [] [.inr 1 16 19] (.lets [.idx 16 19 0] [] (.lets [.len (.v
 10)] [] z02x))))
def z02z:T :=
 .lets [.app 1 10 13] [] (.lets [.call 50 [0,14] 0,.call 50 [0,14] 1,.call 50 [0,14] 2] [] (.lets [.bin .neq 17 (zI 0)] []
 z02y))
def z030:T :=
 .ite 12 (.lets [] [.inr 3 5 11] (.lets [.idx 5 11 0,.idx 5 11 1,.idx 5 11 2] [] z02w)) (.lets [.mk 1 [[6]]] []
 z02z)
def z031:T :=
 .ite 8 (.ret [.c (.nil 1),zI 0,.c (.nil 1),7]) (.lets [.len 5] [] (.loop [.c (.nil 1),zI 0] (.lets [.bin .lss 11 9] [] z030)))
def zi9:T :=
 .lets [.call 44 [1,2,3,4,5] 0,.call 44 [1,2,3,4,5] 1] [] (.lets [.bin .neq 7 (zI 0)] [] z031)
attribute [local irreducible] z40 zaz z3l
theorem zpv:Meets Tryz.prog z5e 111 ⟨[.agg 1,.agg 5],[(true,[.pure]),(false,[.scal]),(false,[.pure]),(false,[.scal])],false⟩:=by
 refine z8 (sp:=(zr [(43,z3l),(44,z40),(50,zaz)])) (sigs:=zy) (cut:=[]) (hints:=[⟨6,[.r 9 9 1,.t 27]⟩]) (fn:=Tryz.f111) (t:=zi9) (by kernel_rfl) (by kernel_rfl) (by kernel_rfl) ?_ ?_
 ·exact (zl (L:=[(43,z3l),(44,z40),(50,zaz)]) ⟨z5 rfl zk7,z5 rfl zpt,z5 rfl z0ir,trivial⟩)
 ·rintro ds rs hok h
  obtain ⟨⟨k,b⟩,-,rfl,rfl⟩:=z9 h;clear h;refine ⟨⟨100,?_⟩,z10 ⟨rfl,rfl,trivial⟩⟩
  show den _ _ zi9 [.l 1 (k.texts.map z05),I b.parent,I b.height,I b.work,I b.nonce,.l 3 (b.txs.map eTx)] []=ret (z01 k b)
  have a1:=zfp b;unfold zi9 z01;have hpz:=fun h=>(z3z (zcy (b:=b) h)).len
  generalize z0q b=pb at *;obtain ⟨s,e⟩:=pb;simp only at *
  repeat' (first|refine dq1 ?_|refine dqK rfl (a1) ?_|exact z4 rfl rfl|refine tR (fun h=>?_) fun h=>?_|fail)
  have hlen:b.txs.length≤4:=hpz (by omega)
  (refine zm (fun (a:List (List UInt8)) k=>[.l 1 (a.map z05),I k]) (fun (a:List (List UInt8)) _ (r:List Tx)=>z9w k s (a++r.map fun t=>(zu t).1)) (fun a k=>a.length=k) [] b.txs ?_ ?_ ?_ ?_ ?_;rfl;exact rfl;omega)
  ·rintro a i x r hx hd hk ha again hag
   have a2:=zbm x;have e:a++((x::r).map fun t=>(zu t).1)=(a++[(zu x).1])++r.map fun t=>(zu t).1:=by simp
   rw [e];have hag':=hag (a++[(zu x).1]) (by simp;omega);generalize zu x=px at *;obtain ⟨z,f⟩:=px;simp only at *
   repeat' (first|refine dq1 ?_|refine dqc ?_|refine dqm ?_|refine dqK rfl (a2) ?_|refine z6 (z1y rfl rfl (by simp)) ?_|refine dqT ?_|fail)
   exact zb rfl rfl hag'
  ·rintro a ha again
   simp only [zY2v,zY27];have a3:=zwq k (a++[s]) (by simp;omega);have hl:=fun h=>zmi (k:=k) (l:=a++[s]) h
   unfold z9w;generalize z12 k (a++[s])=q at *;obtain ⟨tx,ns,e2⟩:=q;simp only at *
   repeat' (first|refine dq1 ?_|refine dqK rfl (a3) ?_|refine z6 (z1y rfl rfl (by simp)) ?_|exact z4 rfl rfl|refine tR (fun h=>?_) fun h=>?_|refine dqF ?_|fail)
   have hl:=hl (by omega);simp only [zY04,zY0g,zY17] at hl;have hg:ns[((a.length:Int)).toNat]? = some (ns.getD a.length 0):=by
    rw [zY1z,zY0u,zY03 (by omega)];rfl
   generalize ns.getD a.length 0=y at *;have ht:ns.take ((a.length:Int)).toNat=ns.take a.length:=by rw [zY1z]
   repeat' (first|refine dq1 ?_|refine dqc ?_|fail)
   refine z89 (z2q (z0ab rfl rfl (by omega) (by omega) ht) (z2q (z0i7 (m:=(a.length:Int)) (n:=(a.length:Int)) rfl rfl rfl (by omega) (by omega) (by omega)) zfg)) ?_ rfl;exact z4 rfl rfl
end
section
open Go.RowKit
set_option maxRecDepth 100000
set_option maxHeartbeats 4000000
theorem z07c (ns:List Int) (bs:List Block) (k f:Nat):z7h ns bs k (f+1)=if z0d ns k<1 then 3 else if z0d ns k > 120 then 3 else if zd (z08 bs k)≠0 then zd (z08 bs k) else if z2u (ns.take k) (z0d ns k)=true then 6 else if z1h ns bs (z08 bs k) k≠0 then z1h ns bs (z08 bs k) k else z7h ns bs (k+1) f:=by
 rw [z7h];have e0:z5r ns bs k (z0d ns k) (z08 bs k)=if z0d ns k<1∨120<z0d ns k then 3 else if zd (z08 bs k)≠0 then zd (z08 bs k) else if z2u (ns.take k) (z0d ns k)=true then 6 else z1h ns bs (z08 bs k) k:=rfl
 generalize z5r ns bs k (z0d ns k) (z08 bs k)=st at *
 by_cases h1:z0d ns k<1
 ·rw [if_pos (Or.inl h1)] at e0
  rw [e0,if_pos (by decide),if_pos h1]
 by_cases h2:z0d ns k > 120
 ·rw [if_pos (Or.inr h2)] at e0
  rw [e0,if_pos (by decide),if_neg h1,if_pos h2]
 rw [if_neg (show ¬ (z0d ns k<1∨120<z0d ns k) by omega)] at e0;rw [if_neg h1,if_neg h2]
 by_cases h3:zd (z08 bs k)≠0
 ·rw [if_pos h3] at e0
  rw [e0,if_pos h3,if_pos h3]
 rw [if_neg h3] at e0;rw [if_neg h3]
 by_cases h4:z2u (ns.take k) (z0d ns k)=true
 ·rw [if_pos h4] at e0
  rw [e0,if_pos (by decide),if_pos h4]
 ·rw [if_neg h4] at e0
  rw [e0,if_neg h4]
theorem z0rs {ns:List Int} {bs:List Block} (ok:TreeOK ns bs) {m:Int} (h0:m≠0) (hm:0≤idx ns m):1≤ns.length∧up ns bs ns.length m=m::up ns bs ns.length (z0g ns bs m)∧(z0g ns bs m=0∨0≤idx ns (z0g ns bs m)):=by
 obtain ⟨_,_,j,hj,he,_,hp⟩:=ok.name hm;have hr:=ok.rem h0 hm;have hpi:z0g ns bs m=0∨0≤idx ns (z0g ns bs m):=hp.imp id fun h=>h.2.1
 have hrl:z57 ns m≤ns.length:=by unfold z57;rw [if_neg h0];omega
 refine ⟨by omega,?_,hpi⟩;obtain ⟨f,hf⟩:∃ f,ns.length=f+1:=⟨ns.length - 1,by omega⟩
 have:up ns bs ns.length m=m::up ns bs f (z0g ns bs m):=by rw [hf,up,if_neg h0]
 rw [this,zs9 ok f ns.length _ hpi (by omega) (by omega)]
section
variable {sp:Nat→z7} {N:Nat} {E:Env} {ks:List (List Dt→Option (List Dt))}
theorem z0is {σ ρ:Type} [Enc ρ] {ats:List Atom} {body:T} (enc:σ→List Dt) (val:σ→ρ) (rk:σ→Nat) (Inv:σ→Prop) (s0:σ) (h:vals E ats=some (enc s0)) (h0:Inv s0) (hN:rk s0<N)
  (step:∀ (s:σ),Inv s→∀ again:List Dt→Option (List Dt),(∀ s',Inv s'→rk s'<rk s→again (enc s')=ret (val s'))→den sp N body (E++enc s) (ks++[again])=ret (val s)):den sp N (.loop ats body) E ks=ret (val s0):=by
 refine zhw h ?_;have key:∀ (n:Nat) (s:σ),rk s≤n→Inv s→∀ M,n<M→z73 (fun again ds=>den sp N body (E++ds) (ks++[again])) M (enc s)=ret (val s):=by
  intro n
  induction n with
  | zero =>
   intro s hs hi M hM;obtain ⟨M,rfl⟩:∃ j,M=j+1:=⟨M - 1,by omega⟩
   rw [z73];exact step s hi _ fun s' _ hlt=>by omega
  | succ n ih =>
   intro s hs hi M hM;obtain ⟨M,rfl⟩:∃ j,M=j+1:=⟨M - 1,by omega⟩
   rw [z73];exact step s hi _ fun s' hi' hlt=>ih s' (by omega) hi' M (by omega)
 exact key (rk s0) s0 (zY0p _) h0 N hN
end
noncomputable def zh2:z7:=spD (fun l:List In=>l.length≤3518437208780) fun l=>l
theorem z0cf (l:List In) (h:l.length≤3518437208780):zh2 [.l 3 (l.map eIn)]=some [.l 3 (l.map eIn)]:=za (p:=fun l:List In=>l.length≤3518437208780) (f:=fun l:List In=>l) l h
theorem z0uh:Meets Tryz.prog zh2 137 ⟨[.one],[(false,[.fresh 75 3])],false⟩ :=
 z5d (e:=fun x:{ l:List In // l.length≤3518437208780 }=>Enc.e x.1) (xs:=fun x=>x.1) zz1 rfl rfl (by decide) (z2h (fn:=Tryz.f137) (by kernel_rfl) (by kernel_rfl) (by kernel_rfl)) fun x W F us hF h=>by
  obtain ⟨v,us,rfl,h1,h⟩:=z1j h;obtain rfl:=z2f h;obtain ⟨A,n,c,rfl,k1⟩:=z3s zz1 h1;have:=x.2;have:=k1.1;exact (z0n9 x.1 A n c W F k1 hF (by omega)).mono fun r W' h=>⟨n,h⟩
noncomputable def zep:z7:=spD (fun l:List Out=>l.length≤4398046510976) fun l=>l
theorem z07d (l:List Out) (h:l.length≤4398046510976):zep [.l 2 (l.map z0z)]=some [.l 2 (l.map z0z)]:=za (p:=fun l:List Out=>l.length≤4398046510976) (f:=fun l:List Out=>l) l h
theorem z0rt:Meets Tryz.prog zep 138 ⟨[.one],[(false,[.fresh 81 2])],false⟩ :=
 z5d (e:=fun x:{ l:List Out // l.length≤4398046510976 }=>Enc.e x.1) (xs:=fun x=>x.1) zlk rfl rfl (by decide) (z2h (fn:=Tryz.f138) (by kernel_rfl) (by kernel_rfl) (by kernel_rfl)) fun x W F us hF h=>by
  obtain ⟨v,us,rfl,h1,h⟩:=z1j h;obtain rfl:=z2f h;obtain ⟨A,n,c,rfl,k1⟩:=z3s zlk h1;have:=x.2;have:=k1.1;exact (z0hp x.1 A n c W F k1 hF (by omega)).mono fun r W' h=>⟨n,h⟩
noncomputable def z93:z7:=spD (fun l:List Tx=>l.length≤2513169434843) fun l=>l
theorem zmj (l:List Tx) (h:l.length≤2513169434843):z93 [.l 3 (l.map eTx)]=some [.l 3 (l.map eTx)]:=za (p:=fun l:List Tx=>l.length≤2513169434843) (f:=fun l:List Tx=>l) l h
theorem z0cg (l:List Tx) (h:l.length≤1000000):z93 [.l 3 (l.map eTx)]=some [.l 3 (l.map eTx)]:=zmj l (by omega)
theorem z0it:Meets Tryz.prog z93 93 ⟨[.one],[(false,[.fresh 38 3])],false⟩ :=
 z5d (e:=fun x:{ l:List Tx // l.length≤2513169434843 }=>Enc.e x.1) (xs:=fun x=>x.1) she_tx rfl rfl (by decide) (z2h (fn:=Tryz.f93) (by kernel_rfl) (by kernel_rfl) (by kernel_rfl)) fun x W F us hF h=>by
  obtain ⟨v,us,rfl,h1,h⟩:=z1j h;obtain rfl:=z2f h;obtain ⟨A,n,c,rfl,k1⟩:=z3s she_tx h1;have:=x.2;have:=k1.1;exact (z0na x.1 A n c W F k1 hF (by omega)).mono fun r W' h=>⟨n,h⟩
noncomputable def zeq:z7:=spD (fun l:List Block=>l.length≤1000000) fun l=>l
theorem z07e (l:List Block) (h:l.length≤1000000):zeq [.l 5 (l.map zi)]=some [.l 5 (l.map zi)]:=za (p:=fun l:List Block=>l.length≤1000000) (f:=fun l:List Block=>l) l h
theorem z0ru:Meets Tryz.prog zeq 156 ⟨[.one],[(false,[.fresh 51 5])],false⟩ :=
 z5d (e:=fun x:{ l:List Block // l.length≤1000000 }=>Enc.e x.1) (xs:=fun x=>x.1) she_block rfl rfl (by decide) (z2h (fn:=Tryz.f156) (by kernel_rfl) (by kernel_rfl) (by kernel_rfl)) fun x W F us hF h=>by
  obtain ⟨v,us,rfl,h1,h⟩:=z1j h;obtain rfl:=z2f h;obtain ⟨A,n,c,rfl,k1⟩:=z3s she_block h1;have:=x.2;have:=k1.1;exact (z066 x.1 A n c W F k1 hF (by omega)).mono fun r W' h=>⟨n,h⟩
attribute [local irreducible] z0i spD zd zx
attribute [local irreducible] den denX z0x z1c
def z6m (t:Tx):Prop:=(t.ins.length≤3518437208780∧∀ x ∈ t.ins,x.key.length≤8796093021952)∧(t.outs.length≤4398046510976∧∀ x ∈ t.outs,x.lock.length≤8796093021952)
def z6r (b:Block):Prop:=b.txs.length≤2513169434843∧∀ t ∈ b.txs,z6m t
theorem TxSmall.fit {t:Tx} (h:TxSmall t):z6m t:=⟨⟨by have:=h.ins;omega,fun x hx=>by have:=h.key x hx;omega⟩,by have:=h.outs;omega,fun x hx=>by have:=h.lock x hx;omega⟩
theorem BlockSmall.fit {b:Block} (h:BlockSmall b):z6r b:=⟨by have:=h.txs;omega,fun x hx=>(h.each x hx).fit⟩
noncomputable def z2d:z7:=spD z6m fun t=>t
theorem zcz (t:Tx) (h:z6m t):z2d [I t.height,.l 3 (t.ins.map eIn),.l 2 (t.outs.map z0z)]=some (eTx t):=za (p:=z6m) (f:=fun t:Tx=>t) t h
theorem zer (t:Tx) (h:TxSmall t):z2d [I t.height,.l 3 (t.ins.map eIn),.l 2 (t.outs.map z0z)]=some (eTx t):=zcz t h.fit
def z0ch:T :=
 .lets [.call 10 [11] 0] [] (.lets [] [.inr 3 7 6] (.lets [.set 7 6 2 [12]] [] (.lets [.bin .add 6 (zI 1)] [] (.again 0 [14,13]))))
def z0ci:T :=
 .lets [.call 10 [14] 0] [] (.lets [] [.inr 2 11 10] (.lets [.set 11 10 1 [15]] [] (.lets [.bin .add 10 (zI 1)] [] (.again 1 [17,.v
 16]))))
def z0cj:T :=
 .lets [.bin .lss 10 9] [] (.ite 12 (.lets [] [.inr 2 11 10] (.lets [.idx 11 10 0,.idx 11 10 1] [] z0ci)) (.ret [0,7,.v
 11]))
def z0ck:T :=
 .ite 8 (.lets [] [.inr 3 7 6] (.lets [.idx 7 6 0,.idx 7 6 1,.idx 7 6 2] [] z0ch)) (.lets [.len 4] [] (.loop [.c (.i .i64
 0),4] z0cj))
def znd:T :=
 .lets [.call 118 [1] 0] [] (.lets [.call 119 [2] 0] [] (.lets [.len 3] [] (.loop [zI 0,3] (.lets [.bin .lss 6 5] [] z0ck))))
attribute [local irreducible] zh2 z5w zep
theorem zes:Meets Tryz.prog z2d 94 ⟨[.agg 3],[(true,[.scal,.pure,.pure])],false⟩:=by
 refine z8 (sp:=(zr [(10,z5w),(118,zh2),(119,zep)])) (sigs:=zy) (cut:=[]) (hints:=[⟨3,[.t 18,.o 9]⟩,⟨8,[.t 35,.o 12]⟩]) (fn:=Tryz.f94) (t:=znd) (by kernel_rfl) (by kernel_rfl) (by kernel_rfl) ?_ ?_
 ·exact (zl (L:=[(10,z5w),(118,zh2),(119,zep)]) ⟨z5 rfl zpg,z5 rfl z0uh,z5 rfl z0rt,trivial⟩)
 ·rintro ds rs - h
  obtain ⟨t,ht,rfl,rfl⟩:=z9 h;clear h;obtain ⟨⟨h1,h3⟩,h2,h4⟩:=ht;refine ⟨⟨t.ins.length+t.outs.length+1,?_⟩,z10 ⟨rfl,trivial⟩⟩
  show den _ _ znd [I t.height,.l 3 (t.ins.map eIn),.l 2 (t.outs.map z0z)] []=ret t
  unfold znd
  repeat' (first|refine dq1 ?_|refine dqk rfl (z0cf _ (by omega)) ?_|refine dqk rfl (z07d _ (by omega)) ?_|fail)
  (refine zm (fun (_:Unit) k=>[I k,.l 3 (t.ins.map eIn)]) (fun _ _ _=>t) (fun _ _=>True) () t.ins ?_ ?_ ?_ ?_ ?_;rfl;exact trivial;omega)
  ·rintro _ k c r hx hd hkl - again hag
   repeat' (first|refine dq1 ?_|refine dqc ?_|refine dqm ?_|refine dqk rfl (z8w _ (by have:=h3 c (zY07 hx);omega)) ?_|refine dqT ?_|fail)
   refine z6 (zar rfl rfl rfl (by omega) (by simp) (by exact hx) rfl) ?_
   repeat' (first|refine dq1 ?_|exact zb rfl rfl (hag () trivial)|fail)
  ·intro _ _ again
   repeat' (first|refine dq1 ?_|refine dqF ?_|fail)
   (refine zm (fun (_:Unit) k=>[I k,.l 2 (t.outs.map z0z)]) (fun _ _ _=>t) (fun _ _=>True) () t.outs ?_ ?_ ?_ ?_ ?_;rfl;exact trivial;omega)
   ·rintro _ k c r hx hd hkl - again hag
    repeat' (first|refine dq1 ?_|refine dqc ?_|refine dqm ?_|refine dqk rfl (z8w _ (by have:=h4 c (zY07 hx);omega)) ?_|refine dqT ?_|fail)
    refine z6 (zar rfl rfl rfl (by omega) (by simp) (by exact hx) rfl) ?_
    repeat' (first|refine dq1 ?_|exact zb rfl rfl (hag () trivial)|fail)
   ·intro _ _ again
    repeat' (first|refine dq1 ?_|exact z4 rfl rfl|refine dqF ?_|fail)
noncomputable def z3m:z7:=spD z6r fun t=>t
theorem zh3 (b:Block) (h:z6r b):z3m [I b.parent,I b.height,I b.work,I b.nonce,.l 3 (b.txs.map eTx)]=some (zi b):=za (p:=z6r) (f:=fun t:Block=>t) b h
theorem zd0 (b:Block) (h:BlockSmall b):z3m [I b.parent,I b.height,I b.work,I b.nonce,.l 3 (b.txs.map eTx)]=some (zi b):=zh3 b h.fit
def z07f:T :=
 .lets [.call 67 [10,11,12] 0,.call 67 [10,11,12] 1,.call 67 [10,11,12] 2] [] (.lets [] [.inr 3 8 7] (.lets [.set 8 7 0 [13,
 .v 14,15]] [] (.lets [.bin .add 7 (zI 1)] [] (.again 0 [17,16]))))
def z07g:T :=
 .ite 9 (.lets [] [.inr 3 8 7] (.lets [.idx 8 7 0,.idx 8 7 1,.idx 8 7 2] [] z07f)) (.ret [0,1,2,3,8])
def zka:T :=
 .lets [.call 82 [4] 0] [] (.lets [.len 5] [] (.loop [zI 0,5] (.lets [.bin .lss 7 6] [] z07g)))
attribute [local irreducible] z93
theorem zfq:Meets Tryz.prog z3m 53 ⟨[.agg 5],[(true,[.scal,.scal,.scal,.scal,.pure])],false⟩:=by
 refine z8 (sp:=(zr [(67,z2d),(82,z93)])) (sigs:=zy) (cut:=[]) (hints:=[⟨3,[.t 12,.o 7]⟩]) (fn:=Tryz.f53) (t:=zka) (by kernel_rfl) (by kernel_rfl) (by kernel_rfl) ?_ ?_
 ·exact (zl (L:=[(67,z2d),(82,z93)]) ⟨z5 rfl zes,z5 rfl z0it,trivial⟩)
 ·rintro ds rs - h
  obtain ⟨b,hb,rfl,rfl⟩:=z9 h;clear h;obtain ⟨h1,h2⟩:=hb;refine ⟨⟨b.txs.length+1,?_⟩,z10 ⟨rfl,rfl,rfl,rfl,trivial⟩⟩
  show den _ _ zka [I b.parent,I b.height,I b.work,I b.nonce,.l 3 (b.txs.map eTx)] []=ret b
  unfold zka
  repeat' (first|refine dq1 ?_|refine dqk rfl (zmj _ (by omega)) ?_|fail)
  (refine zm (fun (_:Unit) k=>[I k,.l 3 (b.txs.map eTx)]) (fun _ _ _=>b) (fun _ _=>True) () b.txs ?_ ?_ ?_ ?_ ?_;rfl;exact trivial;omega)
  ·rintro _ k c r hx hd hkl - again hag
   repeat' (first|refine dq1 ?_|refine dqc ?_|refine dqm ?_|refine dqK rfl (zcz c (h2 c (zY07 hx))) ?_|refine dqT ?_|fail)
   refine z6 (zar rfl rfl rfl (by omega) (by simp) (by exact hx) rfl) ?_
   repeat' (first|refine dq1 ?_|exact zb rfl rfl (hag () trivial)|fail)
  ·intro _ _ again
   repeat' (first|refine dq1 ?_|exact z4 rfl rfl|refine dqF ?_|fail)
noncomputable def z5f:z7:=spD TreeSmall fun t=>t
theorem zh4 (t:Tree) (h:TreeSmall t):z5f [.l 1 (t.names.map zf),.l 5 (t.blocks.map zi)]=some (zak t):=za (p:=TreeSmall) (f:=fun t:Tree=>t) t h
def z032:T :=
 .lets [] [.inr 5 6 5] (.lets [.set 6 5 0 [13,14,15,16,17]] [] (.lets [.bin .add 5 (zI 1)] [] (.again 0 [19,18])))
def z033:T :=
 .lets [.call 102 [8,9,10,11,12] 0,.call 102 [8,9,10,11,12] 1,.call 102 [8,9,10,11,12] 2,.call 102 [8,9,10,.v
 11,12] 3,.call 102 [8,9,10,11,12] 4] [] z032
def z034:T :=
 .lets [] [.inr 5 6 5] (.lets [.idx 6 5 0,.idx 6 5 1,.idx 6 5 2,.idx 6 5 3,.idx 6 5 4] [] z033)
def z035:T :=
 .lets [.call 101 [1] 0] [] (.lets [.len 3] [] (.loop [zI 0,3] (.lets [.bin .lss 5 4] [] (.ite 7 z034 (.ret [2,6])))))
def zia:T :=
 .lets [.call 61 [0] 0] [] z035
attribute [local irreducible] zeq zeo
theorem zpw:Meets Tryz.prog z5f 114 ⟨[.agg 2],[(true,[.fresh 3 1,.fresh 51 5])],false⟩:=by
 refine z8 (sp:=(zr [(61,zeo),(101,zeq),(102,z3m)])) (sigs:=zy) (cut:=[]) (hints:=[⟨3,[.t 16,.o 10]⟩]) (fn:=Tryz.f114) (t:=zia) (by kernel_rfl) (by kernel_rfl) (by kernel_rfl) ?_ ?_
 ·exact (zl (L:=[(61,zeo),(101,zeq),(102,z3m)]) ⟨z5 rfl z0rr,z5 rfl z0ru,z5 rfl zfq,trivial⟩)
 ·rintro ds rs - h
  obtain ⟨t,ht,rfl,rfl⟩:=z9 h;clear h;have h1:=ht.names;have h2:=ht.blocks;refine ⟨⟨t.blocks.length+1,?_⟩,z10 trivial⟩
  show den _ _ zia [.l 1 (t.names.map zf),.l 5 (t.blocks.map zi)] []=ret t
  unfold zia
  repeat' (first|refine dq1 ?_|refine dqk rfl (z07b _ (by omega)) ?_|refine dqk rfl (z07e _ (by omega)) ?_|fail)
  (refine zm (fun (_:Unit) k=>[I k,.l 5 (t.blocks.map zi)]) (fun _ _ _=>t) (fun _ _=>True) () t.blocks ?_ ?_ ?_ ?_ ?_;rfl;exact trivial;omega)
  ·rintro _ k c r hx hd hkl - again hag
   repeat' (first|refine dq1 ?_|refine dqc ?_|refine dqm ?_|refine dqK rfl (zd0 c (ht.each c (zY07 hx))) ?_|refine dqT ?_|fail)
   refine z6 (zar rfl rfl rfl (by omega) (by simp) (by exact hx) rfl) ?_
   repeat' (first|refine dq1 ?_|exact zb rfl rfl (hag () trivial)|fail)
  ·intro _ _ again
   repeat' (first|refine dq1 ?_|exact z4 rfl rfl|refine dqF ?_|fail)
noncomputable def z8i:z7:=spD (fun _:List Int × Int=>True) fun x=>z2u x.1 x.2
theorem zg6 (l:List Int) (n:Int):z8i [.l 1 (l.map zf),I n]=some [.b (z2u l n)]:=za (f:=fun x:List Int × Int=>z2u x.1 x.2) (l,n) trivial
def zsb:T :=
 .lets [.call 63 [0,1] 0] [] (.lets [.bin .geq 2 (zI 0)] [] (.ret [3]))
attribute [local irreducible] z3t
theorem zsc:Meets Tryz.prog z8i 50 ⟨[.one,.one],[(false,[.scal])],true⟩:=by
 refine z8 (sp:=(zr [(63,z3t)])) (sigs:=zy) (cut:=[]) (hints:=[]) (fn:=Tryz.f50) (t:=zsb) (by kernel_rfl) (by kernel_rfl) (by kernel_rfl) ?_ ?_
 ·exact (zl (L:=[(63,z3t)]) ⟨z5 rfl zen,trivial⟩)
 ·rintro ds rs - h
  obtain ⟨⟨l,n⟩,-,rfl,rfl⟩:=z9 h;clear h;refine ⟨⟨1,?_⟩,zq rfl⟩
  show den _ _ zsb [.l 1 (l.map zf),I n] []=ret (z2u l n)
  have e:z2u l n=decide (idx l n ≥ 0):=by
   unfold z2u
   by_cases h:n ∈ l
   ·rw [decide_eq_true h,decide_eq_true ((z0v l n).2 h)]
   ·rw [decide_eq_false h,decide_eq_false fun k=>h ((z0v l n).1 k)]
  rw [e];unfold zsb
  repeat' (first|refine dq1 ?_|refine dqk rfl (z8g l n) ?_|exact z4 rfl rfl|fail)
def zuw (x:Tree × Block × Int):Prop:=0≤x.2.2∧x.2.2≤x.1.names.length∧x.1.names.length=x.1.blocks.length∧∀ b ∈ x.1.blocks.take x.2.2.toNat,0≤b.height∧b.height≤1000
noncomputable def z6f:z7:=spD zuw fun x=>z1h x.1.names x.1.blocks x.2.1 x.2.2.toNat
theorem zh5 (t:Tree) (b:Block) (m:Nat) (h1:m≤t.names.length) (h2:t.names.length=t.blocks.length) (h3:∀ b ∈ t.blocks.take m,0≤b.height∧b.height≤1000):z6f [.l 1 (t.names.map zf),.l 5 (t.blocks.map zi),I b.parent,I b.height,I b.work,I b.nonce,.l 3 (b.txs.map eTx),I m]=some [I (z1h t.names t.blocks b m)] :=
 za (p:=zuw) (f:=fun x:Tree × Block × Int=>z1h x.1.names x.1.blocks x.2.1 x.2.2.toNat) (t,b,(m:Int)) ⟨by simp only;omega,by simp only;omega,h2,by simpa using h3⟩
def z036:T :=
 .lets [.idx 1 10 1] [] (.lets [.bin .add 12 (zI 1)] [] (.lets [.bin .neq 3 13] [] (.ite 14 (.ret [zI 4]) (.ret [zI 0]))))
def z037:T :=
 .lets [.call 63 [9,2] 0] [] (.lets [.bin .lss 10 (zI 0)] [] (.ite 11 (.ret [zI 5]) (.lets [] [.inr 5 1 10] z036)))
def z038:T :=
 .ite 8 (.lets [.sub 1 0 none (some 7)] [] z037) (.lets [.bin .add (zI 0) (zI 1)] [] (.lets [.bin .neq 3 9] [] (.ite 10
 (.ret [zI 4]) (.ret [zI 0]))))
def zib:T :=
 .lets [.bin .neq 2 (zI 0)] [] z038
theorem zpx:Meets Tryz.prog z6f 91 ⟨[.agg 2,.agg 5,.one],[(false,[.scal])],true⟩:=by
 refine z8 (sp:=(zr [(63,z3t)])) (sigs:=zy) (cut:=[]) (hints:=[]) (fn:=Tryz.f91) (t:=zib) (by kernel_rfl) (by kernel_rfl) (by kernel_rfl) ?_ ?_
 ·exact (zl (L:=[(63,z3t)]) ⟨z5 rfl zen,trivial⟩)
 ·rintro ds rs - h
  obtain ⟨⟨t,b,m⟩,⟨h1,h2,h3,h4⟩,rfl,rfl⟩:=z9 h;clear h;simp only at h1 h2 h3 h4;refine ⟨⟨1,?_⟩,zq rfl⟩
  show den _ _ zib [.l 1 (t.names.map zf),.l 5 (t.blocks.map zi),I b.parent,I b.height,I b.work,I b.nonce,.l 3 (b.txs.map eTx),I m] []=ret (z1h t.names t.blocks b m.toNat)
  have e:z1h t.names t.blocks b m.toNat=if b.parent≠0 then (if idx (t.names.take m.toNat) b.parent<0 then 5 else if b.height≠(z08 t.blocks (idx (t.names.take m.toNat) b.parent)).height+1 then 4 else 0) else (if b.height≠0+1 then 4 else 0):=by
   unfold z1h
   by_cases h:b.parent=0
   ·rw [if_pos h,if_neg (show ¬ b.parent≠0 from fun k=>k h)];rfl
   ·rw [if_neg h,if_pos (show b.parent≠0 from h)]
  rw [e];clear e;unfold zib;have a1:=z8g (t.names.take m.toNat) b.parent;have hb:=zp6 (t.names.take m.toNat) b.parent;rw [zY0d] at hb;have hat:¬ idx (t.names.take m.toNat) b.parent<0→t.blocks[(idx (t.names.take m.toNat) b.parent).toNat]? = some (z08 t.blocks (idx (t.names.take m.toNat) b.parent))∧0≤(z08 t.blocks (idx (t.names.take m.toNat) b.parent)).height∧(z08 t.blocks (idx (t.names.take m.toNat) b.parent)).height≤1000∧idx (t.names.take m.toNat) b.parent<t.blocks.length:=by
   intro hn;obtain ⟨i,hi,his⟩:=z8f (show 0≤idx (t.names.take m.toNat) b.parent by omega);have hil:=(zY02.1 his).1;rw [zY0d] at hil;have hlt:(idx (t.names.take m.toNat) b.parent).toNat<t.blocks.length:=by omega
   have e1:t.blocks[(idx (t.names.take m.toNat) b.parent).toNat]? = some (z08 t.blocks (idx (t.names.take m.toNat) b.parent)):=by
    unfold z08;rw [zY03 hlt,zY1h]
   suffices hm:z08 t.blocks (idx (t.names.take m.toNat) b.parent) ∈ t.blocks.take m.toNat from ⟨e1,(h4 _ hm).1,(h4 _ hm).2,by omega⟩
   refine zY07 (i:=(idx (t.names.take m.toNat) b.parent).toNat) ?_;rw [zY18,if_pos (by omega)];exact e1
  generalize idx (t.names.take m.toNat) b.parent=j at *;have hl:(t.names.take m.toNat).map zf=(t.names.map zf).take m.toNat:=zY3p;generalize z08 t.blocks j=x at *;rw [hl] at a1;refine z6 (zaq rfl rfl) ?_;refine tR (fun h=>?_) (fun h=>?_)
  rotate_left
  ·repeat' (first|refine dq1 ?_|exact z4 rfl rfl|refine tR (fun h=>?_) fun h=>?_|fail)
  ·refine z6 (d:=.l 1 ((t.names.map zf).take m.toNat)) ?_ ?_
   ·simp [denX,Atom.val,bndI,asI,h1,h2]
   refine dqk rfl a1 ?_;refine z6 (zzj rfl rfl) ?_;refine tR (fun h=>?_) (fun h=>?_)
   ·repeat' (first|exact z4 rfl rfl|fail)
   ·obtain ⟨hx,g1,g2,g3⟩:=hat h
    repeat' (first|refine dq1 ?_|refine dqc ?_|exact z4 rfl rfl|refine tR (fun h=>?_) fun h=>?_|fail)
noncomputable def z3j:z7:=spD (fun _:Tree=>True) fun t=>zx t
theorem z82 (t:Tree):z3j [.l 1 (t.names.map zf),.l 5 (t.blocks.map zi)]=some [I (zx t)]:=za (f:=fun t:Tree=>zx t) t trivial
theorem z039 (t:Tree):zx t=if (t.names.length:Int)≠t.blocks.length then 4 else if (t.names.length:Int) > 24 then 2 else z7h t.names t.blocks 0 t.blocks.length:=by
 have e:zx t=if t.names.length≠t.blocks.length then 4 else if 24<t.names.length then 2 else z7h t.names t.blocks 0 t.names.length:=by with_unfolding_all rfl
 by_cases h:t.names.length=t.blocks.length
 ·have e2:zx t=if 24<t.names.length then 2 else z7h t.names t.blocks 0 t.names.length:=by rw [e];exact if_neg (fun k=>k h)
  by_cases h2:24<t.names.length
  ·rw [e2,if_pos h2,if_neg (show ¬ (t.names.length:Int)≠t.blocks.length by omega),if_pos (by omega)]
  ·rw [e2,if_neg h2,if_neg (show ¬ (t.names.length:Int)≠t.blocks.length by omega),if_neg (by omega),h]
 ·rw [e,if_pos h,if_pos (by omega)]
def zwr:T :=
 .lets [.call 97 [0,1,11,12,13,14,15,9] 0] [] (.lets [.bin .neq 23 (zI 0)] [] (.ite 24 (.ret [23]) (.lets [.bin .add 9 (.c
 (.i .i64 1))] [] (.again 0 [8,25]))))
def zws:T :=
 .ite 20 (.ret [19]) (.lets [.sub 1 0 none (some 9)] [] (.lets [.call 96 [21,16] 0] [] (.ite 22 (.ret [zI 6]) zwr)))
def zwt:T :=
 .lets [.bin .gtr 16 (zI 120)] [] (.ite 18 (.ret [zI 3]) (.lets [.call 51 [11,12,13,14,15] 0] [] (.lets [.bin .neq 19 (.c (.i
 .i64 0))] [] zws)))
def zwu:T :=
 .lets [] [.inr 1 0 9] (.lets [.idx 0 9 0] [] (.lets [.bin .lss 16 (zI 1)] [] (.ite 17 (.ret [zI 3]) zwt)))
def zwv:T :=
 .lets [] [.inr 5 1 9] (.lets [.idx 1 9 0,.idx 1 9 1,.idx 1 9 2,.idx 1 9 3,.idx 1 9 4] [] zwu)
def zww:T :=
 .ite 6 (.ret [zI 2]) (.lets [.len 1] [] (.loop [zI 0,zI 0] (.lets [.bin .lss 9 7] [] (.ite 10 zwv (.ret [.c (.i
 .i64 0)])))))
def zwx:T :=
 .lets [.len 1] [] (.lets [.bin .neq 2 3] [] (.ite 4 (.ret [zI 4]) (.lets [.len 0] [] (.lets [.bin .gtr 5 (zI 24)] []
 zww))))
def zg7:T :=
 .lets [.len 0] [] zwx
attribute [local irreducible] z2b z6f
theorem zc4:Meets Tryz.prog z3j 49 ⟨[.agg 2],[(false,[.scal])],true⟩:=by
 refine z8 (sp:=(zr [(51,z2b),(96,z8i),(97,z6f)])) (sigs:=zy) (cut:=[]) (hints:=[⟨6,[.t 2,.t 22]⟩]) (fn:=Tryz.f49) (t:=zg7) (by kernel_rfl) (by kernel_rfl) (by kernel_rfl) ?_ ?_
 ·exact (zl (L:=[(51,z2b),(96,z8i),(97,z6f)]) ⟨z5 rfl zdh,z5 rfl zsc,z5 rfl zpx,trivial⟩)
 ·rintro ds rs - h
  obtain ⟨t,-,rfl,rfl⟩:=z9 h;clear h;refine ⟨⟨t.blocks.length+1,?_⟩,zq rfl⟩
  show den _ _ zg7 [.l 1 (t.names.map zf),.l 5 (t.blocks.map zi)] []=ret (zx t)
  rw [z039];unfold zg7
  repeat' (first|refine dq1 ?_|exact z4 rfl rfl|refine tR (fun h=>?_) fun h=>?_|fail)
  (refine zm (fun (_:Unit) k=>[I 0,I k]) (fun _ k (r:List Block)=>z7h t.names t.blocks k r.length) (fun _ k=>∀ x ∈ t.blocks.take k,0≤x.height∧x.height≤1000) () t.blocks ?_ ?_ ?_ ?_ ?_;rfl;exact (fun x hx=>by simp at hx);exact zY1i _)
  ·rintro _ k b r hx hd hkl hI again hag
   have hb:z08 t.blocks (k:Int)=b:=by unfold z08;rw [zY1z,hx];rfl
   have hnl:k<t.names.length:=by omega
   obtain ⟨nm,hn⟩:∃ nm,t.names[k]? = some nm:=⟨_,zY03 hnl⟩
   have hna:z0d t.names k=nm:=by unfold z0d;rw [hn];rfl
   rw [zY0g,z07c,hb,hna];have a1:=z92 b;have a2:=zg6 (t.names.take k) nm;have a3:=zh5 t b k (by omega) (by omega) hI;rw [zY3p] at a2;have hn2:t.names[((k:Nat):Int).toNat]? = some nm:=by rw [zY1z];exact hn
   have hx2:t.blocks[((k:Nat):Int).toNat]? = some b:=by rw [zY1z];exact hx
   have hcut:∀ E:Env,E[0]? = some (.l 1 (t.names.map zf))→E[9]? = some (I (k:Int))→denX (fun _ _=>none) E (.sub 1 (.v 0) none (some (.v 9)))=some (.l 1 ((t.names.map zf).take k)):=by
    intro E h0 h9;simp [denX,Atom.val,bndI,asI,h0,h9];omega
   repeat' (first|refine dq1 ?_|refine dqc ?_|refine dqm ?_|refine dqk rfl (a1) ?_|exact z4 rfl rfl|refine tR (fun h=>?_) fun h=>?_|refine dqT ?_|fail)
   refine z6 (d:=.l 1 ((t.names.map zf).take k)) (by simp [denX,Atom.val,bndI,asI];omega) ?_
   repeat' (first|refine dq1 ?_|refine dqk rfl (a2) ?_|refine dqk rfl (a3) ?_|exact z4 rfl rfl|((first|refine tR ?_ ?_|refine tB ?_ ?_) <;> intro h)|fail)
   refine zb rfl rfl (hag () ?_);have hok:zd b=0:=zY0i.1 (by assumption);intro x hxm;rw [zY3h,hx] at hxm;rcases zY0w.1 hxm with hm|hm
   ·exact hI x hm
   ·simp only [Option.toList,zY0y] at hm
    subst hm;exact zfo hok
  ·intro _ _ again
   repeat' (first|refine dq1 ?_|exact z4 rfl rfl|refine dqF ?_|fail)
noncomputable def za7:z7:=spD (fun x:Tree × Int=>TreeOK x.1.names x.1.blocks∧(x.2=0∨0≤idx x.1.names x.2)) fun x=>z0s x.1.names x.1.blocks x.2
theorem zkb (t:Tree) (m:Int) (ok:TreeOK t.names t.blocks) (hm:m=0∨0≤idx t.names m):za7 [.l 1 (t.names.map zf),.l 5 (t.blocks.map zi),I m]=some [.l 1 ((z0s t.names t.blocks m).map zf)]:=za (p:=fun x:Tree × Int=>TreeOK x.1.names x.1.blocks∧(x.2=0∨0≤idx x.1.names x.2)) (f:=fun x:Tree × Int=>z0s x.1.names x.1.blocks x.2) (t,m) ⟨ok,hm⟩
theorem zbn {t:Tree} (ok:TreeOK t.names t.blocks) {m:Int} (hm:0≤idx t.names m):t.blocks[(idx t.names m).toNat]? = some (z08 t.blocks (idx t.names m))∧idx t.names m<t.blocks.length:=by
 obtain ⟨j,hj,hjs⟩:=z8f hm;have hlt:=(zY02.1 hjs).1;have hl:=ok.len;refine ⟨?_,by omega⟩;unfold z08;rw [zY03 (by omega),zY1h]
def z0cl:T :=
 .lets [.mk 1 [[4]]] [] (.lets [.app 1 3 6] [] (.lets [.call 63 [0,4] 0] [] (.lets [] [.inr 5 1 8] (.lets [.idx 1 8 0] [] (.again 0 [7,.v
 9])))))
def zne:T :=
 .loop [.c (.nil 1),2] (.lets [.bin .neq 4 (zI 0)] [] (.ite 5 z0cl (.lets [.call 62 [3] 0] [] (.ret [6]))))
attribute [local irreducible] zck
theorem z03a:Meets Tryz.prog za7 51 ⟨[.agg 2,.one],[(false,[.fresh 3 1])],false⟩:=by
 refine z8 (sp:=(zr [(62,zck),(63,z3t)])) (sigs:=zy) (cut:=[]) (hints:=[⟨2,[.r 5 3 1,.t 1]⟩]) (fn:=Tryz.f51) (t:=zne) (by kernel_rfl) (by kernel_rfl) (by kernel_rfl) ?_ ?_
 ·exact (zl (L:=[(62,zck),(63,z3t)]) ⟨z5 rfl z0o5,z5 rfl zen,trivial⟩)
 ·rintro ds rs - h
  obtain ⟨⟨t,m⟩,⟨ok,hm⟩,rfl,rfl⟩:=z9 h;clear h;simp only at ok hm;refine ⟨⟨t.names.length+1,?_⟩,z10 trivial⟩
  show den _ _ zne [.l 1 (t.names.map zf),.l 5 (t.blocks.map zi),I m] []=ret (z0s t.names t.blocks m)
  unfold zne;have hz:∀ n,up t.names t.blocks n 0=[]:=fun n=>by cases n with
   | zero=>rfl
   | succ n=>rw [up,if_pos rfl]
  have hle:=ok.le;have hrl:z57 t.names m≤t.names.length:=by
   rcases hm with h|h
   ·unfold z57;rw [if_pos h];omega
   ·have:=(zbn ok h).2
    have:=ok.len;unfold z57;split <;> omega
  refine z0is (fun s:List Int × Int=>[.l 1 (s.1.map zf),I s.2]) (fun s=>(s.1++up t.names t.blocks t.names.length s.2).reverse) (fun s=>z57 t.names s.2) (fun s=>(s.2=0∨0≤idx t.names s.2)∧s.1.length+z57 t.names s.2≤24) ([],m) rfl ⟨hm,by simp only [zY17];omega⟩ (by simp only;omega) ?_;rintro ⟨acc,m⟩ ⟨hm,hl⟩ again hag;simp only at hm hl hag ⊢
  by_cases h:m=0
  ·subst h
   rw [hz,zY27];have a1:=z02v acc;refine z6 (zaq rfl rfl) ?_;refine dqF ?_ rfl (fun k=>k rfl)
   repeat' (first|refine dqk rfl (a1) ?_|exact z4 rfl rfl|fail)
  ·have hi:0≤idx t.names m:=hm.resolve_left h
   obtain ⟨u1,u2,u3⟩:=z0rs ok h hi;obtain ⟨b1,b2⟩:=zbn ok hi;have hr:=ok.rem h hi;have a1:=z8g t.names m;rw [u2];refine z6 (zaq rfl rfl) ?_;refine dqT ?_ rfl h
   repeat' (first|refine dq1 ?_|refine dqc ?_|refine dqk rfl (a1) ?_|fail)
   have:=hag (acc++[m],z0g t.names t.blocks m) ⟨u3,by simp only [zY04,zY19];omega⟩ hr;simp only [zY1b,zY3f] at this;exact zb rfl rfl this
noncomputable def z8j:z7:=spD (fun x:Tree × List Int=>TreeOK x.1.names x.1.blocks∧x.2.length≤24∧∀ m ∈ x.2,0≤idx x.1.names m) fun x=>z2s x.1.names x.1.blocks x.2
theorem zkc (t:Tree) (l:List Int) (ok:TreeOK t.names t.blocks) (hl:l.length≤24) (hm:∀ m ∈ l,0≤idx t.names m):z8j [.l 1 (t.names.map zf),.l 5 (t.blocks.map zi),.l 1 (l.map zf)]=some [I (z2s t.names t.blocks l)]:=za (p:=fun x:Tree × List Int=>TreeOK x.1.names x.1.blocks∧x.2.length≤24∧∀ m ∈ x.2,0≤idx x.1.names m) (f:=fun x:Tree × List Int=>z2s x.1.names x.1.blocks x.2) (t,l) ⟨ok,hl,hm⟩
def z0cm:T :=
 .lets [] [.inr 5 1 8] (.lets [.idx 1 8 2] [] (.lets [.bin .add 4 9] [] (.lets [.bin .add 5 (zI 1)] [] (.again 0 [10,11]))))
def z0cn:T :=
 .lets [.bin .lss 5 3] [] (.ite 6 (.lets [] [.inr 1 2 5] (.lets [.idx 2 5 0] [] (.lets [.call 63 [0,7] 0] [] z0cm))) (.ret [4]))
def znf:T :=
 .lets [.len 2] [] (.loop [zI 0,zI 0] z0cn)
theorem z03b:Meets Tryz.prog z8j 44 ⟨[.agg 2,.one],[(false,[.scal])],true⟩:=by
 refine z8 (sp:=(zr [(63,z3t)])) (sigs:=zy) (cut:=[]) (hints:=[⟨3,[.t 5,.t 10]⟩]) (fn:=Tryz.f44) (t:=znf) (by kernel_rfl) (by kernel_rfl) (by kernel_rfl) ?_ ?_
 ·exact (zl (L:=[(63,z3t)]) ⟨z5 rfl zen,trivial⟩)
 ·rintro ds rs - h
  obtain ⟨⟨t,l⟩,⟨ok,hl,hm⟩,rfl,rfl⟩:=z9 h;clear h;simp only at ok hl hm;refine ⟨⟨l.length+1,?_⟩,zq rfl⟩
  show den _ _ znf [.l 1 (t.names.map zf),.l 5 (t.blocks.map zi),.l 1 (l.map zf)] []=ret (z2s t.names t.blocks l)
  have hw:∀ b ∈ t.blocks,0≤b.work∧b.work≤1000:=fun b hb=>zwo (z5y ((z03 _ _).2 ok) b hb)
  unfold znf
  repeat' (first|refine dq1 ?_|fail)
  rw [show z2s t.names t.blocks l=0+z2s t.names t.blocks l by omega]
  (refine zm (fun (s:Int) k=>[I s,I k]) (fun (s:Int) _ (r:List Int)=>s+z2s t.names t.blocks r) (fun s k=>0≤s∧s≤1000 * k) (0:Int) l ?_ ?_ ?_ ?_ ?_;rfl;exact ⟨by omega,by omega⟩;exact zY1i _)
  ·rintro s k m r hx hd hkl ⟨i1,i2⟩ again hag
   obtain ⟨b1,b2⟩:=zbn ok (hm m (zY07 hx));have hi:=hm m (zY07 hx);have hwb:=hw _ (zY07 b1);have a1:=z8g t.names m;rw [z2s];generalize z08 t.blocks (idx t.names m)=b at *
   repeat' (first|refine dq1 ?_|refine dqc ?_|refine dqk rfl (a1) ?_|refine dqT ?_|fail)
   have:=hag (s+b.work) ⟨by omega,by omega⟩;rw [Int.add_assoc] at this;exact zb rfl rfl this
  ·rintro s ⟨i1,i2⟩ again
   rw [z2s,Int.add_zero]
   repeat' (first|refine dq1 ?_|exact z4 rfl rfl|refine dqF ?_|fail)
noncomputable def z5g:z7:=spD (fun _:Tree × Int=>True) fun x=>z4l x.1 x.2
theorem zh6 (t:Tree) (m:Int):z5g [.l 1 (t.names.map zf),.l 5 (t.blocks.map zi),I m]=some [.l 1 ((z4l t m).1.map zf),I (z4l t m).2]:=za (f:=fun x:Tree × Int=>z4l x.1 x.2) (t,m) trivial
theorem zux (t:Tree) (m:Int):z4l t m=if zx t≠0 then ([],zx t) else if m≠0 then (if z2u t.names m=false then ([],5) else (z0s t.names t.blocks m,0)) else (z0s t.names t.blocks m,0):=by
 with_unfolding_all unfold z4l
 by_cases h:zx t≠0
 ·rw [if_pos h,if_pos h]
 rw [if_neg h,if_neg h]
 by_cases h2:m=0
 ·rw [if_neg (by omega),if_neg (fun k=>k h2)]
 rw [if_pos h2];have hi:=z0v t.names m
 by_cases h3:m ∈ t.names
 ·rw [if_neg (by have:=hi.2 h3;omega),if_neg (by unfold z2u;simp [h3])]
 ·rw [if_pos ⟨h2,by apply Classical.byContradiction;intro hc;exact h3 (hi.1 (by omega))⟩,if_pos (by unfold z2u;simp [h3])]
def z03c:T :=
 .lets [.call 96 [0,2] 0] [] (.lets [.not 6] [] (.ite 7 (.ret [.c (.nil 1),zI 5]) (.lets [.call 99 [0,1,2] 0] [] (.ret [8,.c (.i .i64
 0)]))))
def z03d:T :=
 .ite 4 (.ret [.c (.nil 1),3]) (.lets [.bin .neq 2 (zI 0)] [] (.ite 5 z03c (.lets [.call 99 [0,1,2] 0] [] (.ret [6,.c (.i .i64
 0)]))))
def zic:T :=
 .lets [.call 98 [0,1] 0] [] (.lets [.bin .neq 3 (zI 0)] [] z03d)
theorem zpy:Meets Tryz.prog z5g 19 ⟨[.agg 2,.one],[(false,[.pure]),(false,[.scal])],false⟩:=by
 refine z8 (sp:=(zr [(96,z8i),(98,z3j),(99,za7)])) (sigs:=zy) (cut:=[]) (hints:=[]) (fn:=Tryz.f19) (t:=zic) (by kernel_rfl) (by kernel_rfl) (by kernel_rfl) ?_ ?_
 ·exact (zl (L:=[(96,z8i),(98,z3j),(99,za7)]) ⟨z5 rfl zsc,z5 rfl zc4,z5 rfl z03a,trivial⟩)
 ·rintro ds rs - h
  obtain ⟨⟨t,m⟩,-,rfl,rfl⟩:=z9 h;clear h;refine ⟨⟨1,?_⟩,z10 ⟨rfl,trivial⟩⟩
  show den _ _ zic [.l 1 (t.names.map zf),.l 5 (t.blocks.map zi),I m] []=ret (z4l t m)
  rw [zux];unfold zic;have a1:=z82 t;have a2:=zg6 t.names m;have a3:=zkb t m;have hok:=(z03 t.names t.blocks).1;have hin:z2u t.names m=true→0≤idx t.names m:=(zel _ _).1;generalize z2u t.names m=d at *;refine dqk rfl a1 ?_;refine z6 (zaq rfl rfl) ?_;refine tR (fun h=>?_) (fun h=>?_)
  ·repeat' (first|exact z4 rfl rfl|fail)
  have h:=zY0i.1 h;have ok:=hok h;refine z6 (zaq rfl rfl) ?_;refine tR (fun h=>?_) (fun h=>?_)
  rotate_left
  ·have a3:=a3 ok (.inl (zY0i.1 h))
   repeat' (first|refine dqk rfl (a3) ?_|exact z4 rfl rfl|fail)
  ·refine dqk rfl a2 ?_
   refine z6 (z0i4 rfl) ?_
   cases d with
   | true =>
    have a3:=a3 ok (.inr (hin rfl));rw [if_neg (by decide)]
    repeat' (first|refine dqk rfl (a3) ?_|exact z4 rfl rfl|refine z4i rfl ?_|fail)
   | false =>
    rw [if_pos rfl]
    repeat' (first|exact z4 rfl rfl|refine z6l rfl ?_|fail)
theorem z0co {t:Tree} {m:Int} (h:(z4l t m).2=0):TreeOK t.names t.blocks∧(m=0∨0≤idx t.names m)∧z4l t m=(z0s t.names t.blocks m,0):=by
 rw [zux] at h ⊢
 by_cases h1:zx t≠0
 ·rw [if_pos h1] at h;exact absurd h h1
 rw [if_neg h1] at h ⊢;have ok:=(z03 t.names t.blocks).1 (zY0i.1 h1)
 by_cases h2:m=0
 ·rw [if_neg (fun k=>k h2)]
  exact ⟨ok,.inl h2,rfl⟩
 rw [if_pos h2] at h ⊢
 by_cases h3:z2u t.names m=false
 ·rw [if_pos h3] at h;exact absurd h (by decide)
 ·rw [if_neg h3]
  exact ⟨ok,.inr ((zel _ _).1 (by simpa using h3)),rfl⟩
noncomputable def z9e:z7:=spD (fun _:Tree × Int=>True) fun x=>z80 x.1 x.2
theorem zh7 (t:Tree) (m:Int):z9e [.l 1 (t.names.map zf),.l 5 (t.blocks.map zi),I m]=some [I (z80 t m).1,I (z80 t m).2]:=za (f:=fun x:Tree × Int=>z80 x.1 x.2) (t,m) trivial
def z03e:T :=
 .lets [.bin .neq 4 (zI 0)] [] (.ite 5 (.ret [zI 0,4]) (.lets [.call 100 [0,1,3] 0] [] (.ret [6,zI 0])))
def zid:T :=
 .lets [.call 64 [0,1,2] 0,.call 64 [0,1,2] 1] [] z03e
attribute [local irreducible] z8j z5g
theorem z0cp:Meets Tryz.prog z9e 16 ⟨[.agg 2,.one],[(false,[.scal]),(false,[.scal])],true⟩:=by
 refine z8 (sp:=(zr [(64,z5g),(100,z8j)])) (sigs:=zy) (cut:=[]) (hints:=[]) (fn:=Tryz.f16) (t:=zid) (by kernel_rfl) (by kernel_rfl) (by kernel_rfl) ?_ ?_
 ·exact (zl (L:=[(64,z5g),(100,z8j)]) ⟨z5 rfl zpy,z5 rfl z03b,trivial⟩)
 ·rintro ds rs - h
  obtain ⟨⟨t,m⟩,-,rfl,rfl⟩:=z9 h;clear h;refine ⟨⟨1,?_⟩,zbl rfl rfl⟩
  show den _ _ zid [.l 1 (t.names.map zf),.l 5 (t.blocks.map zi),I m] []=ret (z80 t m)
  have a1:=zh6 t m;have a2:=fun ok h1 h2=>zkc t (z4l t m).1 ok h1 h2
  have hp:=@z0co t m;unfold zid z80;generalize z4l t m=q at *;obtain ⟨l,e⟩:=q;simp only at *
  by_cases he:e=0
  ·obtain ⟨ok,hm,hl⟩:=hp he
   obtain rfl:=congrArg Prod.fst hl;simp only at a1 a2 ⊢;have a2:=a2 ok (by have:=zci ok hm;have:=ok.le;omega) (z9v ok hm)
   repeat' (first|refine dq1 ?_|refine dqK rfl (a1) ?_|refine dqk rfl (a2) ?_|exact z4 rfl rfl|refine tR (fun h=>?_) fun h=>?_|fail)
  ·repeat' (first|refine dq1 ?_|refine dqK rfl (a1) ?_|exact z4 rfl rfl|refine tR (fun h=>?_) fun h=>?_|fail)
   all_goals omega
noncomputable def z6g:z7:=spD (fun _:Tree=>True) fun t=>z16 t
theorem zh8 (t:Tree):z6g [.l 1 (t.names.map zf),.l 5 (t.blocks.map zi)]=some [I (z16 t).1,I (z16 t).2]:=za (f:=fun t:Tree=>z16 t) t trivial
def z03f:T :=
 .ite 14 (.lets [.bin .add 7 (zI 1)] [] (.again 0 [9,11,15])) (.lets [.bin .add 7 (zI 1)] [] (.again 0 [5,6,15]))
def z03g:T :=
 .lets [.bin .eql 11 6] [] (.ite 13 (.lets [.bin .lss 9 5] [] z03f) (.lets [.bin .add 7 (zI 1)] [] (.again 0 [5,6,14])))
def z03h:T :=
 .lets [.call 100 [0,1,10] 0] [] (.lets [.bin .gtr 11 6] [] (.ite 12 (.lets [.bin .add 7 (zI 1)] [] (.again 0 [9,11,13]))
 z03g))
def z03i:T :=
 .ite 8 (.lets [] [.inr 1 0 7] (.lets [.idx 0 7 0] [] (.lets [.call 99 [0,1,9] 0] [] z03h))) (.ret [5,zI 0])
def z03j:T :=
 .ite 3 (.ret [zI 0,2]) (.lets [.len 0] [] (.loop [zI 0,zI 0,zI 0] (.lets [.bin .lss 7 4] [] z03i)))
def zie:T :=
 .lets [.call 98 [0,1] 0] [] (.lets [.bin .neq 2 (zI 0)] [] z03j)
theorem zpz:Meets Tryz.prog z6g 67 ⟨[.agg 2],[(false,[.scal]),(false,[.scal])],true⟩:=by
 refine z8 (sp:=(zr [(98,z3j),(99,za7),(100,z8j)])) (sigs:=zy) (cut:=[]) (hints:=[⟨6,[.t 5,.t 6,.t 18]⟩]) (fn:=Tryz.f67) (t:=zie) (by kernel_rfl) (by kernel_rfl) (by kernel_rfl) ?_ ?_
 ·exact (zl (L:=[(98,z3j),(99,za7),(100,z8j)]) ⟨z5 rfl zc4,z5 rfl z03a,z5 rfl z03b,trivial⟩)
 ·rintro ds rs - h
  obtain ⟨t,-,rfl,rfl⟩:=z9 h;clear h;refine ⟨⟨t.names.length+1,?_⟩,zbl rfl rfl⟩
  show den _ _ zie [.l 1 (t.names.map zf),.l 5 (t.blocks.map zi)] []=ret (z16 t)
  have a1:=z82 t;have hok:=(z03 t.names t.blocks).1;rw [show z16 t=if zx t≠0 then (0,zx t) else ((t.names.foldl (z1b t.names t.blocks) (0,0)).1,0) from rfl];unfold zie;refine dqk rfl a1 ?_;refine z6 (zaq rfl rfl) ?_;refine tR (fun h=>?_) (fun h=>?_)
  ·repeat' (first|exact z4 rfl rfl|fail)
  have h:=zY0i.1 h;have ok:=hok h
  repeat' (first|refine dq1 ?_|fail)
  (refine zm (fun (s:Int × Int) k=>[I s.1,I s.2,I k]) (fun (s:Int × Int) _ (r:List Int)=>((r.foldl (z1b t.names t.blocks) s).1,(0:Int))) (fun _ _=>True) ((0,0):Int × Int) t.names ?_ ?_ ?_ ?_ ?_;rfl;exact trivial;exact zY1i _)
  ·rintro ⟨p,w⟩ k m r hx hd hkl - again hag
   have hm:=(z0v t.names m).2 (zY07 hx);have hm:m=0∨0≤idx t.names m:=.inr hm;have a2:=zkb t m ok hm;have a3:=zkc t (z0s t.names t.blocks m) ok (by have:=zci ok hm;have:=ok.le;omega) (z9v ok hm);have hle:=ok.le;rw [zY3l];simp only at hag ⊢;have hst:z1b t.names t.blocks (p,w) m=if w<z2s t.names t.blocks (z0s t.names t.blocks m)∨(z2s t.names t.blocks (z0s t.names t.blocks m)=w∧m<p) then (m,z2s t.names t.blocks (z0s t.names t.blocks m)) else (p,w):=rfl
   generalize z2s t.names t.blocks (z0s t.names t.blocks m)=v at *
   by_cases h1:w<v
   ·rw [hst,if_pos (.inl h1)]
    repeat' (first|refine dq1 ?_|refine dqc ?_|refine dqk rfl (a2) ?_|refine dqk rfl (a3) ?_|refine dqT ?_|fail)
    exact zb rfl rfl (hag (m,v) trivial)
   by_cases h2:v=w
   ·by_cases h3:m<p
    ·rw [hst,if_pos (.inr ⟨h2,h3⟩)]
     repeat' (first|refine dq1 ?_|refine dqc ?_|refine dqk rfl (a2) ?_|refine dqk rfl (a3) ?_|refine dqT ?_|refine dqF ?_|fail)
     exact zb rfl rfl (hag (m,v) trivial)
    ·rw [hst,if_neg (by omega)]
     repeat' (first|refine dq1 ?_|refine dqc ?_|refine dqk rfl (a2) ?_|refine dqk rfl (a3) ?_|refine dqT ?_|refine dqF ?_|fail)
     exact zb rfl rfl (hag (p,w) trivial)
   ·rw [hst,if_neg (by omega)]
    repeat' (first|refine dq1 ?_|refine dqc ?_|refine dqk rfl (a2) ?_|refine dqk rfl (a3) ?_|refine dqT ?_|refine dqF ?_|fail)
    exact zb rfl rfl (hag (p,w) trivial)
  ·rintro ⟨p,w⟩ - again
   repeat' (first|refine dq1 ?_|exact z4 rfl rfl|refine dqF ?_|fail)
noncomputable def z1z:z7:=spD (fun _:Tree × Int=>True) fun x=>(z0a x.1 x.2,z0o x.1 x.2)
theorem z83 (t:Tree) (m:Int):z1z [.l 1 (t.names.map zf),.l 5 (t.blocks.map zi),I m]=some (zi (z0a t m)++[I (z0o t m)]):=za (f:=fun x:Tree × Int=>(z0a x.1 x.2,z0o x.1 x.2)) (t,m) trivial
theorem zuy {t:Tree} (ok:TreeOK t.names t.blocks) {b:Block} (hb:b ∈ t.blocks):BlockSmall b:=by
 have bk:=z3z (z5y (t:=t) ((z03 t.names t.blocks).2 ok) b hb);exact ⟨by have:=bk.len;omega,fun x hx=>z52 (bk.each x hx)⟩
theorem zq0 {t:Tree} (ok:TreeOK t.names t.blocks):TreeSmall t:=by
 have:=ok.len;have:=ok.le;exact ⟨by omega,by omega,fun b hb=>zuy ok hb⟩
def zwy:T :=
 .lets [.call 102 [7,8,9,10,11] 0,.call 102 [7,8,9,10,11] 1,.call 102 [7,8,9,10,11] 2,.call 102 [7,8,9,10,
 .v 11] 3,.call 102 [7,8,9,10,11] 4] [] (.ret [12,13,14,15,16,zI 0])
def zwz:T :=
 .lets [] [.inr 5 1 5] (.lets [.idx 1 5 0,.idx 1 5 1,.idx 1 5 2,.idx 1 5 3,.idx 1 5 4] [] zwy)
def zx0:T :=
 .lets [.bin .lss 5 (zI 0)] [] (.ite 6 (.ret [zI 0,zI 0,zI 0,zI 0,.c (.nil 3),zI 5]) zwz)
def zx1:T :=
 .lets [.bin .neq 3 (zI 0)] [] (.ite 4 (.ret [zI 0,zI 0,zI 0,zI 0,.c (.nil 3),3]) (.lets [.call 63 [0,2] 0]
 [] zx0))
def zg8:T :=
 .lets [.call 98 [0,1] 0] [] zx1
theorem zc5:Meets Tryz.prog z1z 20 ⟨[.agg 2,.one],[(true,[.scal,.scal,.scal,.scal,.pure]),(false,[.scal])],false⟩:=by
 refine z8 (sp:=(zr [(63,z3t),(98,z3j),(102,z3m)])) (sigs:=zy) (cut:=[]) (hints:=[]) (fn:=Tryz.f20) (t:=zg8) (by kernel_rfl) (by kernel_rfl) (by kernel_rfl) ?_ ?_
 ·exact (zl (L:=[(63,z3t),(98,z3j),(102,z3m)]) ⟨z5 rfl zen,z5 rfl zc4,z5 rfl zfq,trivial⟩)
 ·rintro ds rs - h
  obtain ⟨⟨t,m⟩,-,rfl,rfl⟩:=z9 h;clear h;refine ⟨⟨1,?_⟩,z10 ⟨rfl,rfl,rfl,rfl,rfl,trivial⟩⟩
  show den _ _ zg8 [.l 1 (t.names.map zf),.l 5 (t.blocks.map zi),I m] []=ret (z0a t m,z0o t m)
  have a1:=z82 t;have a2:=z8g t.names m;have hok:=(z03 t.names t.blocks).1;have hat:=fun ok h=>@zbn t ok m h
  have e:(z0a t m,z0o t m)=if zx t≠0 then (z24,zx t) else if idx t.names m<0 then (z24,5) else (z08 t.blocks (idx t.names m),0):=by
   with_unfolding_all unfold z0a z0o
   by_cases h:zx t≠0
   ·rw [if_pos h,if_neg h,if_pos h]
   ·rw [if_neg h]
    by_cases h2:idx t.names m<0
    ·rw [if_pos h2,if_neg (by decide),if_neg h,if_pos h2]
    ·rw [if_neg h2,if_pos rfl,if_neg h,if_neg h2]
  rw [e];clear e;unfold zg8;generalize idx t.names m=j at *;refine dqk rfl a1 ?_;refine z6 (zaq rfl rfl) ?_;refine tR (fun h=>?_) (fun h=>?_)
  ·repeat' (first|exact z4 rfl rfl|fail)
  have h:=zY0i.1 h;have ok:=hok h;refine dqk rfl a2 ?_;refine z6 (zzj rfl rfl) ?_;refine tR (fun h=>?_) (fun h=>?_)
  ·repeat' (first|exact z4 rfl rfl|fail)
  obtain ⟨b1,b2⟩:=hat ok (by omega);have hle:=ok.le;have a3:=zd0 _ (zuy ok (zY07 b1));generalize z08 t.blocks j=b at *
  repeat' (first|refine dqc ?_|refine dqm ?_|refine dqK rfl (a3) ?_|exact z4 rfl rfl|fail)
noncomputable def zb0:z7:=spD (fun _:Tree × Int × Block=>True) fun x=>(z2j x.1 x.2.1 x.2.2,z0y x.1 x.2.1 x.2.2)
theorem zx2 (t:Tree) (m:Int) (b:Block):zb0 [.l 1 (t.names.map zf),.l 5 (t.blocks.map zi),I m,I b.parent,I b.height,I b.work,I b.nonce,.l 3 (b.txs.map eTx)]=some [.l 1 ((z2j t m b).names.map zf),.l 5 ((z2j t m b).blocks.map zi),I (z0y t m b)]:=za (f:=fun x:Tree × Int × Block=>(z2j x.1 x.2.1 x.2.2,z0y x.1 x.2.1 x.2.2)) (t,m,b) trivial
theorem z07h (t:Tree) (name:Int) (b:Block):(z2j t name b,z0y t name b)=if zx t≠0 then ((⟨[],[]⟩:Tree),zx t) else if name<1 then (⟨[],[]⟩,3) else if name > 120 then (⟨[],[]⟩,3) else if zd b≠0 then (⟨[],[]⟩,zd b) else if z2u t.names name=true then (⟨[],[]⟩,6) else if z1h t.names t.blocks b t.names.length≠0 then (⟨[],[]⟩,z1h t.names t.blocks b t.names.length) else if (t.names.length:Int)=24 then (⟨[],[]⟩,12) else (⟨t.names++[name],t.blocks++[b]⟩,0):=by
 have key:∀ e,z0y t name b=e→e≠0→(z2j t name b,z0y t name b)=(⟨[],[]⟩,e):=by
  intro e h h0
  with_unfolding_all unfold z2j
  rw [h,if_neg h0]
 by_cases h1:zx t≠0
 ·rw [if_pos h1]
  exact key _ (by with_unfolding_all exact if_pos h1) h1
 have e1:z0y t name b=if z91 name=true then 3 else if zd b≠0 then zd b else if z2u t.names name=true then 6 else if z1h t.names t.blocks b t.names.length≠0 then z1h t.names t.blocks b t.names.length else if (t.names.length:Int)=24 then 12 else 0:=by with_unfolding_all exact if_neg h1
 rw [if_neg h1]
 by_cases h2:name<1
 ·rw [if_pos h2]
  exact key _ (by rw [e1,if_pos (by unfold z91;exact decide_eq_true (.inl h2))]) (by decide)
 rw [if_neg h2]
 by_cases h3:name > 120
 ·rw [if_pos h3]
  exact key _ (by rw [e1,if_pos (by unfold z91;exact decide_eq_true (.inr h3))]) (by decide)
 rw [if_neg h3];rw [if_neg (by unfold z91;rw [decide_eq_true_iff];omega)] at e1
 by_cases h4:zd b≠0
 ·rw [if_pos h4]
  exact key _ (by rw [e1,if_pos h4]) h4
 rw [if_neg h4];rw [if_neg h4] at e1
 by_cases h5:z2u t.names name=true
 ·rw [if_pos h5]
  exact key _ (by rw [e1,if_pos h5]) (by decide)
 rw [if_neg h5];rw [if_neg h5] at e1
 by_cases h6:z1h t.names t.blocks b t.names.length≠0
 ·rw [if_pos h6]
  exact key _ (by rw [e1,if_pos h6]) h6
 rw [if_neg h6];rw [if_neg h6] at e1
 by_cases h7:(t.names.length:Int)=24
 ·rw [if_pos h7]
  exact key _ (by rw [e1,if_pos h7]) (by decide)
 rw [if_neg h7];rw [if_neg h7] at e1;rw [e1]
 with_unfolding_all unfold z2j
 rw [e1,if_pos rfl]
def z07i:T :=
 .lets [.call 102 [3,4,5,6,7] 0,.call 102 [3,4,5,6,7] 1,.call 102 [3,4,5,6,7] 2,.call 102 [3,4,5,6,7]
 3,.call 102 [3,4,5,6,7] 4] [] (.lets [.mk 5 [[24,25,26,27,28]]] [] (.lets [.app 5 21 29] [] (.ret [23,30,zI 0])))
def z07j:T :=
 .ite 19 (.ret [.c (.nil 1),.c (.nil 5),zI 12]) (.lets [.call 81 [0,1] 0,.call 81 [0,1] 1] [] (.lets [.mk 1 [[2]]] [] (.lets [.app 1 20 (.v
 22)] [] z07i)))
def z07k:T :=
 .lets [.bin .neq 16 (zI 0)] [] (.ite 17 (.ret [.c (.nil 1),.c (.nil 5),16]) (.lets [.len 0] [] (.lets [.bin .eql 18 (zI 24)] []
 z07j)))
def z07l:T :=
 .ite 14 (.ret [.c (.nil 1),.c (.nil 5),zI 6]) (.lets [.len 0] [] (.lets [.call 97 [0,1,3,4,5,6,7,15] 0] [] z07k))
def z07m:T :=
 .lets [.call 51 [3,4,5,6,7] 0] [] (.lets [.bin .neq 12 (zI 0)] [] (.ite 13 (.ret [.c (.nil 1),.c (.nil 5),12]) (.lets [.call 96 [0,.v
 2] 0] [] z07l)))
def z07n:T :=
 .ite 10 (.ret [.c (.nil 1),.c (.nil 5),zI 3]) (.lets [.bin .gtr 2 (zI 120)] [] (.ite 11 (.ret [.c (.nil 1),.c (.nil 5),zI 3])
 z07m))
def zkd:T :=
 .lets [.call 98 [0,1] 0] [] (.lets [.bin .neq 8 (zI 0)] [] (.ite 9 (.ret [.c (.nil 1),.c (.nil 5),8]) (.lets [.bin .lss 2 (zI 1)] []
 z07n)))
theorem z0iu:Meets Tryz.prog zb0 112 ⟨[.agg 2,.one,.agg 5],[(true,[.pure,.pure]),(false,[.scal])],false⟩:=by
 refine z8 (sp:=(zr [(51,z2b),(81,z5f),(96,z8i),(97,z6f),(98,z3j),(102,z3m)])) (sigs:=zy) (cut:=[]) (hints:=[]) (fn:=Tryz.f112) (t:=zkd) (by kernel_rfl) (by kernel_rfl) (by kernel_rfl) ?_ ?_
 ·exact (zl (L:=[(51,z2b),(81,z5f),(96,z8i),(97,z6f),(98,z3j),(102,z3m)]) ⟨z5 rfl zdh,z5 rfl zpw,z5 rfl zsc,z5 rfl zpx,z5 rfl zc4,z5 rfl zfq,trivial⟩)
 ·rintro ds rs - h
  obtain ⟨⟨t,m,b⟩,-,rfl,rfl⟩:=z9 h;clear h;refine ⟨⟨1,?_⟩,z10 ⟨rfl,trivial⟩⟩
  show den _ _ zkd [.l 1 (t.names.map zf),.l 5 (t.blocks.map zi),I m,I b.parent,I b.height,I b.work,I b.nonce,.l 3 (b.txs.map eTx)] []=ret (z2j t m b,z0y t m b)
  have a1:=z82 t;have a2:=z92 b;have a3:=zg6 t.names m;have hok:=(z03 t.names t.blocks).1;have hbk:=@z3z b;rw [z07h];unfold zkd;generalize z2u t.names m=d at *;refine dqk rfl a1 ?_;refine z6 (zaq rfl rfl) ?_;refine tR (fun h=>?_) (fun h=>?_)
  ·repeat' (first|exact z4 rfl rfl|fail)
  have h:=zY0i.1 h;have ok:=hok h;have hle:=ok.le;have hll:=ok.len;have a4:=zh5 t b t.names.length (zY0p _) hll (fun x hx=>zfo (z5y (t:=t) h x (zY2e hx)));have a5:=zh4 t (zq0 ok)
  by_cases hb:zd b=0
  ·have bk:=hbk hb
   have a6:=zd0 b ⟨by have:=bk.len;omega,fun x hx=>z52 (bk.each x hx)⟩;clear hbk;generalize z1h t.names t.blocks b t.names.length=st at *
   repeat' (first|refine dq1 ?_|refine dqk rfl (a2) ?_|refine dqk rfl (a3) ?_|refine dqk rfl (a4) ?_|refine dqK rfl (a5) ?_|refine dqK rfl (a6) ?_|refine z6 (z1y (r:=[zi b]) rfl rfl (by simp)) ?_|exact z4 rfl rfl|((first|refine tR ?_ ?_|refine tB ?_ ?_) <;> intro h)|fail)
  ·clear hbk
   repeat' (first|refine dq1 ?_|refine dqk rfl (a2) ?_|exact z4 rfl rfl|refine tR (fun h=>?_) fun h=>?_|fail)
   all_goals omega
end
section
open Go.Lib (itoa atoiAll)
open Go.RowKit
def tTx:List UInt8:=[116,120,32]
def zTx:Tx:=⟨0,[],[]⟩
end
section
open Go.RowKit
set_option maxRecDepth 100000
set_option maxHeartbeats 4000000
attribute [local irreducible] z0i spD z35
def z0cq:T :=
 .lets [.call 10 [9] 0] [] (.lets [] [.inr 6 4 3] (.lets [.set 4 3 3 [12]] [] (.lets [.bin .add 3 (zI 1)] [] (.again 0 [14,13]))))
def z0cr:T :=
 .lets [] [.inr 6 4 3] (.lets [.idx 4 3 0,.idx 4 3 1,.idx 4 3 2,.idx 4 3 3,.idx 4 3 4,.idx 4 3 5] []
 z0cq)
def zng:T :=
 .lets [.call 9 [0] 0] [] (.lets [.len 1] [] (.loop [zI 0,1] (.lets [.bin .lss 3 2] [] (.ite 5 z0cr (.ret [4])))))
def z0iv:T :=
 .lets [.idx 3 6 0,.idx 3 6 1,.idx 3 6 2,.idx 3 6 3,.idx 3 6 4,.idx 3 6 5] [] (.lets [.bin .add 5 10] []
 (.lets [.bin .add 6 (zI 1)] [] (.again 0 [14,15])))
def z0iw:T :=
 .lets [.idx 2 10 0,.idx 2 10 1] [] (.lets [.bin .sub 9 12] [] (.lets [.bin .add 10 (zI 1)] [] (.again 1 [14,15])))
def z0ix:T :=
 .lets [.len 2] [] (.loop [5,zI 0] (.lets [.bin .lss 10 8] [] (.ite 11 (.lets [] [.inr 2 2 10] z0iw) (.ret [9]))))
def zsd:T :=
 .lets [.len 3] [] (.loop [zI 0,zI 0] (.lets [.bin .lss 6 4] [] (.ite 7 (.lets [] [.inr 6 3 6] z0iv) z0ix)))
def z58 (l:List Coin):Prop:=l.length≤1000000∧∀ c ∈ l,c.o.lock.length≤8796093022208
theorem CoinsOK.short {l:List Coin} (h:CoinsOK l):z58 l:=⟨by have:=h.len;omega,fun c hc=>by have:=zat (z61 (h.good c hc)).2.2.2.2.2.2.2.2;omega⟩
noncomputable def z8k:z7:=spD z58 fun l=>l
theorem zke (l:List Coin) (h:z58 l):z8k [.l 6 (l.map z04)]=some [.l 6 (l.map z04)]:=za (p:=z58) (f:=fun l:List Coin=>l) l h
theorem z03k:Meets Tryz.prog z8k 122 ⟨[.one],[(false,[.fresh 83 6])],false⟩:=by
 refine z8 (sp:=(zr [(9,zfl),(10,z5w)])) (sigs:=zy) (cut:=[]) (hints:=[⟨3,[.t 9,.o 6]⟩]) (fn:=Tryz.f122) (t:=zng) (by kernel_rfl) (by kernel_rfl) (by kernel_rfl) ?_ ?_
 ·exact (zl (L:=[(9,zfl),(10,z5w)]) ⟨z5 rfl z0nr,z5 rfl zpg,trivial⟩)
 ·rintro ds rs - h
  obtain ⟨l,⟨hl,hk⟩,rfl,rfl⟩:=z9 h;clear h;refine ⟨⟨l.length+1,?_⟩,z067 (by simp [z06,CF.isScal])⟩
  show den _ _ zng [.l 6 (l.map z04)] []=ret l
  unfold zng
  repeat' (first|refine dq1 ?_|refine dqk rfl (zzq _ hl) ?_|fail)
  (refine zm (fun (_:Unit) k=>[I k,.l 6 (l.map z04)]) (fun _ _ _=>l) (fun _ _=>True) () l ?_ ?_ ?_ ?_ ?_;rfl;exact trivial;exact zY1i _)
  ·rintro _ k c r hx hd hkl - again hag
   repeat' (first|refine dq1 ?_|refine dqc ?_|refine dqm ?_|refine dqk rfl (z8w _ (hk c (zY07 hx))) ?_|refine dqT ?_|fail)
   refine z6 (zar rfl rfl rfl (by omega) (by simp) (by exact hx) rfl) ?_
   repeat' (first|refine dq1 ?_|exact zb rfl rfl (hag () trivial)|fail)
  ·intro _ _ again
   repeat' (first|refine dq1 ?_|exact z4 rfl rfl|refine dqF ?_|fail)
theorem z07o (l:List Coin):∀ s:Int,l.foldl (fun s c=>s+c.o.coin) s=s+zh l:=by
 induction l with
 | nil=>intro s;simp [zh]
 | cons c l ih=>intro s;rw [zY3l,ih,zh];omega
def z1u (t:Tx) (l:List Coin):Int:=t.outs.foldl (fun s o=>s - o.coin) (l.foldl (fun s c=>s+c.o.coin) 0)
def zh9 (x:Tx × List Coin):Prop:=x.2.length≤1000000∧(∀ c ∈ x.2,0≤c.o.coin∧c.o.coin≤1000000000)∧x.1.outs.length≤1000000∧∀ o ∈ x.1.outs,0≤o.coin∧o.coin≤1000000000
noncomputable def z6h:z7:=spD zh9 fun x=>z1u x.1 x.2
theorem zc6 (t:Tx) (l:List Coin) (h:zh9 (t,l)):z6h [I t.height,.l 3 (t.ins.map eIn),.l 2 (t.outs.map z0z),.l 6 (l.map z04)]=some [I (z1u t l)]:=za (p:=zh9) (f:=fun x:Tx × List Coin=>z1u x.1 x.2) (t,l) h
theorem zse:Meets Tryz.prog z6h 165 ⟨[.agg 3,.one],[(false,[.scal])],true⟩:=by
 refine z8 (sp:=(zr [])) (sigs:=zy) (cut:=[]) (hints:=[⟨3,[.t 5,.t 12]⟩,⟨8,[.t 5,.t 25]⟩]) (fn:=Tryz.f165) (t:=zsd) (by kernel_rfl) (by kernel_rfl) (by kernel_rfl) ?_ ?_
 ·exact (zl (L:=[]) trivial)
 ·rintro ds rs - h
  obtain ⟨⟨t,l⟩,⟨h1,h2,h3,h4⟩,rfl,rfl⟩:=z9 h;clear h;simp only at h1 h2 h3 h4;refine ⟨⟨l.length+t.outs.length+1,?_⟩,zq rfl⟩
  show den _ _ zsd [I t.height,.l 3 (t.ins.map eIn),.l 2 (t.outs.map z0z),.l 6 (l.map z04)] []=ret (z1u t l)
  unfold zsd z1u
  repeat' (first|refine dq1 ?_|fail)
  (refine zm (fun (s:Int) k=>[I s,I k]) (fun (s:Int) _ (r:List Coin)=>t.outs.foldl (fun s o=>s - o.coin) (r.foldl (fun s c=>s+c.o.coin) s)) (fun s k=>0≤s∧s≤k * 1000000000) (0:Int) l ?_ ?_ ?_ ?_ ?_;rfl;exact ⟨by omega,by omega⟩;omega)
  ·rintro s k c r hx hd hkl ⟨h0,h5⟩ again hag
   have hc:=h2 c (zY07 hx)
   repeat' (first|refine dq1 ?_|refine dqc ?_|refine dqm ?_|refine dqT ?_|fail)
   exact zb rfl rfl (hag (s+c.o.coin) ⟨by omega,by omega⟩)
  ·rintro s ⟨h0,h5⟩ again
   repeat' (first|refine dq1 ?_|refine dqF ?_|fail)
   (refine zm (fun (s:Int) k=>[I s,I k]) (fun (s:Int) _ (r:List Out)=>r.foldl (fun s o=>s - o.coin) s) (fun s k => - (k * 1000000000)≤s∧s≤l.length * 1000000000) s t.outs ?_ ?_ ?_ ?_ ?_;rfl;exact ⟨by omega,by omega⟩;omega)
   ·rintro s k c r hx hd hkl ⟨h0,h5⟩ again' hag
    have hc:=h4 c (zY07 hx)
    repeat' (first|refine dq1 ?_|refine dqc ?_|refine dqm ?_|refine dqT ?_|fail)
    exact zb rfl rfl (hag (s - c.coin) ⟨by omega,by omega⟩)
   ·rintro s ⟨h0,h5⟩ again'
    repeat' (first|refine dq1 ?_|exact z4 rfl rfl|refine dqF ?_|fail)
def z9q:Coin:=⟨⟨0,0⟩,⟨0,[]⟩,0,false⟩
def z03l (l:List Coin) (p:Point):Coin × Int:=if z00 l≠0 then (z9q,z00 l) else if z3p l p=true then ((l[z02 l p]?).getD z9q,0) else (z9q,7)
end
section
open Go.RowKit
set_option maxRecDepth 100000
set_option maxHeartbeats 4000000
section
variable {ρ:Type}
def z46 (h:Int) (bad:Int→ρ) (K:List Coin→List Coin→ρ):List Coin→List Coin→List In→ρ
 | r,s,[]=>K r s
 | r,s,x::xs=>if z3p r x.p=true then
   if ((r[z02 r x.p]?).getD z9q).reward=true then
    if h<((r[z02 r x.p]?).getD z9q).height+2 then bad 10
    else if (z63 ((r[z02 r x.p]?).getD z9q).o.lock x.key h).1=true then z46 h bad K (r.take (z02 r x.p)++r.drop (z02 r x.p+1)) (s++[(r[z02 r x.p]?).getD z9q]) xs else bad 8
   else if (z63 ((r[z02 r x.p]?).getD z9q).o.lock x.key h).1=true then z46 h bad K (r.take (z02 r x.p)++r.drop (z02 r x.p+1)) (s++[(r[z02 r x.p]?).getD z9q]) xs else bad 8
  else bad 7
def z4d (nm h:Int) (rw:Bool) (bad:Int→ρ) (K:List Coin→ρ):List Coin→Nat→List Out→ρ
 | r,_,[]=>K r
 | r,i,o::os=>if z3p r ⟨nm,i⟩=true then bad 6 else z4d nm h rw bad K (r.take (z02 r ⟨nm,i⟩)++[⟨⟨nm,i⟩,o,h,rw⟩]++r.drop (z02 r ⟨nm,i⟩)) (i+1) os
end
def z59 (e:Int):List Coin × List Coin × Int:=([],[],e)
def zb1 (s r:List Coin):List Coin × List Coin × Int:=if z00 r≠0 then z59 (z00 r) else (r,s,0)
def zw (l:List Coin) (t:Tx) (nm h:Int):List Coin × List Coin × Int :=
 if z00 l≠0 then z59 (z00 l) else if zj t≠0 then z59 (zj t) else
 if nm<1∨120<nm∨h<1∨1000<h then z59 3 else
 if (t.ins.length:Int)=0 then
  if t.height≠h then z59 4 else z46 h z59 (fun r s=>z4d nm h (decide ((t.ins.length:Int)=0)) z59 (zb1 s) r 0 t.outs) l [] t.ins
 else z46 h z59 (fun r s=>if z1u t s<0 then z59 9 else z4d nm h (decide ((t.ins.length:Int)=0)) z59 (zb1 s) r 0 t.outs) l [] t.ins
section
variable {ρ:Type}
def zy5 (nm:Int) (bad:Int→ρ) (K:List Coin→ρ):List Coin→Nat→List Out→ρ
 | r,_,[]=>K r
 | r,i,o::os=>if z3p r ⟨nm,i⟩=true then (if decide (((r[z02 r ⟨nm,i⟩]?).getD z9q).o=o)=true then zy5 nm bad K (r.take (z02 r ⟨nm,i⟩)++r.drop (z02 r ⟨nm,i⟩+1)) (i+1) os else bad 7) else bad 7
def zy6 (ins:List In) (bad:Int→ρ) (K:List Coin→ρ):List Coin→Nat→List Coin→ρ
 | r,_,[]=>K r
 | r,i,c::cs=>if z3p r c.p=true then bad 6 else if ((ins[i]?).getD ⟨⟨0,0⟩,[]⟩).p≠c.p then bad 6 else zy6 ins bad K (r.take (z02 r c.p)++[c]++r.drop (z02 r c.p)) (i+1) cs
end
def znh (e:Int):List Coin × Int:=([],e)
def endR (r:List Coin):List Coin × Int:=if z00 r≠0 then znh (z00 r) else (r,0)
def z76 (l:List Coin) (t:Tx) (nm:Int) (u:List Coin):List Coin × Int :=
 if z00 l≠0 then znh (z00 l) else if zj t≠0 then znh (zj t) else if (u.length:Int)≠t.ins.length then znh 4 else
  zy5 nm znh (fun r=>zy6 t.ins znh endR r 0 u) l 0 t.outs
theorem zb2 {r:List Coin} (h:z0n r) (k:Nat):z0n (r.take k++r.drop (k+1)):=by
 have:(r.take k++r.drop (k+1))=r.eraseIdx k:=(List.eraseIdx_eq_take_drop_succ r k).symm;rw [this];exact h.sublist (List.eraseIdx_sublist r k)
theorem zb3 {r:List Coin} (h:z0n r) {c:Coin} (hc:z3p r c.p=false):z0n (r.take (z02 r c.p)++[c]++r.drop (z02 r c.p)):=by
 obtain ⟨i1,i2⟩:=zmb h c.p;have hle:=zn8 r c.p;have hne:∀ t (ht:t<r.length),r[t].p≠c.p:=fun t ht he=>by
  have:z3p r c.p=true:=zY3j.2 ⟨_,zY1l ht,by simpa using he⟩;rw [this] at hc;cases hc
 unfold z0n;rw [zY1b,zY2o];refine ⟨List.Pairwise.sublist (List.take_sublist _ _) h,?_,?_⟩
 ·rw [zY3f,zY1k]
  refine ⟨fun d hd=>?_,List.Pairwise.sublist (List.drop_sublist _ _) h⟩;obtain ⟨t,ht,rfl⟩:=zY2g hd;rw [zY10] at ht;rw [List.getElem_drop];have:=i2 (z02 r c.p+t) (by omega) (by omega);rcases z0a9 c.p r[z02 r c.p+t].p with h|h|h
  ·exact h
  ·exact absurd h.symm (hne _ (by omega))
  ·exact absurd h this
 ·intro a ha b hb
  obtain ⟨t,ht,rfl⟩:=zY2g ha;rw [zY0d] at ht;rw [List.getElem_take];have hat:=i1 t (by omega) (by omega);rw [zY3f,zY0f] at hb;rcases hb with rfl|hb
  ·exact hat
  ·obtain ⟨u,hu,rfl⟩:=zY2g hb
   rw [zY10] at hu;rw [List.getElem_drop];have:=i2 (z02 r c.p+u) (by omega) (by omega);rcases z0a9 r[t].p r[z02 r c.p+u].p with h|h|h
   ·exact h
   ·exact absurd (h ▸ hat) this
   ·exact absurd (za2 h hat) this
structure SpI (l:List Coin) (st:List Coin × List Coin) (k:Nat):Prop where
 sorted:z0n st.1
 len:st.1.length≤l.length
 good:∀ c ∈ st.1,z6p c=0
 cnt:st.2.length=k
 spent:∀ c ∈ st.2,z6p c=0
theorem SpI.cut {l:List Coin} {r s:List Coin} {k:Nat} {c:Coin} {j:Nat} (h:SpI l (r,s) k) (hc:r[j]? = some c):SpI l (r.take j++r.drop (j+1),s++[c]) (k+1):=by
 refine ⟨zb2 h.sorted j,?_,fun d hd=>?_,?_,fun d hd=>?_⟩
 ·have:=h.len
  simp only [zY04,zY0d,zY10] at this ⊢;omega
 ·rcases zY0w.1 hd with hd|hd
  ·exact h.good d (zY2e hd)
  ·exact h.good d (zY23 hd)
 ·have:=h.cnt
  simp only [zY04,zY19] at this ⊢;omega
 ·rcases zY0w.1 hd with hd|hd
  ·exact h.spent d hd
  ·simp only [zY0y] at hd
   subst hd;exact h.good d (zY07 hc)
theorem SpI.fee {l:List Coin} {r s:List Coin} {t:Tx} (h:SpI l (r,s) t.ins.length) (ht:TxOK t):zh9 (t,s) :=
 ⟨by have:=h.cnt;have:=ht.ins;simp only at *;omega,fun c hc=>by have:=z61 (h.spent c hc);omega,by have:=ht.outs;simp only;omega,fun o ho=>by have:=ht.good o ho;omega⟩
end
section
open Go.RowKit
section
variable {P:Program} {W:World}
theorem zha {g o t:Nat} {vs cs:List Value} (hg:W.heap[g]? = some (.cells vs.toArray t (0,0))) (hn:o+cs.length≤vs.length) (h1:∀ v ∈ cs,v.oneCell'=true):(storeCells ⟨g,o,none⟩ cs 0).run P W = .ok () (W.setCells g o cs):=by
 have h:=zgi (fr:=(0,0)) hg (o:=o) (n:=cs.length) hn;have:=run_storeCells_cells (P:=P) g o cs 0 W (fun j hj=>by rw [zY21];exact (h j hj).1) (fun j hj=>by rw [zY21];exact (h j hj).2) h1;simpa using this
theorem zuz {t e ty sz:Nat} {z:Value} (ht:P.underlying t=some (.slice e)) (hv:∀ w,(zeroValue e).run P w = .ok z w) (hz:z.cells.size=sz) (h1:∀ v ∈ z.cells.toList,v.oneCell'=true) {g o n c tt:Nat} {vs:List Value} (hg:W.heap[g]? = some (.cells vs.toArray tt (0,0))) (hn:o+n * sz≤vs.length) :
  (Builtin.clear_ #[t] ty #[.slice (some ⟨g,o,none⟩) n c]).run P W = .ok (.tuple #[]) (W.setCells g o (Builtin.zeroCells z.cells n).toList):=by
 have hzl:(Builtin.zeroCells z.cells n).toList.length=n * sz:=by simp [Builtin.zeroCells,hz]
 cases n with
 | zero =>
  have:(Builtin.zeroCells z.cells 0).toList=[]:=zY06 (by rw [hzl];simp);rw [this];simp [Builtin.clear_,run_underlying ht,World.setCells]
 | succ n =>
  have hs:=zha (P:=P) (cs:=(Builtin.zeroCells z.cells (n+1)).toList) hg (by rw [hzl];exact hn) (fun v hv=>by
   rw [Array.mem_toList_iff] at hv;simp only [Builtin.zeroCells,Array.mem_map] at hv;obtain ⟨i,hi,rfl⟩:=hv;have hpos:0<z.cells.size:=by
    rcases zY1j z.cells.size with h|h
    ·rw [h] at hi;simp at hi
    ·exact h
   have hlt:i % z.cells.size<z.cells.size:=Nat.mod_lt _ hpos;rw [getElem!_pos z.cells _ hlt];exact h1 _ (by simp))
  simp [Builtin.clear_,run_underlying ht,hv,hs]
theorem zif {t t' e ty sz:Nat} (ht:P.underlying t=some (.slice e)) (hsz:(P.info? e).map (·.size)=some sz) {g o dLen dCap sLen sCap tt:Nat} {a:Addr} {vs cs:List Value} (hg:W.heap[g]? = some (.cells vs.toArray tt (0,0))) (hl:cs.length=Nat.min sLen dLen * sz) (hsrc:∀ j v,cs[j]? = some v→W.cell? (a.add j)=some v) (hn:o+cs.length≤vs.length) (h1:∀ v ∈ cs,v.oneCell'=true) :
  (Builtin.copy_ #[t,t'] ty #[.slice (some ⟨g,o,none⟩) dLen dCap,.slice (some a) sLen sCap]).run P W = .ok (goInt (Nat.min sLen dLen)) (W.setCells g o cs):=by
 have hs:=zha (P:=P) hg hn h1;have hlc:=run_loadCells_list (P:=P) W a cs hsrc
 cases hq:P.info? e with
 | none=>simp [hq] at hsz
 | some i =>
  have hi:i.size=sz:=by simpa [hq] using hsz
  simp [Builtin.copy_,run_underlying ht,Builtin.lenOf,Builtin.firstCells,sizeOf,typeInfo,hq,hi,← hl,hlc,hs]
end
theorem z0o7 {pre mid post us:List Value} {o:Nat} (ho:o=pre.length) (h:us.length=mid.length):z25 (pre++mid++post) o us=pre++us++post:=by subst ho;exact zmz us pre mid post h
theorem za8 {vs us:List Value} {o:Nat} (h:o+us.length≤vs.length):z25 vs o us=vs.take o++us++vs.drop (o+us.length):=by
 have e:vs=vs.take o++(vs.drop o).take us.length++vs.drop (o+us.length):=by
  rw [zY1b,← zY33,zY14,zY14]
 have h1:o=(vs.take o).length:=by rw [zY0d];omega
 have h2:us.length=((vs.drop o).take us.length).length:=by rw [zY0d,zY10];omega
 conv=>lhs;rw [e]
 exact z0o7 h1 h2
theorem zkf {sz:Nat}:∀ {xs:List (List Dt)},(∀ x ∈ xs,x.length=sz)→xs.flatten.length=xs.length * sz
 | [],_=>by simp
 | x::xs,h=>by rw [zY1u,zY04,h x (zY0b ..),zkf fun y hy=>h y (zY08 _ hy),zY0g,zY1w,Nat.add_comm]
theorem zig {sz:Nat}:∀ {xs:List (List Dt)} (i:Nat),(∀ x ∈ xs,x.length=sz)→(xs.take i).flatten=xs.flatten.take (i * sz)
 | [],i,_=>by simp
 | x::xs,0,_=>by simp
 | x::xs,i+1,h=>by
  have hx:=h x (zY0b ..);rw [List.take_succ_cons,zY1u,zY1u,zig i fun y hy=>h y (zY08 _ hy),List.take_append,hx,zY0n (show x.length≤(i+1) * sz by rw [hx,zY1w];omega),zY1w,Nat.add_sub_cancel]
theorem zq1 {sz:Nat} {xs:List (List Dt)} (i:Nat) (h:∀ x ∈ xs,x.length=sz):(xs.drop i).flatten=xs.flatten.drop (i * sz):=by
 have e:xs.flatten=(xs.take i).flatten++(xs.drop i).flatten:=by rw [← zY39,zY14]
 by_cases hi:i≤xs.length
 ·have h1:(xs.take i).flatten.length=i * sz:=by rw [zkf fun y hy=>h y (zY2e hy),zY0d,zY25 hi]
  rw [e,← h1,List.drop_left]
 ·rw [zY24 (by omega),zY24]
  ·rfl
  ·rw [zkf h];exact zY1p _ (by omega)
section
variable {P:Program}
theorem zv0 {α:Type} [Enc α] {f e sz:Nat} (hn:Enc.n α=sz) (hpos:0<sz) (hen:En P f) (zc:Array Value) (hzc:zc.size=sz)
  (h0:∀ (W:World) (A:Option Addr) (n cap i:Nat),i≤n→n≤cap→cap≤maxLen→Calls P f #[.slice A n cap,.int .i64 i,.int .i64 i] W fun r W'=>r = .returned (.slice A n cap)∧W'=W)
  (hw:∀ (W:World) (g n cap i j:Nat) (vs:List Value),W.heap[g]? = some (.cells vs.toArray e (0,0))→n≤cap→cap≤maxLen→vs.length=cap * sz→(∀ u ∈ vs.take (n * sz),u.oneCell'=true)→i<j→j≤n →
   Calls P f #[.slice (some ⟨g,0,none⟩) n cap,.int .i64 i,.int .i64 j] W fun r W'=>r = .returned (.slice (some ⟨g,0,none⟩) (n - (j - i)) cap)∧W'=((W.drewN 1).setCells g (i * sz) ((vs.take (n * sz)).drop (j * sz))).setCells g ((i+(n - j)) * sz) (Builtin.zeroCells zc (j - i)).toList) :
  Meets P (spD (fun x:List α × Int × Int=>0≤x.2.1∧x.2.1≤x.2.2∧x.2.2≤x.1.length) fun x=>x.1.take x.2.1.toNat++x.1.drop x.2.2.toNat) f ⟨[.mine e sz,.one,.one],[(false,[.fresh e sz])],false⟩:=by
 refine ⟨fun h=>(by cases h),?_⟩;intro e' sz' ps hps;injection hps with h1 h2
 injection h1 with h1 h1'
 subst h1;subst h1';subst h2;intro W F base v xs cells ds args rs hF hbase hvF hxs hown hreps hargs hsp;obtain ⟨⟨l,i,j⟩,⟨hi0,hij,hjl⟩,he,rfl⟩:=z9 hsp;have he':Dt.l sz xs::ds=Dt.l (Enc.n α) (l.map Enc.e)::[I i,I j]:=he;injection he' with g1 g2
 injection g1 with g3 g1
 subst g2;subst g1;simp only at hi0 hij hjl;obtain ⟨va,vas,rfl,ha,hargs⟩:=z1j hargs;obtain ⟨vb,vbs,rfl,hb,hargs⟩:=z1j hargs;obtain rfl:=z2f hargs;obtain ⟨rfl,_⟩:=z3v ha;obtain ⟨rfl,_⟩:=z3v hb;obtain ⟨a,rfl⟩:∃ a:Nat,i=a:=⟨i.toNat,by omega⟩
 obtain ⟨b,rfl⟩:∃ b:Nat,j=b:=⟨j.toNat,by omega⟩
 have hlen:(l.map Enc.e).length=l.length:=zY15 _;rw [hlen] at hown;refine ⟨(l.take a++l.drop b).map Enc.e,?_,fun x hx=>hxs x ?_,?_⟩
 ·show [Dt.l (Enc.n α) _]=_
  rw [hn];rfl
 ·rw [zY1t,zY3p,List.map_drop] at hx
  rcases zY0w.1 hx with hx|hx
  ·exact zY2e hx
  ·exact zY23 hx
 by_cases hab:a=b
 ·subst hab
  have hsame:l.take a++l.drop a=l:=zY14 ..;simp only [zY1z,hsame];have hv:∃ A cap,v = .slice A l.length cap∧l.length≤cap∧cap≤maxLen:=by
   rcases hown.2 with ⟨rfl,h0⟩|⟨g,cap,cur,rfl,_,_,h1,h2,_⟩
   ·exact ⟨none,0,by rw [h0],by omega,by unfold maxLen;omega⟩
   ·exact ⟨_,cap,rfl,h1,h2⟩
  obtain ⟨A,cap,rfl,h1,h2⟩:=hv;refine .inl ⟨hen.run _ _,(h0 W A l.length cap a (by omega) h1 h2).mono ?_⟩;rintro r W' ⟨rfl,rfl⟩;exact ⟨_,rfl,_,cells,⟨fun h=>(by cases h),fun _=>rfl⟩,World.grownBy.refl _ _,by rw [hlen];exact hown,hreps,fun _ h=>.inl h⟩
 ·rcases hown.2 with ⟨rfl,h0⟩|⟨g,cap,cur,rfl,hbg,hg,h1,h2,hcs,htk⟩
  ·omega
  ·have hkeep:=hown
   have hml:cells.length=l.length * sz:=hown.1;have hcs':cur.toList.length=cap * sz:=by simpa using hcs
   have hones:∀ u ∈ cur.toList.take (l.length * sz),u.oneCell'=true:=by rw [htk];exact hreps.one
   refine .inl ⟨hen.run _ _,(hw W g l.length cap a b cur.toList (by simpa using hg) h1 h2 hcs' hones (by omega) (by omega)).mono ?_⟩;rintro r W' ⟨rfl,rfl⟩;have hgF:¬ F g:=hvF g rfl;generalize hW1:(W.drewN 1).setCells g (a * sz) ((cur.toList.take (l.length * sz)).drop (b * sz))=W1;have hg0:(W.drewN 1).heap[g]? = some (.cells cur.toList.toArray e (0,0)):=by simpa using hg
   have hnl:((cur.toList.take (l.length * sz)).drop (b * sz)).length=(l.length - b) * sz:=by
    rw [htk,zY10,hml,Nat.sub_mul]
   have hzl:(Builtin.zeroCells zc (b - a)).toList.length=(b - a) * sz:=by simp [Builtin.zeroCells,hzc]
   have hg1:=z2a ((cur.toList.take (l.length * sz)).drop (b * sz)) (a * sz) (W.drewN 1) cur.toList hg0;rw [hW1] at hg1;have hg2:=z2a (Builtin.zeroCells zc (b - a)).toList ((a+(l.length - b)) * sz) W1 _ hg1;have hmul1:a * sz+(l.length - b) * sz=(a+(l.length - b)) * sz:=(Nat.add_mul ..).symm;have hle1:(a+(l.length - b)) * sz≤cap * sz:=zY1p _ (by omega);have hle2:(a+(l.length - b)) * sz+(b - a) * sz≤cap * sz:=by rw [← Nat.add_mul];exact zY1p _ (by omega)
   have hle3:a * sz≤l.length * sz:=zY1p _ (by omega);have hle4:l.length * sz≤cap * sz:=zY1p _ h1;have hfar:∀ k,k≠g→(W1.setCells g ((a+(l.length - b)) * sz) (Builtin.zeroCells zc (b - a)).toList).heap[k]? = W.heap[k]?:=by
    intro k hk;rw [z34 g _ _ _ k hk,← hW1,z34 g _ _ _ k hk];rfl
   refine ⟨_,rfl,_,cells.take (a * sz)++cells.drop (b * sz),⟨fun h=>(by cases h),fun _=>rfl⟩,?_,?_,?_,fun _ h=>.inl h⟩
   ·obtain ⟨k1,k2,k3,k4⟩:=z4o g (Builtin.zeroCells zc (b - a)).toList ((a+(l.length - b)) * sz) W1
    obtain ⟨q1,q2,q3,q4⟩:=z4o g ((cur.toList.take (l.length * sz)).drop (b * sz)) (a * sz) (W.drewN 1);rw [hW1] at q1 q2 q3 q4;refine ⟨k1.trans q1,k2.trans q2,k3.trans q3,?_,fun k hk hne=>hfar k fun h=>hne (by rw [h];rfl)⟩;rw [k4,q4];exact zY0p _
   ·have hl2:((l.take a++l.drop b).map (Enc.e (α:=α))).length=a+(l.length - b):=by
     rw [zY15,zY04,zY0d,zY10];omega
    rw [hl2];refine ⟨?_,.inr ⟨g,cap,_,by rw [show l.length - (b - a)=a+(l.length - b) by omega],hbg,hg2,by omega,h2,?_,?_⟩⟩
    ·rw [zY04,zY0d,zY10,hml,zY25 hle3,← Nat.sub_mul,hmul1]
    ·rw [zY34,z26,z26];exact hcs'
    ·rw [zY2u,za8 (by rw [z26,hzl];omega),zY1b,zY13 (by rw [zY0d,z26];omega),zY31,Nat.min_self,za8 (by rw [hnl];omega),zY13 (by rw [zY04,zY0d,hnl];omega),zY0n (by rw [zY04,zY0d,hnl];omega),htk]
     congr 1;rw [← htk,zY31,zY25 hle3]
   ·rw [zY1t,zY3p,List.map_drop,zY39,zig a hxs,zq1 b hxs]
    have hag:Agree F W (W1.setCells g ((a+(l.length - b)) * sz) (Builtin.zeroCells zc (b - a)).toList):=fun k hk=>hfar k fun h=>hgF (h ▸ hk)
    exact ((hreps.take (a * sz)).append (hreps.drop (b * sz))).mono hag (fun _ h=>h)
theorem z03m {tS tR e sz:Nat} {W:World} (ht:P.underlying tS=some (.slice e)) (hz:∀ w,(sizeOf e).run P w = .ok sz w) {g o b off la ca lb cb t:Nat} {vs:List Value} (hg:W.heap[g]? = some (.cells vs.toArray t (0,0))) (hvs:0<vs.length) (hne:b≠g) {u:Value} (hb:W.cell? ⟨b,off,none⟩=some u) :
  (Extern.SlicesOverlaps.overlaps #[tS,tS] #[tR] #[.slice (some ⟨b,off,none⟩) la ca,.slice (some ⟨g,o,none⟩) lb cb]).run P W = .ok (.bool false) W:=by
 have hnb:(b != g)=true:=by simpa using hne
 have hnb':(b == g)=false:=by simpa using hne
 obtain ⟨arr,tb,fr,hbh,hsz⟩:∃ arr tb fr,W.heap[b]? = some (.cells arr tb fr)∧0<arr.size:=by
  unfold World.cell? at hb
  split at hb
  ·rename_i arr tb fr h
   simp at hb;obtain ⟨hlt,_⟩:=zY2h.1 hb;exact ⟨arr,tb,fr,h,by omega⟩
  ·cases hb
 have hsa:W.shape? b=some (tb,arr.size):=by simp [World.shape?,hbh]
 have hsb:W.shape? g=some (t,vs.length):=by simp [World.shape?,hg]
 have hfg:∀ k,W.frozen? ⟨g,k,none⟩=false:=fun k=>by simp [World.frozen?,hg]
 obtain ⟨n1,hn1⟩:∃ n,arr.size=n+1:=⟨arr.size - 1,by omega⟩
 obtain ⟨n2,hn2⟩:∃ n,vs.length=n+1:=⟨vs.length - 1,by omega⟩
 rw [hn1] at hsa;rw [hn2] at hsb;change Sem.run P (α:=Value) (do
  let some t:=(#[tS,tS]:Array TypeId)[0]? | stuck "slices.overlaps: no parameter types"
  let .slice elem ← underlying t|stuck "slices.overlaps: slice type expected"
  let size ← sizeOf elem
  match (some ⟨b,off,none⟩:Option Addr),(some ⟨g,o,none⟩:Option Addr) with
  | some a,some b =>
   if la=0∨lb=0∨size=0 then pure (Value.bool false)
   else if a.block != b.block && (← frozen a) && (← frozen b) then unsupported .addressObserved
   else do
    if a.block != b.block then do
     noView a;noView b
     if ← mayBeOne a b then return Value.bool ((← choose (.extern "sameAddr.stringBytes" 2)) == 1)
    pure (Value.bool (a.block == b.block && a.off<b.off+lb * size && b.off<a.off+la * size))
  | _,_=>pure (Value.bool false)) W=_
 by_cases h0:la=0∨lb=0∨sz=0
 ·simp [run_underlying ht,hz,h0]
 ·cases hf1:W.frozen? ⟨b,off,none⟩ <;> cases hf2:W.frozen? ⟨b,n1+1,none⟩ <;>
   simp [run_underlying ht,hz,h0,hnb,hnb',frozen,noView,viewAt,mayBeOne,stringish,shape,Sem.run,hsa,hsb,hfg,hf1,hf2]
theorem zmk {W:World} {b k:Nat} {v:Value} (o:Obj) (h:W.cell? ⟨b,k,none⟩=some v):(W.alloc o).cell? ⟨b,k,none⟩=some v:=by
 have hlt:b<W.heap.size:=by
  rcases zY1n b W.heap.size with h'|h'
  ·exact h'
  ·simp [World.cell?,zY16 h'] at h
 rw [← h];simp only [World.cell?,World.alloc,Array.getElem?_push,Nat.ne_of_lt hlt,if_false]
theorem z0iy {W:World} {g o b k:Nat} {us:List Value} (h:b≠g):(W.setCells g o us).cell? ⟨b,k,none⟩=W.cell? ⟨b,k,none⟩:=by
 simp only [World.cell?,z34 g us o W b h]
theorem z0iz {W:World} {o:Oper} {a:Act} {K:Act→World→Prop} {Q:Exit→Act→World→Prop} (d s:Operand) (t t':TypeId)
  (ho:o.op = .call { callee:=.builtin .copy,args:=#[d,s],argTypes:=#[t,t'] }) (v u:Value) (hd:a.eval d=v) (hs:a.eval s=u) {v':Value} {w':World}
  (hr:(Builtin.copy_ #[t,t'] o.type #[v,u]).run P W = .ok v' w') (h:K (a.put o.dst v') w'):o.wp P a W K Q:=by
 unfold Oper.wp execOp;simp only [ho,resolve,invoke,builtin,Sem.run_bind,Sem.run_pure,Result.andThen_ok,zY3k,zY1q,zY2v,hd,hs,hr];exact h
theorem zx3 {W:World} {ops:Array Oper} {rest:List Oper} {o:Oper} {a:Act} {Q:Exit→Act→World→Prop} (hgd:o.guard=none) (d s:Operand) (t t':TypeId)
  (ho:o.op = .call { callee:=.builtin .copy,args:=#[d,s],argTypes:=#[t,t'] }) (v u:Value) (hd:a.eval d=v) (hs:a.eval s=u) {v':Value} {w':World}
  (hr:(Builtin.copy_ #[t,t'] o.type #[v,u]).run P W = .ok v' w') (h:wpList P ops Q rest (a.put o.dst v') w'):wpList P ops Q (o::rest) a W :=
 wpList_plain hgd fun _ hK=>z0iz d s t t' ho v u hd hs hr (hK _ _ h)
theorem zml {ops:Array Oper} {o:Oper} {a:Act} {W:World} {K:Act→World→Prop} {Q:Exit→Act→World→Prop} {E:Prop}
  (hg:o.guard=none) (d x:Operand) (dT sT:TypeId) (hop:o.op=Op.call { callee:=Callee.builtin Builtin.copy,args:=#[d,x],argTypes:=#[dT,sT] })
  (v u:Value) (hd:a.eval d=v) (hx:a.eval x=u) {v':Value} {w':World} (hr:(Builtin.copy_ #[dT,sT] o.type #[v,u]).run P W = .ok v' w') (hK:K (a.put o.dst v') w') :
  if Region.wanted o (yielded ops a.tmps)=true then Oper.wp P o a W K Q else E:=by
 have hw:Region.wanted o (yielded ops a.tmps)=true:=by simp [Region.wanted,hg]
 rw [if_pos hw];unfold Oper.wp;simp [execOp,hop,resolve,invoke,builtin,hd,hx,hr,Result.andThen];exact hK
theorem z0j0 {α:Type} [Enc α] {f e sz:Nat} (hn:Enc.n α=sz) (hpos:0<sz) (hen:En P f)
  (hroom:∀ (W:World) (g n cap i b off c:Nat) (vs cs:List Value),W.heap[g]? = some (.cells vs.toArray e (0,0))→n<cap→cap≤maxLen→vs.length=cap * sz→(∀ u ∈ vs.take (n * sz),u.oneCell'=true)→i<n→b≠g→cs.length=sz→(∀ j v,cs[j]? = some v→W.cell? ⟨b,off+j,none⟩=some v)→(∀ v ∈ cs,v.oneCell'=true) →
   Calls P f #[.slice (some ⟨g,0,none⟩) n cap,.int .i64 i,.slice (some ⟨b,off,none⟩) 1 c] W fun r W'=>r = .returned (.slice (some ⟨g,0,none⟩) (n+1) cap)∧W'=((W.drewN 1).setCells g ((i+1) * sz) ((vs.take (n * sz)).drop (i * sz))).setCells g (i * sz) cs)
  (hend:∀ (W:World) (base:Nat) (v:Value) (n b off c:Nat) (olds cs:List Value),W.ownsRow base e sz v n olds→base≤W.heap.size→n≤1000000→cs.length=sz→(∀ j v,cs[j]? = some v→W.cell? ⟨b,off+j,none⟩=some v)→(∀ v ∈ cs,v.oneCell'=true) →
   Calls P f #[v,.int .i64 n,.slice (some ⟨b,off,none⟩) 1 c] W fun r W'=>∃ v',r = .returned v'∧W'.ownsRow base e sz v' (n+1) (olds++cs)∧W.grownBy W' v.ownBlock∧(v'.ownBlock=v.ownBlock∨v'.ownBlock=some W.heap.size))
  (hgrow:∀ (W:World) (g n cap i b off c:Nat) (vs cs:List Value),W.heap[g]? = some (.cells vs.toArray e (0,0))→n=cap→n≤1000000→vs.length=cap * sz→(∀ u ∈ vs.take (n * sz),u.oneCell'=true)→i<n→cs.length=sz→(∀ j v,cs[j]? = some v→W.cell? ⟨b,off+j,none⟩=some v)→(∀ v ∈ cs,v.oneCell'=true) →
   Calls P f #[.slice (some ⟨g,0,none⟩) n cap,.int .i64 i,.slice (some ⟨b,off,none⟩) 1 c] W fun r W'=>∃ G,∃ row:List Value,n+1≤G∧G≤maxLen∧row.length=G * sz∧r = .returned (.slice (some ⟨W.heap.size,0,none⟩) (n+1) G)∧(∀ u ∈ row.take (i * sz),u.oneCell'=true)∧row.take (i * sz)=vs.take (i * sz) ∧
    W'=(((W.alloc (.cells row.toArray e)).drew.setCells W.heap.size (i * sz) cs).drew).setCells W.heap.size ((i+1) * sz) ((vs.take (n * sz)).drop (i * sz))) :
  Meets P (spD (fun x:List α × Int × List α=>0≤x.2.1∧x.2.1≤x.1.length∧x.1.length≤1000000∧x.2.2.length=1) fun x=>x.1.take x.2.1.toNat++x.2.2++x.1.drop x.2.1.toNat) f ⟨[.mine e sz,.one,.one],[(false,[.fresh e sz])],false⟩:=by
 refine ⟨fun h=>(by cases h),?_⟩;intro e' sz' ps hps;injection hps with h1 h2
 injection h1 with h1 h1'
 subst h1;subst h1';subst h2;intro W F base v xs cells ds args rs hF hbase hvF hxs hown hreps hargs hsp;obtain ⟨⟨l,i,ys⟩,⟨hi0,hil,hlm,hy1⟩,he,rfl⟩:=z9 hsp;have he':Dt.l sz xs::ds=Dt.l (Enc.n α) (l.map Enc.e)::[I i,.l (Enc.n α) (ys.map Enc.e)]:=he;injection he' with g1 g2
 injection g1 with g3 g1
 subst g2;subst g1;simp only at hi0 hil hlm hy1;obtain ⟨y,rfl⟩:=List.length_eq_one_iff.1 hy1;obtain ⟨va,vas,rfl,ha,hargs⟩:=z1j hargs;obtain ⟨vb,vbs,rfl,hb,hargs⟩:=z1j hargs;obtain rfl:=z2f hargs;obtain ⟨rfl,_⟩:=z3v ha;obtain ⟨a,rfl⟩:∃ a:Nat,i=a:=⟨i.toNat,by omega⟩
 have hlen:(l.map Enc.e).length=l.length:=zY15 _;have hyl:(Enc.e y).length=sz:=by rw [Enc.len,hn]
 rw [hlen] at hown;have hml:cells.length=l.length * sz:=hown.1;obtain ⟨b,off,c,cs,rfl,hFb,hcl,hcell,hcr⟩:∃ b off c,∃ cs:List Value,vb = .slice (some ⟨b,off,none⟩) 1 c∧F b∧cs.length=sz∧(∀ j v,cs[j]? = some v→W.cell? ⟨b,off+j,none⟩=some v)∧Reps W F (Enc.e y) cs:=by
  generalize hd:Dt.l (Enc.n α) ([y].map Enc.e)=d at hb
  cases hb with
  | l sz0 zs A n c b o vs k0 k1 k2 k3 k4 k5 k6 =>
   injection hd with e1 e2
   subst e2;obtain ⟨rfl,hFb⟩:=k4 (by simp);refine ⟨b,o,c,(List.range sz).map (vs 0),by rw [k0];rfl,hFb,by simp,fun j v hv=>?_,Reps.of (by simp [hyl]) fun j d v hd hv=>?_⟩
   ·obtain ⟨hj,rfl⟩:=z3h hv
    have h:=k5 0 j (Enc.e y) _ rfl (zY03 (by omega))
    rwa [Nat.zero_mul,zY21] at h
   ·obtain ⟨hj,rfl⟩:=z3h hv
    exact k6 0 j (Enc.e y) d rfl hd
  | _=>cases hd
 have hc1:∀ v ∈ cs,v.oneCell'=true:=hcr.one;refine ⟨(l.take a++[y]++l.drop a).map Enc.e,?_,fun x hx=>?_,?_⟩
 ·show [Dt.l (Enc.n α) _]=_
  rw [hn];rfl
 ·obtain ⟨z,_,rfl⟩:=zY2w.1 hx
  rw [Enc.len,hn]
 have hl2:((l.take a++[y]++l.drop a).map (Enc.e (α:=α))).length=l.length+1:=by
  rw [zY15,zY04,zY04,zY0d,zY10,zY19];omega
 have hflat:((l.take a++[y]++l.drop a).map (Enc.e (α:=α))).flatten=(l.map Enc.e).flatten.take (a * sz)++Enc.e y++(l.map Enc.e).flatten.drop (a * sz):=by
  rw [zY1t,zY1t,zY3p,List.map_drop,zY39,zY39,zig a hxs,zq1 a hxs];simp
 rw [hl2,hflat];have hle3:a * sz≤l.length * sz:=zY1p _ (by omega);have hnew:∀ {W':World},Agree F W W'→Reps W' F ((l.map Enc.e).flatten.take (a * sz)++Enc.e y++(l.map Enc.e).flatten.drop (a * sz)) (cells.take (a * sz)++cs++cells.drop (a * sz)):=fun hag=>(((hreps.take (a * sz)).append hcr).append (hreps.drop (a * sz))).mono hag (fun _ h=>h)
 have hnl:(cells.take (a * sz)++cs++cells.drop (a * sz)).length=(l.length+1) * sz:=by
  rw [zY04,zY04,zY0d,zY10,hcl,hml,zY25 hle3,zY1w];omega
 by_cases hend':a=l.length
 ·subst hend'
  refine .inl ⟨hen.run _ _,(hend W base v l.length b off c cells cs hown hbase (by omega) hcl hcell hc1).mono ?_⟩;rintro r W' ⟨v',rfl,q1,q2,q3⟩;have hag:Agree F W W':=fun k hk=>q2.block k (hF.1 k hk) fun h=>hvF k h.symm hk
  refine ⟨_,rfl,v',_,⟨fun h=>(by cases h),fun _=>rfl⟩,q2,?_,hnew hag,fun k hk=>?_⟩
  ·rw [zY0n (by omega),zY24 (by omega),zY27];exact q1
  ·rcases q3 with q3|q3
   ·exact .inl (q3 ▸ hk)
   ·rw [q3] at hk;injection hk with hk;exact .inr (zY32 hk)
 ·rcases hown.2 with ⟨rfl,h0⟩|⟨g,cap,cur,rfl,hbg,hg,h1,h2,hcs,htk⟩
  ·omega
  ·have hcs':cur.toList.length=cap * sz:=by simpa using hcs
   have hones:∀ u ∈ cur.toList.take (l.length * sz),u.oneCell'=true:=by rw [htk];exact hreps.one
   have hgF:¬ F g:=hvF g rfl;have hbg':b≠g:=fun h=>hgF (h ▸ hFb)
   have hg':W.heap[g]? = some (.cells cur.toList.toArray e (0,0)):=by simpa using hg
   have hal:a<l.length:=by omega
   have hmvl:((cur.toList.take (l.length * sz)).drop (a * sz)).length=(l.length - a) * sz:=by rw [htk,zY10,hml,Nat.sub_mul]
   have e1:(a+1) * sz=a * sz+sz:=zY1w ..;have e2:(a+1) * sz+(l.length - a) * sz=(l.length+1) * sz:=by rw [← Nat.add_mul];congr 1;omega
   have hsplit:∀ vs':List Value,(l.length+1) * sz≤vs'.length→vs'.take (a * sz)=cells.take (a * sz)→(z25 (z25 vs' ((a+1) * sz) ((cur.toList.take (l.length * sz)).drop (a * sz))) (a * sz) cs).take ((l.length+1) * sz)=cells.take (a * sz)++cs++cells.drop (a * sz):=by
    intro vs' hl' ht';have k1:a * sz+cs.length≤(z25 vs' ((a+1) * sz) ((cur.toList.take (l.length * sz)).drop (a * sz))).length:=by rw [z26];omega
    rw [za8 k1,za8 (by rw [hmvl];omega),hcl,hmvl,e2,htk];have k2:(vs'.take ((a+1) * sz)++cells.drop (a * sz)++vs'.drop ((l.length+1) * sz)).take (a * sz)=cells.take (a * sz):=by
     rw [zY1b,zY13 (by rw [zY0d];omega),zY31,zY25 (by omega),ht']
    have k3:(vs'.take ((a+1) * sz)++cells.drop (a * sz)++vs'.drop ((l.length+1) * sz)).drop (a * sz+sz)=cells.drop (a * sz)++vs'.drop ((l.length+1) * sz):=by
     rw [zY1b,List.drop_append,zY24 (by rw [zY0d];omega),zY0d,zY25 (by omega),e1,Nat.sub_self,zY0z,zY3d]
    rw [k2,k3,← zY1b,zY13 (by rw [hnl];omega),zY0n (by rw [hnl];omega)]
   rcases zY1n l.length cap with hr|hr
   ·have hcapm:(l.length+1) * sz≤cap * sz:=zY1p _ hr
    refine .inl ⟨hen.run _ _,(hroom W g l.length cap a b off c cur.toList cs hg' hr h2 hcs' hones hal hbg' hcl hcell hc1).mono ?_⟩;rintro r W' ⟨rfl,rfl⟩;have hfar:∀ k,k≠g→(((W.drewN 1).setCells g ((a+1) * sz) ((cur.toList.take (l.length * sz)).drop (a * sz))).setCells g (a * sz) cs).heap[k]? = W.heap[k]?:=by
     intro k hk;rw [z34 g _ _ _ k hk,z34 g _ _ _ k hk];rfl
    have hag:Agree F W (((W.drewN 1).setCells g ((a+1) * sz) ((cur.toList.take (l.length * sz)).drop (a * sz))).setCells g (a * sz) cs):=fun k hk=>hfar k fun h=>hgF (h ▸ hk)
    refine ⟨_,rfl,_,_,⟨fun h=>(by cases h),fun _=>rfl⟩,?_,⟨hnl,.inr ⟨g,cap,_,rfl,hbg,z2a cs (a * sz) _ _ (z2a _ ((a+1) * sz) (W.drewN 1) _ hg'),hr,h2,by rw [zY34,z26,z26];exact hcs',?_⟩⟩,hnew hag,fun _ h=>.inl h⟩
    ·obtain ⟨k1,k2,k3,k4⟩:=z4o g cs (a * sz) ((W.drewN 1).setCells g ((a+1) * sz) ((cur.toList.take (l.length * sz)).drop (a * sz)))
     obtain ⟨q1,q2,q3,q4⟩:=z4o g ((cur.toList.take (l.length * sz)).drop (a * sz)) ((a+1) * sz) (W.drewN 1);exact ⟨k1.trans q1,k2.trans q2,k3.trans q3,by rw [k4,q4];exact zY0p _,fun k hk hne=>hfar k fun h=>hne (by rw [h];rfl)⟩
    ·rw [zY2u]
     refine hsplit _ (by omega) ?_;rw [← htk,zY31,zY25 hle3]
   ·have hcap:l.length=cap:=by omega
    refine .inl ⟨hen.run _ _,(hgrow W g l.length cap a b off c cur.toList cs hg' hcap (by omega) hcs' hones hal hcl hcell hc1).mono ?_⟩;rintro r W' ⟨G,row,r1,r2,r3,rfl,r4,r5,rfl⟩;have hGm:(l.length+1) * sz≤G * sz:=zY1p _ r1;generalize hW0:(W.alloc (.cells row.toArray e)).drew=W0;have hs0:W0.heap.size=W.heap.size+1:=by rw [← hW0];show (W.heap.push _).size=_;simp
    have hn0:W0.heap[W.heap.size]? = some (.cells row.toArray e (0,0)):=by rw [← hW0];exact heap_alloc_new W _
    have ho0:∀ k,k<W.heap.size→W0.heap[k]? = W.heap[k]?:=fun k hk=>by
     rw [← hW0]
     show (W.alloc (.cells row.toArray e)).heap[k]? = _
     simp only [World.alloc,Array.getElem?_push,Nat.ne_of_lt hk,if_false]
    have hfar:∀ k,k<W.heap.size→(((W0.setCells W.heap.size (a * sz) cs).drew).setCells W.heap.size ((a+1) * sz) ((cur.toList.take (l.length * sz)).drop (a * sz))).heap[k]? = W.heap[k]?:=by
     intro k hk;rw [z34 _ _ _ _ k (by omega)]
     show (W0.setCells W.heap.size (a * sz) cs).heap[k]? = _
     rw [z34 _ _ _ _ k (by omega),ho0 k hk]
    obtain ⟨z1,z2,z3⟩:W0.os=W.os∧W0.tape=W.tape∧W0.output=W.output:=by rw [← hW0];exact ⟨rfl,rfl,rfl⟩
    have hag:Agree F W (((W0.setCells W.heap.size (a * sz) cs).drew).setCells W.heap.size ((a+1) * sz) ((cur.toList.take (l.length * sz)).drop (a * sz))):=fun k hk=>hfar k (hF.1 k hk)
    have hheap:=z2a ((cur.toList.take (l.length * sz)).drop (a * sz)) ((a+1) * sz) ((W0.setCells W.heap.size (a * sz) cs).drew) _ (z2a cs (a * sz) W0 _ hn0);refine ⟨_,rfl,_,_,⟨fun h=>(by cases h),fun _=>rfl⟩,?_,⟨hnl,.inr ⟨W.heap.size,G,_,rfl,hbase,hheap,r1,r2,by rw [zY34,z26,z26];exact r3,?_⟩⟩,hnew hag,fun k hk=>?_⟩
    ·obtain ⟨k1,k2,k3,k4⟩:=z4o W.heap.size ((cur.toList.take (l.length * sz)).drop (a * sz)) ((a+1) * sz) ((W0.setCells W.heap.size (a * sz) cs).drew)
     obtain ⟨q1,q2,q3,q4⟩:=z4o W.heap.size cs (a * sz) W0;refine ⟨k1.trans (q1.trans z1),k2.trans (q2.trans z2),k3.trans (q3.trans z3),?_,fun k hk hne=>hfar k hk⟩;rw [k4]
     show W.heap.size≤(W0.setCells W.heap.size (a * sz) cs).heap.size
     rw [q4,hs0];omega
    ·rw [zY2u]
     have hswap:z25 (z25 row (a * sz) cs) ((a+1) * sz) ((cur.toList.take (l.length * sz)).drop (a * sz))=z25 (z25 row ((a+1) * sz) ((cur.toList.take (l.length * sz)).drop (a * sz))) (a * sz) cs:=by
      have hL:a * sz+cs.length≤row.length:=by omega
      have hR:(a+1) * sz+((cur.toList.take (l.length * sz)).drop (a * sz)).length≤row.length:=by rw [hmvl];omega
      rw [za8 (vs:=z25 row (a * sz) cs) (by rw [z26];exact hR),za8 hL,za8 (vs:=z25 row ((a+1) * sz) _) (by rw [z26];exact hL),za8 hR];have t1:(row.take (a * sz)++cs++row.drop (a * sz+cs.length)).take ((a+1) * sz)=row.take (a * sz)++cs:=by
       rw [zY13 (by rw [zY04,zY0d];omega),zY0n (by rw [zY04,zY0d];omega)]
      have t2:(row.take (a * sz)++cs++row.drop (a * sz+cs.length)).drop ((a+1) * sz+((cur.toList.take (l.length * sz)).drop (a * sz)).length)=row.drop ((a+1) * sz+((cur.toList.take (l.length * sz)).drop (a * sz)).length):=by
       rw [List.drop_append,zY24 (by rw [zY04,zY0d];omega),zY0z,zY33];congr 1;rw [zY04,zY0d];omega
      have t3:(row.take ((a+1) * sz)++((cur.toList.take (l.length * sz)).drop (a * sz))++row.drop ((a+1) * sz+((cur.toList.take (l.length * sz)).drop (a * sz)).length)).take (a * sz)=row.take (a * sz):=by
       rw [zY1b,zY13 (by rw [zY0d];omega),zY31,zY25 (by omega)]
      have t4:(row.take ((a+1) * sz)++((cur.toList.take (l.length * sz)).drop (a * sz))++row.drop ((a+1) * sz+((cur.toList.take (l.length * sz)).drop (a * sz)).length)).drop (a * sz+cs.length)=((cur.toList.take (l.length * sz)).drop (a * sz))++row.drop ((a+1) * sz+((cur.toList.take (l.length * sz)).drop (a * sz)).length):=by
       rw [zY1b,List.drop_append,zY24 (by rw [zY0d];omega),zY0z,zY0d,zY25 (by omega),hcl,e1,Nat.sub_self,zY3d]
      rw [t1,t2,t3,t4,zY1b,zY1b]
     rw [hswap];refine hsplit _ (by omega) ?_;rw [r5,← htk,zY31,zY25 hle3]
    ·simp only [Value.ownBlock,zY00] at hk
     exact .inr (zY32 hk)
end
end
section
open Go.RowKit
set_option maxRecDepth 100000
set_option maxHeartbeats 4000000
theorem z0o8 {W:World} {g n cap i j:Nat} {vs:List Value} (hg:W.heap[g]? = some (.cells vs.toArray 83 (0,0))) (hn:n≤cap) (hm:cap≤maxLen) (hcs:vs.length=cap * 6) (h1:∀ u ∈ vs.take (n * 6),u.oneCell'=true) (hij:i<j) (hj:j≤n) :
  Calls Tryz.prog 193 #[.slice (some ⟨g,0,none⟩) n cap,.int .i64 i,.int .i64 j] W fun e w'=>e = .returned (.slice (some ⟨g,0,none⟩) (n - (j - i)) cap) ∧
   w'=((W.drewN 1).setCells g (i * 6) ((vs.take (n * 6)).drop (j * 6))).setCells g ((i+(n - j)) * 6) (Builtin.zeroCells #[.int .i64 0,.int .i64 0,.int .i64 0,.slice none 0 0,.int .i64 0,.bool false] (j - i)).toList:=by
 have hm':cap≤9223372036854775807:=hm;obtain ⟨news,hnews⟩:∃ news,news=(vs.take (n * 6)).drop (j * 6):=⟨_,rfl⟩
 have hlen:news.length=(n - j) * 6:=by rw [hnews,zY10,zY0d];omega
 have hg1:W.drew.heap[g]? = some (.cells vs.toArray 83 (0,0)):=hg;obtain ⟨A,hA,hsrc⟩:∃ A:Addr,(if cap=j then some (⟨g,0,none⟩:Addr) else some ⟨g,j * 6,none⟩)=some A∧Hid (∀ t u,news[t]? = some u→W.drew.cell? (A.add t)=some u):=by
  by_cases h:cap=j
  ·refine ⟨⟨g,0,none⟩,by simp [h],fun t u hu=>?_⟩
   have:=(zY02.1 hu).1;omega
  ·refine ⟨⟨g,j * 6,none⟩,by simp [h],fun t u hu=>?_⟩
   have ht:=(zY02.1 hu).1;rw [hnews,zY1e,zY18,if_pos (by omega)] at hu;rw [z55,cell_of_row _ g _ _ 83 (0,0) hg1];simpa using hu
 have s1:Hid (news.length=(n - j) * 6):=hlen;have s2:Hid (∀ u ∈ news,u.oneCell'=true):=by
  intro u hu;rw [hnews] at hu;exact h1 u (zY23 hu)
 have s3:Hid (∀ t,t<news.length→(W.drew.cell? ⟨g,0+i * 6+t,none⟩).isSome=true∧W.drew.frozen? ⟨g,0+i * 6+t,none⟩=false):=by
  intro t ht;have:=zgi (fr:=(0,0)) hg1 (o:=0+i * 6) (n:=news.length) (by omega);exact this t ht
 obtain ⟨W1,hW1⟩:∃ W1,W1=W.drew.setCells g (0+i * 6) news:=⟨_,rfl⟩
 have hg2:W1.heap[g]? = some (.cells (z25 vs (0+i * 6) news).toArray 83 (0,0)):=by rw [hW1];exact z2a _ _ _ _ hg1
 have hcl:∀ ty,(Builtin.clear_ #[76] ty #[.slice (some ⟨g,(i+(n - j)) * 6,none⟩) (n - (i+(n - j))) (cap - (i+(n - j)))]).run Tryz.prog W1 = .ok (.tuple #[]) (W1.setCells g ((i+(n - j)) * 6) (Builtin.zeroCells #[.int .i64 0,.int .i64 0,.int .i64 0,.slice none 0 0,.int .i64 0,.bool false] (n - (i+(n - j)))).toList) :=
  fun ty=>zuz (sz:=6) Tryz.underlying76 Tryz.zeroValue83 rfl (by simp [Value.cells,Value.oneCell']) hg2 (by rw [z26];omega)
 have hW:Hid (W1=W.drew.setCells g (0+i * 6) news):=hW1;have hic:i≤cap:=by omega
 have hjc:j≤cap:=by omega
 have hnews:=Lib.hid hnews;clear hW1 hg2 hg hg1 hlen;go_enter Tryz.func193,Tryz.ntmps193;go_wp2_with fail;obtain ⟨ht,ie,zv,he,hz0,hsz,hbz,hzs⟩:=zs2;go_region_law (refine step_append_room rfl (.tmp 22) (.tmp 25) 76 rfl 83 ie 6 ht he hsz g 0 i cap (by simp [Act.eval,Act.put]) A (n - j) (cap - j) news (by simp [Act.eval,Act.put,hA]) s1.out hsrc.out s2.out (by omega) s3.out ?_;rw [← hW.out]);go_wp2;go_ret;refine ⟨by rw [show n - (j - i)=i+(n - j) by omega];rfl,?_⟩;rw [hW.out,zY0s,hnews.out,show n - (i+(n - j))=j - i by omega];rfl
theorem z0o9 {W:World} {A:Option Addr} {n cap i:Nat} (hi:i≤n) (hn:n≤cap) (hm:cap≤maxLen):Calls Tryz.prog 193 #[.slice A n cap,.int .i64 i,.int .i64 i] W fun r W'=>r = .returned (.slice A n cap)∧W'=W:=by
 have hm':cap≤9223372036854775807:=hm;have hic:i≤cap:=by omega
 go_enter Tryz.func193,Tryz.ntmps193;go_wp2_with fail
 all_goals (go_ret;exact ⟨rfl,rfl⟩)
noncomputable def zdi:z7:=spD (fun x:List Coin × Int × Int=>0≤x.2.1∧x.2.1≤x.2.2∧x.2.2≤x.1.length) fun x=>x.1.take x.2.1.toNat++x.1.drop x.2.2.toNat
theorem z0j1:Meets Tryz.prog zdi 193 ⟨[.mine 83 6,.one,.one],[(false,[.fresh 83 6])],false⟩ :=
 zv0 rfl (by decide) (z2h (fn:=Tryz.f193) (by kernel_rfl) (by kernel_rfl) (by kernel_rfl)) #[.int .i64 0,.int .i64 0,.int .i64 0,.slice none 0 0,.int .i64 0,.bool false] rfl (fun W A n cap i h1 h2 h3=>z0o9 h1 h2 h3) (fun W g n cap i j vs h1 h2 h3 h4 h5 h6 h7=>z0o8 h1 h2 h3 h4 h5 h6 h7)
end
section
open Go.RowKit
set_option maxRecDepth 100000
set_option maxHeartbeats 4000000
theorem z0oa {W:World} {g o b off la ca lb cb:Nat} {vs:List Value} (hg:W.heap[g]? = some (.cells vs.toArray 83 (0,0))) (hvs:0<vs.length) (hne:b≠g) {u:Value} (hb:W.cell? ⟨b,off,none⟩=some u) :
  (callFunc 196 #[.slice (some ⟨b,off,none⟩) la ca,.slice (some ⟨g,o,none⟩) lb cb]).run Tryz.prog W = .ok (.value (.bool false)) W:=by
 rw [run_callFunc_extern Tryz.func196 (by kernel_rfl) (by kernel_rfl) (by kernel_rfl) (e:=Extern.SlicesOverlaps.overlaps #[76,76] #[4]) (by kernel_rfl),
  z03m (e:=83) (sz:=6) Tryz.underlying76 Tryz.sizeOf83 hg hvs hne hb]
 rfl
theorem z0ob {W:World} {g n cap i b off c:Nat} {vs cs:List Value} (hg:W.heap[g]? = some (.cells vs.toArray 83 (0,0))) (hn:n<cap) (hm:cap≤maxLen) (hcs:vs.length=cap * 6) (h1:∀ u ∈ vs.take (n * 6),u.oneCell'=true) (hi:i<n) (hne:b≠g) (hcl:cs.length=6) (hb:∀ j v,cs[j]? = some v→W.cell? ⟨b,off+j,none⟩=some v) (h1c:∀ v ∈ cs,v.oneCell'=true) :
  Calls Tryz.prog 184 #[.slice (some ⟨g,0,none⟩) n cap,.int .i64 i,.slice (some ⟨b,off,none⟩) 1 c] W fun r W'=>r = .returned (.slice (some ⟨g,0,none⟩) (n+1) cap)∧W'=((W.drewN 1).setCells g ((i+1) * 6) ((vs.take (n * 6)).drop (i * 6))).setCells g (i * 6) cs:=by
 have hm':cap≤9223372036854775807:=hm;obtain ⟨mv,hmv⟩:∃ mv,mv=(vs.take (n * 6)).drop (i * 6):=⟨_,rfl⟩
 have hlen:mv.length=(n - i) * 6:=by rw [hmv,zY10,zY0d];omega
 have hg1:W.drew.heap[g]? = some (.cells vs.toArray 83 (0,0)):=hg;obtain ⟨u0,hu0⟩:∃ u,W.cell? ⟨b,off,none⟩=some u:=by
  have h:=hb 0 (cs[0]'(by omega)) (zY03 (by omega));exact ⟨_,h⟩
 have hov:∀ lb cb,(callFunc 196 #[.slice (some ⟨b,off,none⟩) 1 c,.slice (some ⟨g,(i+1) * 6,none⟩) lb cb]).run Tryz.prog W = .ok (.value (.bool false)) W:=fun lb cb=>z0oa hg (by omega) hne hu0
 have hsz:(Tryz.prog.info? 83).map (·.size)=some 6:=by kernel_rfl
 have hcp1:∀ ty dc sc,(Builtin.copy_ #[76,76] ty #[.slice (some ⟨g,(i+1) * 6,none⟩) (n - i) dc,.slice (some ⟨g,i * 6,none⟩) (n+1 - i) sc]).run Tryz.prog W.drew = .ok (goInt (Nat.min (n+1 - i) (n - i):Nat)) (W.drew.setCells g ((i+1) * 6) mv):=fun ty dc sc =>
  zif Tryz.underlying76 hsz hg1 (by rw [hlen];show _=min _ _ * 6;rw [Nat.min_def];split <;> omega) (fun j v hj=>by
   rw [z55,cell_of_row _ g _ _ 83 (0,0) hg1];have hlt:=(zY02.1 hj).1;rw [hmv,zY1e,zY18,if_pos (by omega)] at hj;simpa using hj) (by omega) (fun v hv=>h1 v (by rw [hmv] at hv;exact zY23 hv))
 obtain ⟨W1,hW1⟩:∃ W1,W1=W.drew.setCells g ((i+1) * 6) mv:=⟨_,rfl⟩
 have hg2:W1.heap[g]? = some (.cells (z25 vs ((i+1) * 6) mv).toArray 83 (0,0)):=by rw [hW1];exact z2a _ _ _ _ hg1
 have hcp2:∀ ty dc,(Builtin.copy_ #[76,76] ty #[.slice (some ⟨g,i * 6,none⟩) (n+1 - i) dc,.slice (some ⟨b,off,none⟩) 1 c]).run Tryz.prog W1 = .ok (goInt (Nat.min 1 (n+1 - i):Nat)) (W1.setCells g (i * 6) cs):=fun ty dc =>
  zif Tryz.underlying76 hsz hg2 (by rw [hcl];show _=min _ _ * 6;rw [Nat.min_def];split <;> omega) (fun j v hj=>by
   rw [z55,hW1,z0iy hne];exact hb j v hj) (by rw [z26];omega) h1c
 rw [← hW1] at hcp1;have hw1:IntKind.i64.wrap ((i:Int)+1)=(i:Int)+1:=by rw [IntKind.wrap_i64];omega
 have hw2:IntKind.i64.wrap ((n:Int)+1)=(n:Int)+1:=by rw [IntKind.wrap_i64];omega
 have hz2:¬ ((i:Int)=(n:Int)):=by omega
 have hp1:(i:Int)≤(n:Int)+1:=by omega
 have hp0:(0:Int)≤(i:Int)+1:=by omega
 have hb1:¬ (cap=i+1):=by omega
 have hb4:¬ (cap=i):=by omega
 have hin:i≤n:=by omega
 have hic:i≤cap:=by omega
 have hW:=Lib.hid hW1;have hmv':=Lib.hid hmv;clear hmv hlen hg hg1 hg2 hW1 hcs h1 hb h1c hcl hu0;go_enter Tryz.func184,Tryz.ntmps184;go_wp2_with (simp only [hov]);go_region_law (refine zml rfl _ _ 76 76 rfl _ _ (by simp [Act.eval,Act.put]) (by simp [Act.eval,Act.put]) (hcp1 _ _ _) ?_);go_wp2_with (at_builtin;refine zx3 rfl _ _ 76 76 rfl _ _ rfl rfl (hcp2 _ _) ?_);go_ret;refine ⟨rfl,?_⟩;rw [hW.out,hmv'.out];rfl
theorem z0rv {W:World} {base:Nat} {v:Value} {n b off c:Nat} {olds cs:List Value} (hown:W.ownsRow base 83 6 v n olds) (hbase:base≤W.heap.size) (hn:n≤1000000) (hcl:cs.length=6) (hb:∀ j v,cs[j]? = some v→W.cell? ⟨b,off+j,none⟩=some v) (h1c:∀ v ∈ cs,v.oneCell'=true) :
  Calls Tryz.prog 184 #[v,.int .i64 n,.slice (some ⟨b,off,none⟩) 1 c] W fun r W'=>∃ v',r = .returned v'∧W'.ownsRow base 83 6 v' (n+1) (olds++cs)∧W.grownBy W' v.ownBlock∧(v'.ownBlock=v.ownBlock∨v'.ownBlock=some W.heap.size):=by
 obtain ⟨ht,ie,zv,he,hz0,hsz,hbz,hzs⟩:=zs2;have hrun:∀ ty,∃ v' W',(Builtin.append_ #[76,76] ty #[v,.slice (some ⟨b,off,none⟩) 1 c]).run Tryz.prog W = .ok v' W'∧W'.ownsRow base 83 6 v' (n+1) (olds++cs)∧W.grownBy W' v.ownBlock∧(v'.ownBlock=v.ownBlock∨v'.ownBlock=some W.heap.size):=fun ty=>by
  obtain ⟨v',W',hr,h2,h3,_,h5⟩:=run_append_own_at (P:=Tryz.prog) W base 76 ty 83 ie zv 6 64 ht he hz0 hsz hbz hzs (by decide) v n olds hown ⟨b,off,none⟩ 1 c cs (by omega) (fun j u hj=>by rw [z55];exact hb j u hj) h1c (by unfold maxLen;omega) (by omega) hbase;exact ⟨v',W',hr,h2,h3,h5⟩
 obtain ⟨v',W',hr,h2,h3,h4⟩:=hrun 76;have hv:∃ A cap,v = .slice A n cap∧n≤cap∧cap≤maxLen:=by
  rcases hown.2 with ⟨rfl,h0⟩|⟨g,cap,cur,rfl,_,_,h1,h2,_⟩
  ·exact ⟨none,0,by rw [h0],by omega,by unfold maxLen;omega⟩
  ·exact ⟨_,cap,rfl,h1,h2⟩
 obtain ⟨A,cap,rfl,hc1,hc2⟩:=hv;have hc3:cap≤9223372036854775807:=hc2;have R:=Lib.hid (And.intro h2 (And.intro h3 h4));clear h2 h3 h4 hown hrun hb h1c hcl hbase;go_enter Tryz.func184,Tryz.ntmps184;go_wp2_with (at_builtin;refine Lib.wpList_append_run _ rfl _ _ _ _ rfl _ _ rfl rfl _ _ hr ?_)
 all_goals (go_ret;have R':=R.out;first|exact ⟨v',rfl,R'⟩|(subst_vars;exact ⟨v',rfl,R'⟩))
theorem z0oc {W:World} {g n cap i b off c:Nat} {vs cs:List Value} (hg:W.heap[g]? = some (.cells vs.toArray 83 (0,0))) (hn:n=cap) (hm:n≤1000000) (hcs:vs.length=cap * 6) (h1:∀ u ∈ vs.take (n * 6),u.oneCell'=true) (hi:i<n) (hcl:cs.length=6) (hb:∀ j v,cs[j]? = some v→W.cell? ⟨b,off+j,none⟩=some v) (h1c:∀ v ∈ cs,v.oneCell'=true) :
  Calls Tryz.prog 184 #[.slice (some ⟨g,0,none⟩) n cap,.int .i64 i,.slice (some ⟨b,off,none⟩) 1 c] W fun r W'=>∃ G,∃ row:List Value,n+1≤G∧G≤maxLen∧row.length=G * 6∧r = .returned (.slice (some ⟨W.heap.size,0,none⟩) (n+1) G)∧(∀ u ∈ row.take (i * 6),u.oneCell'=true)∧row.take (i * 6)=vs.take (i * 6) ∧
   W'=(((W.alloc (.cells row.toArray 83)).drew.setCells W.heap.size (i * 6) cs).drew).setCells W.heap.size ((i+1) * 6) ((vs.take (n * 6)).drop (i * 6)):=by
 obtain ⟨ht,ie,zv,he,hz0,hszI,hbz,hzs⟩:=zs2;have hz1:¬ ((1:Int)=0):=by decide
 have hz2:¬ ((i:Int)=(n:Int)):=by omega
 have hz3:(cap:Int)<(n:Int)+1:=by omega
 have hsz:(Tryz.prog.info? 83).map (·.size)=some 6:=by kernel_rfl
 have hgl:g<W.heap.size:=by
  rcases zY1n g W.heap.size with h|h
  ·exact h
  ·rw [zY16 h] at hg;cases hg
 have hbl:b<W.heap.size:=block_lt_of_cell (hb 0 _ (zY03 (by omega)));have hkk:(n:Int)+1 - (i:Int)=((n+1 - i:Nat):Int):=by omega
 have hik:i+(n+1 - i)=n+1:=by omega
 have hg1:W.drew.heap[g]? = some (.cells vs.toArray 83 (0,0)):=hg;have hold:(Builtin.firstCells ie.size i (.slice (some ⟨g,0,none⟩) i cap)).run Tryz.prog W.drew = .ok (vs.take (i * 6)).toArray W.drew:=by
  rw [hszI];exact run_firstCells_some W.drew 6 i ⟨g,0,none⟩ i cap (vs.take (i * 6)) (by rw [zY0d];omega) (fun j v hj=>by
   rw [z55,cell_of_row _ g _ _ 83 (0,0) hg1];rw [zY18] at hj
   split at hj
   ·simpa using hj
   ·cases hj)
 have hrz:∀ ty,(Builtin.append_ #[76,3] ty #[.slice (some ⟨g,0,none⟩) i cap,.int .i64 ((n:Int)+1 - (i:Int))]).run Tryz.prog W =
   .ok (.slice (some ⟨W.heap.size,0,none⟩) (n+1) (grownCap W (n+1) cap 83)) (W.drew.alloc (.cells ((vs.take (i * 6)).toArray++Builtin.zeroCells zv.cells (n+1 - i)++Builtin.zeroCells zv.cells (grownCap W (n+1) cap 83 - (n+1))) 83)):=fun ty=>by
  have h:=Lib.run_append_grow_zeros W 76 3 ty 83 ie zv .i64 .i64 ht Tryz.underlying3 he hz0 (some ⟨g,0,none⟩) i cap (vs.take (i * 6)) hold (n+1 - i) (by omega) (by omega) (by omega) (by omega) (by rw [hbz];omega) (by rw [hbz,hik];exact growslice_fits (by omega) (by omega));rw [hik] at h;rw [hkk];exact h
 obtain ⟨G,hG⟩:∃ G,G=grownCap W (n+1) cap 83:=⟨_,rfl⟩
 obtain ⟨row,hrow⟩:∃ row:List Value,row=vs.take (i * 6)++(Builtin.zeroCells zv.cells (n+1 - i)).toList++(Builtin.zeroCells zv.cells (G - (n+1))).toList:=⟨_,rfl⟩
 have hrowA:row.toArray=(vs.take (i * 6)).toArray++Builtin.zeroCells zv.cells (n+1 - i)++Builtin.zeroCells zv.cells (G - (n+1)):=by rw [hrow];simp
 rw [← hG,← hrowA] at hrz;have hGn:n+1≤G:=by rw [hG];exact grownCap_ge W _ _ _
 have hGm:G≤maxLen:=by rw [hG];exact grownCap_le_maxLen W (n+1) cap 83 (by unfold maxLen;omega)
 have hG63:G≤9223372036854775807:=hGm;have hrl:row.length=G * 6:=by
  rw [hrow];simp only [zY04,zY0d,zY38,Builtin.zeroCells,Array.size_map,Array.size_range,hzs];omega
 have hrt:row.take (i * 6)=vs.take (i * 6):=by
  rw [hrow,zY1b,zY13 (by rw [zY0d];omega),zY31,Nat.min_self]
 obtain ⟨mv,hmv⟩:∃ mv,mv=(vs.take (n * 6)).drop (i * 6):=⟨_,rfl⟩
 have hlen:mv.length=(n - i) * 6:=by rw [hmv,zY10,zY0d];omega
 have hcpA:∀ (W':World),W'.heap[W.heap.size]? = some (.cells row.toArray 83 (0,0))→(∀ k v,W.cell? ⟨b,k,none⟩=some v→W'.cell? ⟨b,k,none⟩=some v)→∀ ty dc,(Builtin.copy_ #[76,76] ty #[.slice (some ⟨W.heap.size,i * 6,none⟩) (n+1 - i) dc,.slice (some ⟨b,off,none⟩) 1 c]).run Tryz.prog W' = .ok (goInt (Nat.min 1 (n+1 - i):Nat)) (W'.setCells W.heap.size (i * 6) cs):=fun W' h1' h2' ty dc =>
  zif ht hsz h1' (by rw [hcl];show _=min _ _ * 6;rw [Nat.min_def];split <;> omega) (fun j v hj=>by rw [z55];exact h2' _ v (hb j v hj)) (by omega) h1c
 have hcpB:∀ (W':World) (vs':List Value),vs'.length=G * 6→W'.heap[W.heap.size]? = some (.cells vs'.toArray 83 (0,0))→W'.heap[g]? = some (.cells vs.toArray 83 (0,0))→∀ ty dc sc,(Builtin.copy_ #[76,76] ty #[.slice (some ⟨W.heap.size,(i+1) * 6,none⟩) (n - i) dc,.slice (some ⟨g,i * 6,none⟩) (n - i) sc]).run Tryz.prog W' = .ok (goInt (Nat.min (n - i) (n - i):Nat)) (W'.setCells W.heap.size ((i+1) * 6) mv):=fun W' vs' hl' h1' h2' ty dc sc =>
  zif ht hsz h1' (by rw [hlen];show _=min _ _ * 6;rw [Nat.min_def];split <;> omega) (fun j v hj=>by
   rw [z55,cell_of_row _ g _ _ 83 (0,0) h2'];have hlt:=(zY02.1 hj).1;rw [hmv,zY1e,zY18,if_pos (by omega)] at hj;simpa using hj) (by omega) (fun v hv=>h1 v (by rw [hmv] at hv;exact zY23 hv))
 have hA:=hcpA ((W.alloc (.cells row.toArray 83)).drew) (heap_alloc_new W _) (fun k v h=>zmk _ h);have hA':=hcpA (W.drew.alloc (.cells row.toArray 83)) (heap_alloc_new W.drew _) (fun k v h=>zmk (W:=W.drew) _ h);have hgold:(W.alloc (.cells row.toArray 83)).heap[g]? = some (.cells vs.toArray 83 (0,0)):=by
  have:(W.alloc (.cells row.toArray 83)).heap[g]? = W.heap[g]?:=by simp only [World.alloc,Array.getElem?_push,Nat.ne_of_lt hgl,if_false]
  rw [this];exact hg
 have hB:=hcpB (((W.alloc (.cells row.toArray 83)).drew.setCells W.heap.size (i * 6) cs).drew) (z25 row (i * 6) cs) (by rw [z26,hrl]) (z2a _ _ (W.alloc (.cells row.toArray 83)).drew _ (heap_alloc_new W _)) (by
  show ((W.alloc (.cells row.toArray 83)).drew.setCells W.heap.size (i * 6) cs).heap[g]? = _
  rw [z34 _ _ _ _ _ (by omega)];exact hgold)
 have hw1:IntKind.i64.wrap ((i:Int)+1)=(i:Int)+1:=by rw [IntKind.wrap_i64];omega
 have hw2:IntKind.i64.wrap ((n:Int)+1)=(n:Int)+1:=by rw [IntKind.wrap_i64];omega
 have hp1:(i:Int)≤(n:Int)+1:=by omega
 have hp0:(0:Int)≤(i:Int)+1:=by omega
 have hGi:¬ (G=i):=by omega
 have hGi1:¬ (G=i+1):=by omega
 have hci:¬ (cap=i):=by omega
 have hin:i≤n:=by omega
 have R:Hid (n+1≤G∧G≤maxLen∧row.length=G * 6∧(∀ u ∈ row.take (i * 6),u.oneCell'=true)∧row.take (i * 6)=vs.take (i * 6)∧mv=(vs.take (n * 6)).drop (i * 6)):=Lib.hid ⟨hGn,hGm,hrl,fun u hu=>h1 u (by rw [hrt] at hu;exact (List.take_sublist_take_left (by omega)).subset hu),hrt,hmv⟩;have hic:i≤cap:=by omega
 have hn':=Lib.hid hn;clear hn hmv hlen hg hg1 hgold hcs h1 hb h1c hcl hcpA hcpB hrt hrl hrow hrowA hG hGm hold hkk hik;go_enter Tryz.func184,Tryz.ntmps184;go_wp2_with ((at_builtin;refine Lib.wpList_append_run _ rfl _ _ _ _ rfl _ _ rfl rfl _ _ (hrz _) ?_));go_region_law (refine zml rfl _ _ 76 76 rfl _ _ (by simp [Act.eval,Act.put]) (by simp [Act.eval,Act.put]) (hB _ _ _) ?_);go_wp2;go_ret;obtain ⟨r1,r2,r3,r4,r5,r6⟩:=R.out;exact ⟨G,row,r1,r2,r3,rfl,r4,r5,by rw [r6]⟩
noncomputable def zdj:z7:=spD (fun x:List Coin × Int × List Coin=>0≤x.2.1∧x.2.1≤x.1.length∧x.1.length≤1000000∧x.2.2.length=1) fun x=>x.1.take x.2.1.toNat++x.2.2++x.1.drop x.2.1.toNat
theorem z0j2:Meets Tryz.prog zdj 184 ⟨[.mine 83 6,.one,.one],[(false,[.fresh 83 6])],false⟩ :=
 z0j0 rfl (by decide) (z2h (fn:=Tryz.f184) (by kernel_rfl) (by kernel_rfl) (by kernel_rfl)) (fun W g n cap i b off c vs cs h1 h2 h3 h4 h5 h6 h7 h8 h9 h10=>z0ob h1 h2 h3 h4 h5 h6 h7 h8 h9 h10) (fun W base v n b off c olds cs h1 h2 h3 h4 h5 h6=>z0rv h1 h2 h3 h4 h5 h6) (fun W g n cap i b off c vs cs h1 h2 h3 h4 h5 h6 h7 h8 h9=>z0oc h1 h2 h3 h4 h5 h6 h7 h8 h9)
end
section
open Go.RowKit
set_option maxRecDepth 100000
set_option maxHeartbeats 4000000
theorem zx4 (l:List Coin) (i j:Int) (h:0≤i∧i≤j∧j≤l.length):zdi [.l 6 (l.map z04),I i,I j]=some [.l 6 ((l.take i.toNat++l.drop j.toNat).map z04)]:=za (p:=fun x:List Coin × Int × Int=>0≤x.2.1∧x.2.1≤x.2.2∧x.2.2≤x.1.length) (f:=fun x:List Coin × Int × Int=>x.1.take x.2.1.toNat++x.1.drop x.2.2.toNat) (l,i,j) h
theorem zj3 (l:List Coin) (i:Int) (c:Coin) (h:0≤i∧i≤l.length∧l.length≤1000000):zdj [.l 6 (l.map z04),I i,.l 6 ([c].map z04)]=some [.l 6 ((l.take i.toNat++[c]++l.drop i.toNat).map z04)]:=za (p:=fun x:List Coin × Int × List Coin=>0≤x.2.1∧x.2.1≤x.1.length∧x.1.length≤1000000∧x.2.2.length=1) (f:=fun x:List Coin × Int × List Coin=>x.1.take x.2.1.toNat++x.2.2++x.1.drop x.2.1.toNat) (l,i,[c]) ⟨h.1,h.2.1,h.2.2,rfl⟩
noncomputable def z66:z7:=spD (fun _:List Coin × Tx × Int × Int=>True) fun x=>zw x.1 x.2.1 x.2.2.1 x.2.2.2
theorem zd1 (l:List Coin) (t:Tx) (nm h:Int):z66 [.l 6 (l.map z04),I t.height,.l 3 (t.ins.map eIn),.l 2 (t.outs.map z0z),I nm,I h]=some [.l 6 ((zw l t nm h).1.map z04),.l 6 ((zw l t nm h).2.1.map z04),I (zw l t nm h).2.2]:=za (f:=fun x:List Coin × Tx × Int × Int=>zw x.1 x.2.1 x.2.2.1 x.2.2.2) (l,t,nm,h) trivial
theorem z0cs {a b:Dt} {n:Int} {pk:List PK} {l:Bool} {g:Bool}:z87 ⟨pk,[(false,[.pure]),(g,[.pure]),(false,[.scal])],l⟩ [a,b,I n]:=by
 intro i d hi hd
 match i,hi,hd with
 | 0,hi,_=>simp [z06] at hi
 | 1,hi,_=>simp [z06] at hi
 | 2,_,hd=>simp only [zY2r,zY05,zY00] at hd;subst hd;rfl
 | i+3,hi,_=>simp [z06] at hi
attribute [local irreducible] z0i spD z35 z00 zj z63 z1u z62 zo
theorem zx5 (t:Tx):z60 [I t.height,.l 3 (t.ins.map eIn),.l 2 (t.outs.map z0z)]=some [I (zj t)]:=za (f:=fun t:Tx=>zj t) t trivial
def z07p:T :=
 .lets [.bin .add 28 (zI 1)] [] (.lets [.call 14 [22,28,44] 0] [] (.lets [.bin .add 23 (zI 1)] [] (.again 0 [19,20,43,45,.v
 46])))
def z07q:T :=
 .ite 41 (.ret [.c (.nil 6),.c (.nil 6),zI 8]) (.lets [.mk 6 [[31,32,33,34,35,36]]] [] (.lets [.app 6 21 42] [] z07p))
def z07r:T :=
 .ite 38 (.ret [.c (.nil 6),.c (.nil 6),zI 10]) (.lets [.call 16 [34,27,5] 0,.call 16 [34,27,5] 1] [] (.lets [.not 39] [] z07q))
def z07s:T :=
 .lets [.bin .add 28 (zI 1)] [] (.lets [.call 14 [22,28,42] 0] [] (.lets [.bin .add 23 (zI 1)] [] (.again 0 [19,20,41,43,.v
 44])))
def z07t:T :=
 .ite 39 (.ret [.c (.nil 6),.c (.nil 6),zI 8]) (.lets [.mk 6 [[31,32,33,34,35,36]]] [] (.lets [.app 6 21 40] [] z07s))
def z07u:T :=
 .ite 36 (.lets [.bin .add 35 (zI 2)] [] (.lets [.bin .lss 5 37] [] z07r)) (.lets [.call 16 [34,27,5] 0,.call 16 [34,27,5]
 1] [] (.lets [.not 37] [] z07t))
def z07v:T :=
 .lets [.idx 22 28 0,.idx 22 28 1,.idx 22 28 2,.idx 22 28 3,.idx 22 28 4,.idx 22 28 5] [] z07u
def z07w:T :=
 .lets [.call 6 [22,25,26] 0,.call 6 [22,25,26] 1] [] (.lets [.not 29] [] (.ite 30 (.ret [.c (.nil 6),.c (.nil 6),zI 7]) (.lets [] [.inr
 6 22 28] z07v)))
def z07x:T :=
 .lets [.mk 6 [[4,29,31,35,5,15]]] [] (.lets [.call 15 [28,33,36] 0] [] (.lets [.bin .add 29 (zI 1)] [] (.again 1 [26,27,.v
 37,38])))
def z07y:T :=
 .lets [.call 6 [28,4,29] 0,.call 6 [28,4,29] 1] [] (.ite 34 (.ret [.c (.nil 6),.c (.nil 6),zI 6]) (.lets [.call 10 [32] 0] []
 z07x))
def z03n:T :=
 .lets [.call 8 [28] 0] [] (.lets [.bin .neq 31 (zI 0)] [] (.ite 32 (.ret [.c (.nil 6),.c (.nil 6),31]) (.ret [28,21,zI 0])))
def z03o:T :=
 .lets [.bin .lss 29 25] [] (.ite 30 (.lets [] [.inr 2 3 29] (.lets [.idx 3 29 0,.idx 3 29 1] [] z07y)) z03n)
def z03p:T :=
 .ite 24 (.lets [] [.inr 3 2 23] (.lets [.idx 2 23 0,.idx 2 23 1,.idx 2 23 2] [] z07w)) (.lets [.len 3] [] (.loop [.c (.nil
 6),zI 0,22,zI 0] z03o))
def z03q:T :=
 .lets [.call 11 [0] 0] [] (.lets [.len 2] [] (.loop [.c (.nil 6),zI 0,.c (.nil 6),17,zI 0] (.lets [.bin .lss 23 18] [] z03p)))
def z03r:T :=
 .lets [.bin .add 27 (zI 1)] [] (.lets [.call 14 [21,27,43] 0] [] (.lets [.bin .add 22 (zI 1)] [] (.again 0 [18,19,42,44,.v
 45])))
def z03s:T :=
 .ite 40 (.ret [.c (.nil 6),.c (.nil 6),zI 8]) (.lets [.mk 6 [[30,31,32,33,34,35]]] [] (.lets [.app 6 20 41] [] z03r))
def z03t:T :=
 .ite 37 (.ret [.c (.nil 6),.c (.nil 6),zI 10]) (.lets [.call 16 [33,26,5] 0,.call 16 [33,26,5] 1] [] (.lets [.not 38] [] z03s))
def z03u:T :=
 .lets [.bin .add 27 (zI 1)] [] (.lets [.call 14 [21,27,41] 0] [] (.lets [.bin .add 22 (zI 1)] [] (.again 0 [18,19,40,42,.v
 43])))
def z03v:T :=
 .ite 38 (.ret [.c (.nil 6),.c (.nil 6),zI 8]) (.lets [.mk 6 [[30,31,32,33,34,35]]] [] (.lets [.app 6 20 39] [] z03u))
def z03w:T :=
 .ite 35 (.lets [.bin .add 34 (zI 2)] [] (.lets [.bin .lss 5 36] [] z03t)) (.lets [.call 16 [33,26,5] 0,.call 16 [33,26,.v
 5] 1] [] (.lets [.not 36] [] z03v))
def z03x:T :=
 .lets [.idx 21 27 0,.idx 21 27 1,.idx 21 27 2,.idx 21 27 3,.idx 21 27 4,.idx 21 27 5] [] z03w
def z03y:T :=
 .lets [.call 6 [21,24,25] 0,.call 6 [21,24,25] 1] [] (.lets [.not 28] [] (.ite 29 (.ret [.c (.nil 6),.c (.nil 6),zI 7]) (.lets [] [.inr
 6 21 27] z03x)))
def z03z:T :=
 .lets [.mk 6 [[4,30,32,36,5,15]]] [] (.lets [.call 15 [29,34,37] 0] [] (.lets [.bin .add 30 (zI 1)] [] (.again 1 [27,28,.v
 38,39])))
def z040:T :=
 .lets [.call 6 [29,4,30] 0,.call 6 [29,4,30] 1] [] (.ite 35 (.ret [.c (.nil 6),.c (.nil 6),zI 6]) (.lets [.call 10 [33] 0] []
 z03z))
def z041:T :=
 .lets [.call 8 [29] 0] [] (.lets [.bin .neq 32 (zI 0)] [] (.ite 33 (.ret [.c (.nil 6),.c (.nil 6),32]) (.ret [29,20,zI 0])))
def z042:T :=
 .lets [.bin .lss 30 26] [] (.ite 31 (.lets [] [.inr 2 3 30] (.lets [.idx 3 30 0,.idx 3 30 1] [] z040)) z041)
def z043:T :=
 .ite 25 (.ret [.c (.nil 6),.c (.nil 6),zI 9]) (.lets [.len 3] [] (.loop [.c (.nil 6),zI 0,21,zI 0] z042))
def z044:T :=
 .ite 23 (.lets [] [.inr 3 2 22] (.lets [.idx 2 22 0,.idx 2 22 1,.idx 2 22 2] [] z03y)) (.lets [.call 13 [1,2,3,.v
 20] 0] [] (.lets [.bin .lss 24 (zI 0)] [] z043))
def z045:T :=
 .lets [.call 11 [0] 0] [] (.lets [.len 2] [] (.loop [.c (.nil 6),zI 0,.c (.nil 6),16,zI 0] (.lets [.bin .lss 22 17] [] z044)))
def z046:T :=
 .lets [.bin .eql 14 (zI 0)] [] (.ite 15 (.lets [.bin .neq 1 5] [] (.ite 16 (.ret [.c (.nil 6),.c (.nil 6),zI 4]) z03q))
 z045)
def z047:T :=
 .ite 12 (.ret [.c (.nil 6),.c (.nil 6),zI 3]) (.lets [.bin .gtr 5 (zI 1000)] [] (.ite 13 (.ret [.c (.nil 6),.c (.nil 6),zI 3])
 (.lets [.len 2] [] z046)))
def z048:T :=
 .lets [.bin .gtr 4 (zI 120)] [] (.ite 11 (.ret [.c (.nil 6),.c (.nil 6),zI 3]) (.lets [.bin .lss 5 (zI 1)] [] z047))
def z049:T :=
 .ite 9 (.ret [.c (.nil 6),.c (.nil 6),8]) (.lets [.bin .lss 4 (zI 1)] [] (.ite 10 (.ret [.c (.nil 6),.c (.nil 6),zI 3]) z048))
def z04a:T :=
 .lets [.bin .neq 6 (zI 0)] [] (.ite 7 (.ret [.c (.nil 6),.c (.nil 6),6]) (.lets [.call 17 [1,2,3] 0] [] (.lets [.bin .neq 8 (.c (.i .i64
 0))] [] z049)))
def zkg:T :=
 .lets [.call 8 [0] 0] [] z04a
theorem zv1:Meets Tryz.prog z66 164 ⟨[.one,.agg 3,.one,.one],[(false,[.pure]),(true,[.pure]),(false,[.scal])],false⟩:=by
 refine z4q (sp:=(zr [(6,zdc),(8,z4j),(10,z5w),(11,z8k),(13,z6h),(14,zdi),(15,zdj),(16,zax),(17,z60)])) (sigs:=zy) (cut:=[]) (hints:=[⟨19,[.r 8 83 6,.t 10,.r 0 83 6,.t 111,.z 84,.z 83,.z 78]⟩]) (fns:=[z2k 182 Tryz.f182 [⟨2,[.r 6 83 6,.t 8,.r 7 83 6,.r 0 83 6,.t 19]⟩] [],z2k 181 Tryz.f181 [] []]) (dep:=2) (pool:=240) (fn:=Tryz.f164) (t:=zkg) (by kernel_rfl) (by kernel_rfl) (by kernel_rfl) ?_ ?_ ?_
 ·exact (z07 (fn:=Tryz.f182) (by kernel_rfl) (by kernel_rfl) (by kernel_rfl) (by kernel_rfl) (by kernel_rfl) (z07 (fn:=Tryz.f181) (by kernel_rfl) (by kernel_rfl) (by kernel_rfl) (by kernel_rfl) (by kernel_rfl) z5o))
 ·exact (zl (L:=[(6,zdc),(8,z4j),(10,z5w),(11,z8k),(13,z6h),(14,zdi),(15,zdj),(16,zax),(17,z60)]) ⟨z5 rfl z0ia,z5 rfl zjy,z5 rfl zpg,z5 rfl z03k,z5 rfl zse,z5 rfl z0j1,z5 rfl z0j2,z5 rfl z072,z5 rfl zuj,trivial⟩)
 ·rintro ds rs - h
  obtain ⟨⟨l,t,nm,ht⟩,-,rfl,rfl⟩:=z9 h;clear h;refine ⟨⟨t.ins.length+t.outs.length+1,?_⟩,z0cs⟩
  show den _ _ zkg [.l 6 (l.map z04),I t.height,.l 3 (t.ins.map eIn),.l 2 (t.outs.map z0z),I nm,I ht] []=ret (zw l t nm ht)
  unfold zkg zw
  repeat' (first|refine dq1 ?_|refine dqk rfl (z7f _) ?_|refine dqk rfl (zx5 _) ?_|exact z4 rfl rfl|((first|refine tR ?_ ?_|refine tO ?_ ?_) <;> intro h)|fail)
  all_goals
   have ok:CoinsOK l:=(z0r l).1 (zY0i.1 (by assumption));have okt:TxOK t:=z8x (zY0i.1 (by assumption));have hl:=ok.len;have hti:=okt.ins;have hto:=okt.outs
   repeat' (first|refine dq1 ?_|refine dqk rfl (zke _ ok.short) ?_|fail)
  ·(refine zm (fun (st:List Coin × List Coin) k=>[.l 6 (([]:List Coin).map z04),I 0,.l 6 (st.2.map z04),.l 6 (st.1.map z04),I k]) (fun (st:List Coin × List Coin) _ (xs:List In)=>z46 ht z59 (fun r s=>z4d nm ht (decide ((t.ins.length:Int)=0)) z59 (zb1 s) r 0 t.outs) st.1 st.2 xs) (fun st k=>SpI l st k) (l,[]) t.ins ?_ ?_ ?_ ?_ ?_;rfl;exact ⟨ok.sorted,zY0p _,ok.good,rfl,fun c hc=>by cases hc⟩;omega)
   ·rintro ⟨r,s⟩ k x xs hx hd hk hI again hag
    rename_i h0 _;omega
   ·rintro ⟨r,s⟩ hI again
    rw [z46]
    repeat' (first|refine dq1 ?_|refine dqF ?_|fail)
    (refine zm (fun (r:List Coin) k=>[.l 6 (([]:List Coin).map z04),I 0,.l 6 (r.map z04),I k]) (fun (r:List Coin) k (os:List Out)=>z4d nm ht (decide ((t.ins.length:Int)=0)) z59 (zb1 s) r k os) (fun r k=>z0n r∧r.length≤l.length+k) r t.outs ?_ ?_ ?_ ?_ ?_;rfl;exact ⟨hI.sorted,hI.len⟩;omega)
    ·rintro r k o os hx hd hk ⟨hs,hrl⟩ again' hag
     rw [z4d];have hol:=zat (okt.good o (zY07 hx)).2.2;have hpl:=zn8 r ⟨nm,k⟩;have e1:((z02 r ⟨nm,k⟩:Int)).toNat=z02 r ⟨nm,k⟩:=by omega
     repeat' (first|refine dq1 ?_|refine dqc ?_|refine dqm ?_|refine dqK rfl (zcv r ⟨nm,k⟩ hs (by omega)) ?_|refine dqk rfl (z8w _ (by omega)) ?_|exact z4 rfl rfl|refine tB (fun h=>?_) fun h=>?_|refine dqT ?_|fail)
     have hno:=h;refine z6 (z1y (r:=[(⟨⟨nm,k⟩,o,ht,decide ((t.ins.length:Int)=0)⟩:Coin)].map z04) rfl rfl (by simp)) ?_;refine z6 (z4e rfl (zj3 _ _ _ ⟨by omega,by omega,by omega⟩) rfl) ?_;refine z6 (zbk rfl rfl (by omega)) ?_;rw [e1];exact zb rfl rfl (hag _ ⟨zb3 hs (c:=⟨⟨nm,k⟩,o,ht,decide ((t.ins.length:Int)=0)⟩) hno,by simp only [zY04,zY0d,zY10,zY19];omega⟩)
    ·rintro r hr again'
     rw [z4d];unfold zb1
     repeat' (first|refine dq1 ?_|refine dqk rfl (z7f _) ?_|exact z4 rfl rfl|refine tR (fun h=>?_) fun h=>?_|refine dqF ?_|fail)
  ·(refine zm (fun (st:List Coin × List Coin) k=>[.l 6 (([]:List Coin).map z04),I 0,.l 6 (st.2.map z04),.l 6 (st.1.map z04),I k]) (fun (st:List Coin × List Coin) _ (xs:List In)=>z46 ht z59 (fun r s=>if z1u t s<0 then z59 9 else z4d nm ht (decide ((t.ins.length:Int)=0)) z59 (zb1 s) r 0 t.outs) st.1 st.2 xs) (fun st k=>SpI l st k) (l,[]) t.ins ?_ ?_ ?_ ?_ ?_;rfl;exact ⟨ok.sorted,zY0p _,ok.good,rfl,fun c hc=>by cases hc⟩;omega)
   ·rintro ⟨r,s⟩ k x xs hx hd hk hI again hag
    rw [z46];simp only;have hs:=hI.sorted;have hrl:=hI.len;simp only at hs hrl
    repeat' (first|refine dq1 ?_|refine dqc ?_|refine dqm ?_|refine dqK rfl (zcv _ _ hs (by omega)) ?_|exact z4 rfl rfl|refine tN (fun h=>?_) fun h=>?_|refine dqT ?_|fail)
    obtain ⟨hlt,hp⟩:=(zn9 hs x.p).1 h;have hc:r[z02 r x.p]? = some r[z02 r x.p]:=zY03 hlt;rw [hc];generalize r[z02 r x.p]=c at *;have hcb:=z61 (hI.good c (zY07 hc));have e1:((z02 r x.p:Int)).toNat=z02 r x.p:=by omega
    have e2:((z02 r x.p:Int)+1).toNat=z02 r x.p+1:=by omega
    simp only [zY1h];have hxo:=hx;have hx:=hc
    repeat' (first|refine dq1 ?_|refine dqc ?_|refine dqm ?_|refine dqK rfl (zpk _ _ _) ?_|exact z4 rfl rfl|((first|refine tR ?_ ?_|refine tB ?_ ?_|refine tN ?_ ?_) <;> intro h)|fail)
    all_goals (refine z6 (z1y (r:=[c].map z04) rfl rfl (by simp)) ?_;refine z6 (zpe (l:=s) (l':=[c]) rfl rfl (by have:=hI.cnt;simp only at this ⊢;simp only [zY19];omega)) ?_;refine z6 (zbk rfl rfl (by omega)) ?_;refine z6 (z4e rfl (zx4 _ _ _ ⟨by omega,by omega,by omega⟩) rfl) ?_;refine z6 (zbk rfl rfl (by omega)) ?_;rw [e1,e2];exact zb rfl rfl (hag (r.take (z02 r x.p)++r.drop (z02 r x.p+1),s++[c]) (hI.cut hc)))
   ·rintro ⟨r,s⟩ hI again
    rw [z46]
    repeat' (first|refine dq1 ?_|refine dqk rfl (zc6 t s (hI.fee okt)) ?_|exact z4 rfl rfl|refine tR (fun h=>?_) fun h=>?_|refine dqF ?_|fail)
    (refine zm (fun (r:List Coin) k=>[.l 6 (([]:List Coin).map z04),I 0,.l 6 (r.map z04),I k]) (fun (r:List Coin) k (os:List Out)=>z4d nm ht (decide ((t.ins.length:Int)=0)) z59 (zb1 s) r k os) (fun r k=>z0n r∧r.length≤l.length+k) r t.outs ?_ ?_ ?_ ?_ ?_;rfl;exact ⟨hI.sorted,hI.len⟩;omega)
    ·rintro r k o os hx hd hk ⟨hs,hrl⟩ again' hag
     rw [z4d];have hol:=zat (okt.good o (zY07 hx)).2.2;have hpl:=zn8 r ⟨nm,k⟩;have e1:((z02 r ⟨nm,k⟩:Int)).toNat=z02 r ⟨nm,k⟩:=by omega
     repeat' (first|refine dq1 ?_|refine dqc ?_|refine dqm ?_|refine dqK rfl (zcv r ⟨nm,k⟩ hs (by omega)) ?_|refine dqk rfl (z8w _ (by omega)) ?_|exact z4 rfl rfl|refine tB (fun h=>?_) fun h=>?_|refine dqT ?_|fail)
     have hno:=h;refine z6 (z1y (r:=[(⟨⟨nm,k⟩,o,ht,decide ((t.ins.length:Int)=0)⟩:Coin)].map z04) rfl rfl (by simp)) ?_;refine z6 (z4e rfl (zj3 _ _ _ ⟨by omega,by omega,by omega⟩) rfl) ?_;refine z6 (zbk rfl rfl (by omega)) ?_;rw [e1];exact zb rfl rfl (hag _ ⟨zb3 hs (c:=⟨⟨nm,k⟩,o,ht,decide ((t.ins.length:Int)=0)⟩) hno,by simp only [zY04,zY0d,zY10,zY19];omega⟩)
    ·rintro r hr again'
     rw [z4d];unfold zb1
     repeat' (first|refine dq1 ?_|refine dqk rfl (z7f _) ?_|exact z4 rfl rfl|refine tR (fun h=>?_) fun h=>?_|refine dqF ?_|fail)
end
section
open Go.RowKit
set_option maxRecDepth 100000
set_option maxHeartbeats 4000000
theorem zc7 (l m:List Op):z50 [.l 2 (l.map eOp),.l 2 (m.map eOp)]=some [.b (decide (l=m))]:=za (f:=fun x:List Op × List Op=>decide (x.1=x.2)) (l,m) trivial
theorem zlu:Meets Tryz.prog z50 84 ⟨[.one,.one],[(false,[.scal])],true⟩ :=
 zg1 (e:=fun x:{ x:List Op × List Op // True }=>Enc.e x.1) (d:=fun x=>.b (decide (x.1.1=x.1.2))) rfl (z2h (fn:=Tryz.f84) (by kernel_rfl) (by kernel_rfl) (by kernel_rfl)) (fun _=>rfl) fun x W F us hF h=>by
  obtain ⟨v,us,rfl,h1,h⟩:=z1j h;obtain ⟨v2,us,rfl,h2,h⟩:=z1j h;obtain rfl:=z2f h;obtain ⟨A,n,c,rfl,k1⟩:=z3s zcd h1;obtain ⟨A2,n2,c2,rfl,k2⟩:=z3s zcd h2;refine (z0nc x.1.1 x.1.2 A A2 n c n2 c2 W F F k1 k2).mono ?_;rintro r W' ⟨rfl,m,rfl⟩;exact ⟨_,rfl,zbt (Below.refl _ _) m,.b _⟩
attribute [local irreducible] z0i spD z35
theorem z98 {α:Type} {sz:Nat} {l:List α} {f:α→List Dt} (h:Dt.ok (.l sz (l.map f))):l.length≤9223372036854775807:=by
 cases h with
 | l _ _ h1 _ _=>simpa using h1
theorem z0j3 (x y:Out):(decide (x.coin=y.coin) && decide (x.lock=y.lock))=decide (x=y):=by
 cases x;cases y
 simp only [Out.mk.injEq,Bool.decide_and]
noncomputable def z8l:z7:=spD (fun _:Out × Out=>True) fun x=>decide (x.1=x.2)
noncomputable def z9f:z7:=spD (fun _:Out × Out=>True) fun x=>decide (x.1=x.2)
theorem zq2 (x y:Out):z8l [I x.coin,.l 2 (x.lock.map eOp),I y.coin,.l 2 (y.lock.map eOp)]=some [.b (decide (x=y))]:=za (f:=fun x:Out × Out=>decide (x.1=x.2)) (x,y) trivial
theorem zsf (x y:Out):z9f [I x.coin,.l 2 (x.lock.map eOp),I y.coin,.l 2 (y.lock.map eOp)]=some [.b (decide (x=y))]:=za (f:=fun x:Out × Out=>decide (x.1=x.2)) (x,y) trivial
def zg9:T :=
 .lets [.bin .eql 0 2] [] (.ite 4 (.lets [.call 20 [1,3] 0] [] (.ret [5])) (.ret [.c (.b false)]))
def zih:T :=
 .lets [.bin .eql 0 2] [] (.ite 4 (.lets [.call 20 [1,3] 0] [] (.ret [5])) (.ret [.c (.b false)]))
theorem z07z:Meets Tryz.prog z8l 60 ⟨[.agg 2,.agg 2],[(false,[.scal])],true⟩:=by
 refine z8 (sp:=(zr [(20,z50)])) (sigs:=zy) (cut:=[]) (hints:=[]) (fn:=Tryz.f60) (t:=zg9) (by kernel_rfl) (by kernel_rfl) (by kernel_rfl) ?_ ?_
 ·exact (zl (L:=[(20,z50)]) ⟨z5 rfl zlu,trivial⟩)
 ·rintro ds rs - h
  obtain ⟨⟨x,y⟩,-,rfl,rfl⟩:=z9 h;clear h;refine ⟨⟨1,?_⟩,zq rfl⟩
  show den _ _ zg9 [I x.coin,.l 2 (x.lock.map eOp),I y.coin,.l 2 (y.lock.map eOp)] []=ret (decide (x=y))
  rw [← z0j3];unfold zg9
  repeat' (first|refine dq1 ?_|refine dqk rfl (zc7 _ _) ?_|exact z4 rfl rfl|refine tU (fun h=>?_) fun h=>?_|fail)
theorem z0ct:Meets Tryz.prog z9f 87 ⟨[.agg 2,.agg 2],[(false,[.scal])],true⟩:=by
 refine z8 (sp:=(zr [(20,z50)])) (sigs:=zy) (cut:=[]) (hints:=[]) (fn:=Tryz.f87) (t:=zih) (by kernel_rfl) (by kernel_rfl) (by kernel_rfl) ?_ ?_
 ·exact (zl (L:=[(20,z50)]) ⟨z5 rfl zlu,trivial⟩)
 ·rintro ds rs - h
  obtain ⟨⟨x,y⟩,-,rfl,rfl⟩:=z9 h;clear h;refine ⟨⟨1,?_⟩,zq rfl⟩
  show den _ _ zih [I x.coin,.l 2 (x.lock.map eOp),I y.coin,.l 2 (y.lock.map eOp)] []=ret (decide (x=y))
  rw [← z0j3];unfold zih
  repeat' (first|refine dq1 ?_|refine dqk rfl (zc7 _ _) ?_|exact z4 rfl rfl|refine tU (fun h=>?_) fun h=>?_|fail)
theorem z3u {α:Type} [DecidableEq α] (l m:List α):decide (l=m)=if (l.length:Int)≠m.length then false else decide (l=m):=by
 by_cases h:(l.length:Int)≠m.length
 ·rw [if_pos h,decide_eq_false]
  rintro rfl;exact h rfl
 ·rw [if_neg h]
end
section
open Go.RowKit
set_option maxRecDepth 100000
set_option maxHeartbeats 4000000
attribute [local irreducible] z0i spD z35 z00 zj zo
end
section
open Go.RowKit
theorem hasP_mem {l:List Coin} {p:Point}:z3p l p=true↔∃ c ∈ l,c.p=p:=by
 unfold z3p;rw [zY3j];constructor
 ·rintro ⟨c,hc,h⟩;exact ⟨c,hc,of_decide_eq_true h⟩
 ·rintro ⟨c,hc,h⟩;exact ⟨c,hc,decide_eq_true h⟩
theorem hasP_not {l:List Coin} {p:Point}:z3p l p=false↔∀ c ∈ l,c.p≠p:=by
 rw [← zY2z,hasP_mem];constructor
 ·intro h c hc he;exact h ⟨c,hc,he⟩
 ·rintro h ⟨c,hc,he⟩;exact h c hc he
theorem zmm {l:List Coin} (h:z0n l) {c d:Coin} (hc:c ∈ l) (hd:d ∈ l) (hp:c.p=d.p):c=d:=by
 obtain ⟨i,hi,rfl⟩:=zY2g hc;obtain ⟨j,hj,rfl⟩:=zY2g hd;rcases Nat.lt_trichotomy i j with hij|rfl|hij
 ·have:=za3 h hij hj;rw [hp] at this;exact absurd this (z74 _)
 ·rfl
 ·have:=za3 h hij hi;rw [hp] at this;exact absurd this (z74 _)
theorem z04b {l:List Coin} (h:z0n l) {c:Coin} (hc:c ∈ l):l[z02 l c.p]? = some c:=by
 obtain ⟨hlt,hp⟩:=(zn9 h c.p).1 (hasP_mem.2 ⟨c,hc,rfl⟩);rw [zY03 hlt];exact congrArg some (zmm h (zY1l hlt) hc hp)
theorem z0rw {l:List Coin} (h:z0n l) {p:Point} (hp:z3p l p=true):∃ c,l[z02 l p]? = some c∧c ∈ l∧c.p=p:=by
 obtain ⟨c,hc,rfl⟩:=hasP_mem.1 hp;exact ⟨c,z04b h hc,hc,rfl⟩
theorem zii:∀ {a b:List Coin},z0n a→z0n b→(∀ c,c ∈ a↔c ∈ b)→a=b
 | [],[],_,_,_=>rfl
 | [],y::b,_,_,h=>by have:=(h y).2 (zY0b ..);cases this
 | x::a,[],_,_,h=>by have:=(h x).1 (zY0b ..);cases this
 | x::a,y::b,ha,hb,h=>by
  have ha':=zY1k.1 ha;have hb':=zY1k.1 hb;have hxy:x=y:=by
   rcases zY0f.1 ((h x).1 (zY0b ..)) with e|hx
   ·exact e
   ·rcases zY0f.1 ((h y).2 (zY0b ..)) with e|hy
    ·exact e.symm
    ·exact absurd (hb'.1 x hx) (zue (ha'.1 y hy))
  subst hxy;congr 1;refine zii ha'.2 hb'.2 fun c=>⟨fun hc=>?_,fun hc=>?_⟩
  ·rcases zY0f.1 ((h c).1 (zY08 _ hc)) with rfl|h'
   ·exact absurd (ha'.1 c hc) (z74 _)
   ·exact h'
  ·rcases zY0f.1 ((h c).2 (zY08 _ hc)) with rfl|h'
   ·exact absurd (hb'.1 c hc) (z74 _)
   ·exact h'
theorem zsg {l:List Coin} (h:z0n l) {c:Coin} {k:Nat} (hk:l[k]? = some c) {d:Coin}:d ∈ l.take k++l.drop (k+1)↔d ∈ l∧d.p≠c.p:=by
 obtain ⟨hlt,rfl⟩:=zY02.1 hk;have hsplit:l=l.take k++l[k]::l.drop (k+1):=by rw [List.getElem_cons_drop,zY14]
 have hs:z0n (l.take k++l[k]::l.drop (k+1)):=by rw [← hsplit];exact h
 obtain ⟨_,h2,h3⟩:=zY2o.1 hs;have h2':=zY1k.1 h2;constructor
 ·intro hd
  refine ⟨?_,?_⟩
  ·rcases zY0w.1 hd with hd|hd
   ·exact zY2e hd
   ·exact zY23 hd
  ·rcases zY0w.1 hd with hd|hd
   ·intro e;have:=h3 d hd l[k] (zY0b ..);rw [e] at this;exact z74 _ this
   ·intro e;have:=h2'.1 d hd;rw [e] at this;exact z74 _ this
 ·rintro ⟨hd,hne⟩
  rw [hsplit] at hd;rcases zY0w.1 hd with hd|hd
  ·exact List.mem_append_left _ hd
  ·rcases zY0f.1 hd with rfl|hd
   ·exact absurd rfl hne
   ·exact zY2y _ hd
theorem put_mem {l:List Coin} {c d:Coin} {k:Nat}:d ∈ l.take k++[c]++l.drop k↔d=c∨d ∈ l:=by
 have:d ∈ l↔d ∈ l.take k∨d ∈ l.drop k:=by rw [← zY0w,zY14]
 rw [zY0w,zY0w,zY0y,this];constructor
 ·rintro ((h|h)|h)
  ·exact .inr (.inl h)
  ·exact .inl h
  ·exact .inr (.inr h)
 ·rintro (h|h|h)
  ·exact .inl (.inr h)
  ·exact .inl (.inl h)
  ·exact .inr h
theorem z0j4 {l:List Coin} {c:Coin} {k:Nat} (hk:l[k]? = some c):zh l=zh (l.take k++l.drop (k+1))+c.o.coin:=by
 obtain ⟨hlt,rfl⟩:=zY02.1 hk;have hsplit:l=l.take k++l[k]::l.drop (k+1):=by rw [List.getElem_cons_drop,zY14]
 have e:zh l=zh (l.take k++l[k]::l.drop (k+1)):=by rw [← hsplit]
 rw [e,z5p,z5p,zh];omega
theorem z0j5 {l:List Coin} {c:Coin} {k:Nat}:zh (l.take k++[c]++l.drop k)=zh l+c.o.coin:=by
 have e:zh l=zh (l.take k++l.drop k):=by rw [zY14]
 rw [e,z5p,z5p,z5p,zh,zh];omega
structure Fine (h:Int) (x:In) (c:Coin):Prop where
 p:c.p=x.p
 ripe:c.reward=true→c.height+2≤h
 opens:(z63 c.o.lock x.key h).1=true
inductive Spent (h:Int):List Coin→List Coin→List In→List Coin→List Coin→Prop
 | nil (r s):Spent h r s [] r s
 | cons {r s x xs r' s' c}:c ∈ r→r[z02 r x.p]? = some c→Fine h x c→Spent h (r.take (z02 r x.p)++r.drop (z02 r x.p+1)) (s++[c]) xs r' s'→Spent h r s (x::xs) r' s'
theorem zq3 {ρ:Type} {h:Int} {bad:Int→ρ} {K:List Coin→List Coin→ρ} {r s:List Coin} {x:In} {xs:List In} {c:Coin} (hm:c ∈ r) (hc:r[z02 r x.p]? = some c) (hf:Fine h x c):z46 h bad K r s (x::xs)=z46 h bad K (r.take (z02 r x.p)++r.drop (z02 r x.p+1)) (s++[c]) xs:=by
 have hp:z3p r x.p=true:=hasP_mem.2 ⟨c,hm,hf.p⟩;rw [z46,if_pos hp,hc];simp only [zY1h];rw [if_pos hf.opens]
 by_cases hr:c.reward=true
 ·rw [if_pos hr,if_neg (by have:=hf.ripe hr;omega)]
 ·rw [if_neg hr]
theorem Spent.run {ρ:Type} {h:Int} {bad:Int→ρ} {K:List Coin→List Coin→ρ} {r s r' s':List Coin} {xs:List In} (hs:Spent h r s xs r' s'):z46 h bad K r s xs=K r' s':=by
 induction hs with
 | nil r s=>rfl
 | cons hm hc hf _ ih=>rw [zq3 hm hc hf,ih]
theorem zni {h:Int} {K:List Coin→List Coin→List Coin × List Coin × Int}:∀ {xs:List In} {r s:List Coin},z0n r→(z46 h z59 K r s xs).2.2=0→∃ r' s',Spent h r s xs r' s'∧z46 h z59 K r s xs=K r' s'
 | [],r,s,_,_=>⟨r,s,.nil r s,rfl⟩
 | x::xs,r,s,hr,h0=>by
  by_cases hp:z3p r x.p=true
  ·obtain ⟨c,hc,hm,hcp⟩:=z0rw hr hp
   have hf:Fine h x c:=by
    rw [z46,if_pos hp,hc] at h0;simp only [zY1h] at h0
    by_cases hrw:c.reward=true
    ·rw [if_pos hrw] at h0
     by_cases hh:h<c.height+2
     ·rw [if_pos hh] at h0;cases h0
     ·rw [if_neg hh] at h0
      by_cases ho:(z63 c.o.lock x.key h).1=true
      ·exact ⟨hcp,fun _=>by omega,ho⟩
      ·rw [if_neg ho] at h0;cases h0
    ·rw [if_neg hrw] at h0
     by_cases ho:(z63 c.o.lock x.key h).1=true
     ·exact ⟨hcp,fun h=>absurd h hrw,ho⟩
     ·rw [if_neg ho] at h0;cases h0
   have e:=zq3 (bad:=z59) (K:=K) (s:=s) (xs:=xs) hm hc hf;rw [e] at h0 ⊢;obtain ⟨r',s',h1,h2⟩:=zni (zb2 hr _) h0;exact ⟨r',s',.cons hm hc hf h1,h2⟩
  ·rw [z46,if_neg hp] at h0
   cases h0
structure SpentAs (h:Int) (r:List Coin) (xs:List In) (r' cs:List Coin):Prop where
 sorted:z0n r'
 mem:∀ c,c ∈ r'↔c ∈ r∧∀ x ∈ xs,x.p≠c.p
 len:cs.length=xs.length
 fine:∀ (i:Nat) (x:In),xs[i]? = some x→∃ c,cs[i]? = some c∧c ∈ r∧Fine h x c
 apart:xs.Pairwise fun x y=>x.p≠y.p
 total:zh r=zh r'+zh cs
theorem Spent.as {h:Int} {r s r' s':List Coin} {xs:List In} (hs:Spent h r s xs r' s'):z0n r→∃ cs,s'=s++cs∧SpentAs h r xs r' cs:=by
 induction hs with
 | nil r s=>exact fun hr=>⟨[],(zY27 s).symm,hr,fun c=>by simp,rfl,fun i x hx=>by simp at hx,.nil,by simp [zh]⟩
 | @cons r s x xs r' s' c hm hc hf hs ih =>
  intro hr;obtain ⟨cs,rfl,H⟩:=ih (zb2 hr _);have hcm:=fun d=>zsg hr hc (d:=d)
  refine ⟨c::cs,by simp,H.sorted,fun d=>?_,by simp [H.len],fun i y hy=>?_,?_,?_⟩
  ·rw [H.mem,hcm]
   constructor
   ·rintro ⟨⟨h1,h2⟩,h3⟩
    refine ⟨h1,fun y hy=>?_⟩;rcases zY0f.1 hy with rfl|hy
    ·rw [← hf.p];exact fun e=>h2 e.symm
    ·exact h3 y hy
   ·rintro ⟨h1,h2⟩
    exact ⟨⟨h1,fun e=>h2 x (zY0b ..) (by rw [← hf.p,e])⟩,fun y hy=>h2 y (zY08 _ hy)⟩
  ·cases i with
   | zero =>
    simp only [zY05,zY00] at hy;subst hy;exact ⟨c,rfl,hm,hf⟩
   | succ i =>
    obtain ⟨d,h1,h2,h3⟩:=H.fine i y (by simpa using hy);exact ⟨d,by simpa using h1,(hcm d).1 h2 |>.1,h3⟩
  ·refine zY1k.2 ⟨fun y hy=>?_,H.apart⟩
   obtain ⟨i,hi⟩:=zY2d hy;obtain ⟨d,_,h2,h3⟩:=H.fine i y hi;have:=((hcm d).1 h2).2;rw [h3.p,hf.p] at this;exact fun e=>this e.symm
  ·rw [z0j4 hc,H.total,zh];omega
theorem Spent.of {h:Int}:∀ {xs:List In} {r s cs:List Coin},z0n r→xs.Pairwise (fun x y=>x.p≠y.p)→cs.length=xs.length→(∀ (i:Nat) (x:In),xs[i]? = some x→∃ c,cs[i]? = some c∧c ∈ r∧Fine h x c)→∃ r',Spent h r s xs r' (s++cs)
 | [],r,s,cs,hr,ha,hl,hf=>by
  have:cs=[]:=zY06 hl;subst this;exact ⟨r,by rw [zY27];exact .nil r s⟩
 | x::xs,r,s,[],hr,ha,hl,hf=>by cases hl
 | x::xs,r,s,c::cs,hr,ha,hl,hf=>by
  obtain ⟨c',h1,hm,hfx⟩:=hf 0 x rfl;simp only [zY05,zY00] at h1;subst h1;have hc:r[z02 r x.p]? = some c:=by rw [← hfx.p];exact z04b hr hm
  have ha':=zY1k.1 ha;obtain ⟨r',hs⟩:=Spent.of (s:=s++[c]) (cs:=cs) (zb2 hr (z02 r x.p)) ha'.2 (by simpa using hl) fun i y hy=>by
   obtain ⟨d,k1,k2,k3⟩:=hf (i+1) y (by simpa using hy);refine ⟨d,by simpa using k1,(zsg hr hc).2 ⟨k2,?_⟩,k3⟩;rw [k3.p,hfx.p];exact fun e=>ha'.1 y (zY07 hy) e.symm
  exact ⟨r',.cons hm hc hfx (by rw [zY1b] at hs;exact hs)⟩
def z7r (nm h:Int) (rw:Bool) (i:Nat) (o:Out):Coin:=⟨⟨nm,i⟩,o,h,rw⟩
inductive Brought (nm h:Int) (rw:Bool):List Coin→Nat→List Out→List Coin→Prop
 | nil (r i):Brought nm h rw r i [] r
 | cons {r:List Coin} {i:Nat} {o:Out} {os:List Out} {m:List Coin}:z3p r ⟨nm,i⟩=false→Brought nm h rw (r.take (z02 r ⟨nm,i⟩)++[z7r nm h rw i o]++r.drop (z02 r ⟨nm,i⟩)) (i+1) os m→Brought nm h rw r i (o::os) m
theorem Brought.run {ρ:Type} {nm h:Int} {rw:Bool} {bad:Int→ρ} {K:List Coin→ρ} {r m:List Coin} {i:Nat} {os:List Out} (hb:Brought nm h rw r i os m):z4d nm h rw bad K r i os=K m:=by
 induction hb with
 | nil r i=>rfl
 | cons hn _ ih=>rw [z4d,if_neg (by simp [hn])];exact ih
theorem znj {nm h:Int} {rw:Bool} {K:List Coin→List Coin × List Coin × Int}:∀ {os:List Out} {r:List Coin} {i:Nat},(z4d nm h rw z59 K r i os).2.2=0→∃ m,Brought nm h rw r i os m∧z4d nm h rw z59 K r i os=K m
 | [],r,i,_=>⟨r,.nil r i,rfl⟩
 | o::os,r,i,h0=>by
  rw [z4d] at h0 ⊢
  cases hp:z3p r ⟨nm,i⟩ with
  | true=>rw [hp,if_pos rfl] at h0;cases h0
  | false =>
   rw [hp,if_neg (by simp)] at h0;rw [if_neg (by simp)];obtain ⟨m,h1,h2⟩:=znj h0;exact ⟨m,.cons hp h1,h2⟩
def z31 (os:List Out):Int:=(os.map Out.coin).sum
structure BroughtAs (nm h:Int) (rw:Bool) (r:List Coin) (i:Nat) (os:List Out) (m:List Coin):Prop where
 sorted:z0n m
 mem:∀ c,c ∈ m↔c ∈ r∨∃ (j:Nat) (o:Out),os[j]? = some o∧c=z7r nm h rw (i+j) o
 free:∀ c ∈ r,∀ j,j<os.length→c.p≠⟨nm,((i+j:Nat):Int)⟩
 total:zh m=zh r+z31 os
 len:m.length=r.length+os.length
theorem Brought.as {nm h:Int} {rw:Bool} {r m:List Coin} {i:Nat} {os:List Out} (hb:Brought nm h rw r i os m):z0n r→BroughtAs nm h rw r i os m:=by
 induction hb with
 | nil r i=>exact fun hr=>⟨hr,fun c=>by simp,fun c _ j hj=>by simp at hj,by simp [z31],by simp⟩
 | @cons r i o os m hn hb ih =>
  intro hr;have H:=ih (zb3 hr (c:=z7r nm h rw i o) hn);refine ⟨H.sorted,fun c=>?_,fun c hc j hj=>?_,?_,?_⟩
  ·rw [H.mem,put_mem]
   constructor
   ·rintro ((rfl|h1)|⟨j,q,h1,h2⟩)
    ·exact .inr ⟨0,o,rfl,rfl⟩
    ·exact .inl h1
    ·exact .inr ⟨j+1,q,by simpa using h1,by rw [h2,show i+1+j=i+(j+1) by omega]⟩
   ·rintro (h1|⟨j,q,h1,h2⟩)
    ·exact .inl (.inr h1)
    ·cases j with
     | zero =>
      simp only [zY05,zY00] at h1;subst h1;exact .inl (.inl h2)
     | succ j=>exact .inr ⟨j,q,by simpa using h1,by rw [h2,show i+1+j=i+(j+1) by omega]⟩
  ·cases j with
   | zero=>exact hasP_not.1 hn c hc
   | succ j =>
    have:=H.free c (put_mem.2 (.inr hc)) j (by simpa using hj)
    rwa [show i+1+j=i+(j+1) by omega] at this
  ·rw [H.total,z0j5]
   simp only [z31,zY1q,List.sum_cons,z7r];omega
  ·rw [H.len]
   simp only [zY04,zY0d,zY10,zY0g,zY17];omega
theorem Brought.of {nm h:Int} {rw:Bool}:∀ {os:List Out} {r:List Coin} {i:Nat},z0n r→(∀ c ∈ r,∀ j,j<os.length→c.p≠⟨nm,((i+j:Nat):Int)⟩)→∃ m,Brought nm h rw r i os m
 | [],r,i,_,_=>⟨r,.nil r i⟩
 | o::os,r,i,hr,hf=>by
  have hn:z3p r ⟨nm,i⟩=false:=hasP_not.2 fun c hc=>hf c hc 0 (by simp)
  obtain ⟨m,hb⟩:=Brought.of (os:=os) (i:=i+1) (zb3 hr (c:=z7r nm h rw i o) hn) fun c hc j hj=>by
   rcases put_mem.1 hc with rfl|hc
   ·simp only [z7r,ne_eq,Point.mk.injEq,not_and]
    intro _;omega
   ·have:=hf c hc (j+1) (by simpa using hj)
    rwa [show i+(j+1)=i+1+j by omega] at this
  exact ⟨m,.cons hn hb⟩
theorem z0j6 (os:List Out):∀ s:Int,os.foldl (fun s o=>s - o.coin) s=s - z31 os:=by
 induction os with
 | nil=>intro s;simp [z31]
 | cons o os ih=>intro s;rw [zY3l,ih];simp only [z31,zY1q,List.sum_cons];omega
theorem zij (t:Tx) (s:List Coin):z1u t s=zh s - z31 t.outs:=by
 unfold z1u;rw [z0j6,z07o];omega
structure Done (l:List Coin) (t:Tx) (nm h:Int) (r s m:List Coin):Prop where
 ok:CoinsOK l
 tx:zj t=0
 nm1:1≤nm
 nm2:nm≤120
 h1:1≤h
 h2:h≤1000
 height:t.ins.length=0→t.height=h
 spent:Spent h l [] t.ins r s
 fee:t.ins.length≠0→0≤z1u t s
 brought:Brought nm h (decide ((t.ins.length:Int)=0)) r 0 t.outs m
 end_:CoinsOK m
theorem Done.run {l:List Coin} {t:Tx} {nm h:Int} {r s m:List Coin} (d:Done l t nm h r s m):zw l t nm h=(m,s,0):=by
 unfold zw;have hE:zb1 s m=(m,s,0):=by
  unfold zb1;rw [if_neg (by rw [(z0r m).2 d.end_];decide)]
 have a:=d.nm1;have b:=d.nm2;have c:=d.h1;have e:=d.h2;rw [if_neg (by rw [(z0r l).2 d.ok];decide),if_neg (by rw [d.tx];decide),if_neg (by omega)]
 by_cases h0:(t.ins.length:Int)=0
 ·rw [if_pos h0,if_neg (by rw [d.height (by omega)];simp),d.spent.run,d.brought.run,hE]
 ·rw [if_neg h0,d.spent.run,if_neg (by have:=d.fee (by omega);omega),d.brought.run,hE]
theorem zb4 {l:List Coin} {t:Tx} {nm h:Int} (h0:(zw l t nm h).2.2=0):∃ r,Done l t nm h r (zw l t nm h).2.1 (zw l t nm h).1:=by
 have key:∃ r s m,Done l t nm h r s m:=by
  unfold zw at h0
  by_cases k1:z00 l=0
  ·rw [if_neg (by rw [k1];decide)] at h0
   have ok:=(z0r l).1 k1
   by_cases k2:zj t=0
   ·rw [if_neg (by rw [k2];decide)] at h0
    by_cases k3:nm<1∨120<nm∨h<1∨1000<h
    ·rw [if_pos k3] at h0;cases h0
    ·rw [if_neg k3] at h0
     by_cases k4:(t.ins.length:Int)=0
     ·rw [if_pos k4] at h0
      by_cases k5:t.height≠h
      ·rw [if_pos k5] at h0;cases h0
      ·rw [if_neg k5] at h0
       obtain ⟨r,s,q1,q2⟩:=zni ok.sorted h0;rw [q2] at h0;obtain ⟨m,q3,q4⟩:=znj h0;rw [q4] at h0;unfold zb1 at h0
       by_cases k6:z00 m=0
       ·exact ⟨r,s,m,ok,k2,by omega,by omega,by omega,by omega,fun _=>zY0i.1 k5,q1,fun h=>absurd (by omega) h,q3,(z0r m).1 k6⟩
       ·rw [if_pos k6] at h0;exact absurd h0 k6
     ·rw [if_neg k4] at h0
      obtain ⟨r,s,q1,q2⟩:=zni ok.sorted h0;rw [q2] at h0
      by_cases k5:z1u t s<0
      ·simp only [if_pos k5] at h0;cases h0
      ·simp only [if_neg k5] at h0
       obtain ⟨m,q3,q4⟩:=znj h0;rw [q4] at h0;unfold zb1 at h0
       by_cases k6:z00 m=0
       ·exact ⟨r,s,m,ok,k2,by omega,by omega,by omega,by omega,fun h=>absurd (by omega) k4,q1,fun _=>by omega,q3,(z0r m).1 k6⟩
       ·rw [if_pos k6] at h0;exact absurd h0 k6
   ·rw [if_pos k2] at h0;exact absurd h0 k2
  ·rw [if_pos k1] at h0;exact absurd h0 k1
 obtain ⟨r,s,m,d⟩:=key;refine ⟨r,?_⟩;rw [d.run];exact d
end
section
open Go.RowKit
theorem z04c {ρ:Type} {nm h:Int} {rw:Bool} {bad:Int→ρ} {K:List Coin→ρ}:∀ {os:List Out} {r m:List Coin} {i:Nat},z0n r→Brought nm h rw r i os m→zy5 nm bad K m i os=K r
 | [],r,m,i,hr,hb=>by cases hb;rfl
 | o::os,r,m,i,hr,hb=>by
  have B:=hb.as hr;have hmem:z7r nm h rw i o ∈ m:=(B.mem _).2 (.inr ⟨0,o,rfl,rfl⟩);have hp:z3p m ⟨nm,i⟩=true:=hasP_mem.2 ⟨_,hmem,rfl⟩;have hat:m[z02 m ⟨nm,i⟩]? = some (z7r nm h rw i o):=z04b B.sorted hmem;have hfree:∀ c ∈ r,∀ j,j<os.length→c.p≠⟨nm,((i+1+j:Nat):Int)⟩:=fun c hc j hj=>by
   have:=B.free c hc (j+1) (by simpa using hj)
   rwa [show i+(j+1)=i+1+j by omega] at this
  obtain ⟨m2,hb2⟩:=Brought.of (nm:=nm) (h:=h) (rw:=rw) (os:=os) (r:=r) (i:=i+1) hr hfree;have B2:=hb2.as hr;have he:m.take (z02 m ⟨nm,i⟩)++m.drop (z02 m ⟨nm,i⟩+1)=m2:=by
   refine zii (zb2 B.sorted _) B2.sorted fun c=>?_
   rw [zsg B.sorted hat,B.mem,B2.mem];constructor
   ·rintro ⟨h1|⟨j,q,h1,rfl⟩,h2⟩
    ·exact .inl h1
    ·cases j with
     | zero=>exact absurd rfl h2
     | succ j=>exact .inr ⟨j,q,by simpa using h1,by rw [show i+1+j=i+(j+1) by omega]⟩
   ·rintro (h1|⟨j,q,h1,rfl⟩)
    ·exact ⟨.inl h1,by have:=B.free c h1 0 (by simp);exact this⟩
    ·refine ⟨.inr ⟨j+1,q,by simpa using h1,by rw [show i+1+j=i+(j+1) by omega]⟩,?_⟩
     simp only [z7r,ne_eq,Point.mk.injEq,not_and];intro _;omega
  rw [zy5,if_pos hp,hat];simp only [zY1h];rw [if_pos (by simp [z7r]),he];exact z04c hr hb2
theorem z04d {ρ:Type} {ins:List In} {bad:Int→ρ} {K:List Coin→ρ}:∀ {cs r:List Coin} {k:Nat},z0n r→(∀ c ∈ cs,∀ d ∈ r,d.p≠c.p)→cs.Pairwise (fun c d=>c.p≠d.p)→(∀ (j:Nat) (c:Coin),cs[j]? = some c→∃ x,ins[k+j]? = some x∧x.p=c.p)→∃ q,zy6 ins bad K r k cs=K q∧z0n q∧∀ c,c ∈ q↔c ∈ r∨c ∈ cs
 | [],r,k,hr,_,_,_=>⟨r,rfl,hr,fun c=>by simp⟩
 | c::cs,r,k,hr,hd,hp,hi=>by
  have hn:z3p r c.p=false:=hasP_not.2 fun d hd'=>hd c (zY0b ..) d hd'
  obtain ⟨x,hx,hxp⟩:=hi 0 c rfl;have hp':=zY1k.1 hp;obtain ⟨q,h1,h2,h3⟩:=z04d (bad:=bad) (K:=K) (cs:=cs) (r:=r.take (z02 r c.p)++[c]++r.drop (z02 r c.p)) (k:=k+1) (zb3 hr hn) (fun e he d hd'=>by
   rcases put_mem.1 hd' with rfl|hd'
   ·exact hp'.1 e he
   ·exact hd e (zY08 _ he) d hd') hp'.2 fun j e he=>by
    obtain ⟨y,hy,hyp⟩:=hi (j+1) e (by simpa using he);exact ⟨y,by rwa [show k+(j+1)=k+1+j by omega] at hy,hyp⟩
  refine ⟨q,?_,h2,fun e=>?_⟩
  ·rw [zy6,if_neg (by simp [hn]),show k=k+0 from rfl,hx]
   simp only [zY1h];rw [if_neg (by simp [hxp])];exact h1
  ·rw [h3,put_mem,zY0f]
   constructor
   ·rintro ((rfl|h)|h)
    ·exact .inr (.inl rfl)
    ·exact .inl h
    ·exact .inr (.inr h)
   ·rintro (h|rfl|h)
    ·exact .inl (.inr h)
    ·exact .inl (.inl rfl)
    ·exact .inr h
theorem SpentAs.apart' {h:Int} {l:List Coin} {xs:List In} {r cs:List Coin} (S:SpentAs h l xs r cs):cs.Pairwise fun c d=>c.p≠d.p:=by
 rw [zY22];intro i j hi hj hij;have hl:=S.len;obtain ⟨c,h1,_,h2⟩:=S.fine i xs[i] (zY03 (by omega));obtain ⟨d,h3,_,h4⟩:=S.fine j xs[j] (zY03 (by omega));rw [zY03 hi] at h1;rw [zY03 hj] at h3;injection h1 with h1
 injection h3 with h3
 rw [h1,h3,h2.p,h4.p];exact zY22.1 S.apart i j (by omega) (by omega) hij
theorem SpentAs.from {h:Int} {l:List Coin} {xs:List In} {r cs:List Coin} (S:SpentAs h l xs r cs) {c:Coin} (hc:c ∈ cs):c ∈ l∧∃ x ∈ xs,x.p=c.p:=by
 obtain ⟨i,hi,rfl⟩:=zY2g hc;have hl:=S.len;obtain ⟨c,h1,h2,h3⟩:=S.fine i xs[i] (zY03 (by omega));rw [zY03 hi] at h1;injection h1 with h1
 rw [h1];exact ⟨h2,_,zY1l _,h3.p.symm⟩
theorem SpentAs.all {h:Int} {l:List Coin} {xs:List In} {r cs:List Coin} (S:SpentAs h l xs r cs) (hs:z0n l) {c:Coin}:c ∈ l↔c ∈ r∨c ∈ cs:=by
 constructor
 ·intro hc
  by_cases hx:∃ x ∈ xs,x.p=c.p
  ·obtain ⟨x,hx,he⟩:=hx
   obtain ⟨i,hi⟩:=zY2d hx;obtain ⟨d,h1,h2,h3⟩:=S.fine i x hi;have:d=c:=zmm hs h2 hc (h3.p.trans he);subst this;exact .inr (zY07 h1)
  ·exact .inl ((S.mem c).2 ⟨hc,fun x hx' he=>hx ⟨x,hx',he⟩⟩)
 ·rintro (hc|hc)
  ·exact ((S.mem c).1 hc).1
  ·exact (S.from hc).1
theorem Done.spentAs {l:List Coin} {t:Tx} {nm h:Int} {r s m:List Coin} (d:Done l t nm h r s m):SpentAs h l t.ins r s:=by
 obtain ⟨cs,e,S⟩:=d.spent.as d.ok.sorted;rw [zY0z] at e;exact e ▸ S
theorem Done.broughtAs {l:List Coin} {t:Tx} {nm h:Int} {r s m:List Coin} (d:Done l t nm h r s m):BroughtAs nm h (decide ((t.ins.length:Int)=0)) r 0 t.outs m:=d.brought.as d.spentAs.sorted
theorem Done.back {l:List Coin} {t:Tx} {nm h:Int} {r s m:List Coin} (d:Done l t nm h r s m):z76 m t nm s=(l,0):=by
 have S:=d.spentAs;unfold z76;rw [if_neg (by rw [(z0r m).2 d.end_];decide),if_neg (by rw [d.tx];decide),if_neg (by have:=S.len;omega),z04c S.sorted d.brought];obtain ⟨q,h1,h2,h3⟩:=z04d (ins:=t.ins) (bad:=znh) (K:=endR) (cs:=s) (r:=r) (k:=0) S.sorted (fun c hc e he=>by
  obtain ⟨_,x,hx,hxp⟩:=S.from hc;rw [← hxp];exact fun e'=>((S.mem e).1 he).2 x hx e'.symm) S.apart' fun j c hc=>by
   have hj:=(zY02.1 hc).1;have hl:=S.len;obtain ⟨c',k1,_,k3⟩:=S.fine j t.ins[j] (zY03 (by omega));rw [hc] at k1;injection k1 with k1
   exact ⟨t.ins[j],by rw [zY0s];exact zY03 (by omega),by rw [k1,k3.p]⟩
 rw [h1];have:q=l:=zii h2 d.ok.sorted fun c=>by rw [h3,S.all d.ok.sorted]
 subst this;unfold endR;rw [if_neg (by rw [(z0r q).2 d.ok];decide)]
theorem Done.short {l:List Coin} {t:Tx} {nm h:Int} {r s m:List Coin} (d:Done l t nm h r s m):z58 s:=by
 have S:=d.spentAs;exact ⟨by have:=S.len;have:=(z8x d.tx).ins;omega,fun c hc=>d.ok.short.2 c (S.from hc).1⟩
theorem z04e {t:Tx} (ok:TxOK t):0<z31 t.outs:=by
 have key:∀ os:List Out,(∀ o ∈ os,1≤o.coin)→(os.length:Int)≤z31 os:=by
  intro os
  induction os with
  | nil=>intro _;simp [z31]
  | cons o os ih =>
   intro h;have h1:=h o (zY0b ..);have h2:=ih fun x hx=>h x (zY08 _ hx)
   simp only [z31,zY1q,List.sum_cons,zY0g] at h2 ⊢;omega
 have:=key t.outs fun o ho=>(ok.good o ho).1
 have:=ok.some;omega
theorem z0j7 {m:List Coin} {p:Point} (ok:CoinsOK m) (h:z3p m p=false):z03l m p=(z9q,7):=by
 unfold z03l;rw [if_neg (by rw [(z0r m).2 ok];decide),if_neg (by simp [h])]
theorem Done.gone {l:List Coin} {t:Tx} {nm h:Int} {r s m:List Coin} (d:Done l t nm h r s m) {x:In} (hx:x ∈ t.ins) (hn:x.p.tx≠nm):z03l m x.p=(z9q,7):=by
 have S:=d.spentAs;have B:=d.broughtAs;refine z0j7 d.end_ (hasP_not.2 fun c hc e=>?_);rcases (B.mem c).1 hc with hc|⟨j,o,_,rfl⟩
 ·exact ((S.mem c).1 hc).2 x hx e.symm
 ·exact hn (by rw [← e];rfl)
end
section
open Go.RowKit
open Go.Lib (itoa)
set_option maxRecDepth 100000
set_option maxHeartbeats 4000000
def zbo (b:Block) (ns:List Int) (l:List Coin) (us:List Undo) (most:Int):List Coin × List Undo × Int :=
 if most < -z1u (b.txs.getD 0 zTx) [] then ([],[],9) else
 if (zw l (b.txs.getD 0 zTx) (ns.getD 0 0) b.height).2.2≠0 then ([],[],(zw l (b.txs.getD 0 zTx) (ns.getD 0 0) b.height).2.2) else
 ((zw l (b.txs.getD 0 zTx) (ns.getD 0 0) b.height).1,us.set 0 ⟨(zw l (b.txs.getD 0 zTx) (ns.getD 0 0) b.height).2.1⟩,0)
def z5s (b:Block) (ns:List Int) (l:List Coin) (us:List Undo) (most:Int) (i:Nat):List Tx→List Coin × List Undo × Int
 | []=>zbo b ns l us most
 | t::r=>if (zw l t (ns.getD i 0) b.height).2.2≠0 then ([],[],(zw l t (ns.getD i 0) b.height).2.2) else
  z5s b ns (zw l t (ns.getD i 0) b.height).1 (us.set i ⟨(zw l t (ns.getD i 0) b.height).2.1⟩) (most+z1u t (zw l t (ns.getD i 0) b.height).2.1) (i+1) r
def z28 (k:Book) (l:List Coin) (b:Block):List Coin × List Undo × Int :=
 if z00 l≠0 then ([],[],z00 l) else
 if (z01 k b).2.2.2≠0 then ([],[],(z01 k b).2.2.2) else
 z5s b (z01 k b).2.2.1 l (List.replicate b.txs.length ⟨[]⟩) (z1f b.height) 1 (b.txs.drop 1)
theorem zq4 {k:Book} {b:Block} (h:(z01 k b).2.2.2=0):zd b=0∧(z01 k b).2.2.1.length=b.txs.length:=by
 unfold z01 at h ⊢
 by_cases hp:(z0q b).2=0
 ·rw [if_neg (fun k=>k hp)] at h ⊢
  refine ⟨zcy hp,?_⟩;unfold z9w at h ⊢
  by_cases ha:(z12 k (z3d b++[(z0q b).1])).2.2=0
  ·rw [if_neg (fun k=>k ha)]
   have:=zmi ha;have h1:(z3d b).length=b.txs.length:=by simp [z3d]
   show (List.take _ _).length=_
   rw [zY0d,this,zY04,h1,zY19];omega
  ·rw [if_pos ha] at h;exact absurd h ha
 ·rw [if_pos hp] at h;exact absurd h hp
theorem z0od {t:Tx} (h:zj t=0):zh9 (t,[]):=by
 have ok:=z8x h;exact ⟨by simp,by simp,by have:=ok.outs;simp only;omega,fun o ho=>by have:=ok.good o ho;omega⟩
theorem z0rx {t:Tx} (ok:TxOK t):z31 t.outs≤1000000000 * t.outs.length:=by
 have key:∀ os:List Out,(∀ o ∈ os,o.coin≤1000000000)→z31 os≤1000000000 * os.length:=by
  intro os
  induction os with
  | nil=>intro _;simp [z31]
  | cons o os ih =>
   intro h;have h1:=h o (zY0b ..);have h2:=ih fun x hx=>h x (zY08 _ hx)
   simp only [z31,zY1q,List.sum_cons,zY0g] at h2 ⊢;omega
 exact key t.outs fun o ho=>(ok.good o ho).2.1
theorem z0ry {t:Tx} (h:zj t=0) : -10000000000≤z1u t []∧z1u t []<0:=by
 have ok:=z8x h;have h1:=z04e ok;have h2:=z0rx ok;have h3:=ok.outs;rw [zij];simp only [zh];omega
theorem zkh {l:List Coin} {t:Tx} {nm h:Int} (h0:(zw l t nm h).2.2=0):zh9 (t,(zw l t nm h).2.1) ∧ -10000000000≤z1u t (zw l t nm h).2.1∧z1u t (zw l t nm h).2.1≤10000000000:=by
 obtain ⟨r,d⟩:=zb4 h0;generalize (zw l t nm h).2.1=s at *;generalize (zw l t nm h).1=m at *;have ok:=z8x d.tx;have S:=d.spentAs;have B:=d.broughtAs;have h1:=S.total;have h2:=B.total;have hl:=d.ok.total;have hm:=d.end_.total;have hr:0≤zh r:=zeh fun c hc=>d.ok.good c ((S.mem c).1 hc).1
 have hs:0≤zh s:=zeh fun c hc=>d.ok.good c (S.from hc).1
 have ho:=z04e ok;have hsl:=S.len;have:=ok.ins;have:=ok.outs;refine ⟨⟨by simp only;omega,fun c hc=>by have:=z61 (d.ok.good c (S.from hc).1);omega,by simp only;omega,fun o ho=>by have:=ok.good o ho;omega⟩,?_⟩;rw [zij];omega
section
variable {sp:Nat→z7} {N:Nat} {E E':Env} {ks:List (List Dt→Option (List Dt))} {res:Option (List Dt)} {k:T}
theorem z0oe {a:Atom} {n:Nat} (ha:a.val E=some (I n)) (h:n≤1000):denX sp E (.mkz 1 [.nil 6] a)=some (.l 1 ((List.replicate n (⟨[]⟩:Undo)).map zda)):=by
 rw [z0i6 (sz:=1) (z:=[.nil 6]) ha (by omega) (by omega) rfl,zY1z,List.map_replicate];rfl
theorem zlv {α:Type} {f:α→List Dt} {l:List α} {x y:α} {sz j n:Nat} {m:Int} {a b:Atom} {vs:List Atom} {ds:List Dt} (hm:m.toNat=n) (ha:a.val E=some (.l sz (l.map f))) (hb:b.val E=some (I m)) (hv:vals E vs=some ds) (h0:0≤m) (hs:j+ds.length≤sz) (hx:l[n]? = some x) (hy:z7w (f x) j ds=f y):denX sp E (.set a b j vs)=some (.l sz ((l.set n y).map f)):=by
 subst hm;exact zpf ha hb hv h0 hs hx hy
end
theorem zet {α:Type} {l:List α} {i:Nat} (d:α) (h:i<l.length):l[i]? = some (l.getD i d):=by
 rw [zY0u,zY03 h];rfl
def zq5 (b:Block) (ns:List Int) (us:List Undo) (l:List Coin):Nat→List Coin × Int
 | 0=>(l,0)
 | i+1=>if (z76 l (b.txs.getD (i+1) zTx) (ns.getD (i+1) 0) (us.getD (i+1) ⟨[]⟩).spent).2≠0 then ([],(z76 l (b.txs.getD (i+1) zTx) (ns.getD (i+1) 0) (us.getD (i+1) ⟨[]⟩).spent).2) else
  zq5 b ns us (z76 l (b.txs.getD (i+1) zTx) (ns.getD (i+1) 0) (us.getD (i+1) ⟨[]⟩).spent).1 i
def z0cu (k:Book) (l:List Coin) (b:Block) (us:List Undo):List Coin × Int :=
 if z00 l≠0 then ([],z00 l) else
 if (z01 k b).2.2.2≠0 then ([],(z01 k b).2.2.2) else
 if (us.length:Int)≠b.txs.length then ([],4) else
 if (z76 l (b.txs.getD 0 zTx) ((z01 k b).2.2.1.getD 0 0) (us.getD 0 ⟨[]⟩).spent).2≠0 then ([],(z76 l (b.txs.getD 0 zTx) ((z01 k b).2.2.1.getD 0 0) (us.getD 0 ⟨[]⟩).spent).2) else
 zq5 b (z01 k b).2.2.1 us (z76 l (b.txs.getD 0 zTx) ((z01 k b).2.2.1.getD 0 0) (us.getD 0 ⟨[]⟩).spent).1 (b.txs.length - 1)
noncomputable def z7i:z7:=spD (fun _:Book × List Coin × Block=>True) fun x=>z28 x.1 x.2.1 x.2.2
theorem znk (k:Book) (l:List Coin) (b:Block):z7i [.l 1 (k.texts.map z05),.l 6 (l.map z04),I b.parent,I b.height,I b.work,I b.nonce,.l 3 (b.txs.map eTx)]=some [.l 6 ((z28 k l b).1.map z04),.l 1 ((z28 k l b).2.1.map zda),I (z28 k l b).2.2]:=za (f:=fun x:Book × List Coin × Block=>z28 x.1 x.2.1 x.2.2) (k,l,b) trivial
def z77 (us:List Undo):Prop:=∀ u ∈ us,z58 u.spent
theorem z0j8:z58 []:=⟨by simp,by simp⟩
theorem z04f (n:Int):0≤z1f n∧z1f n≤1000:=by
 have h:=zk8 n;exact h
attribute [local irreducible] den denX z0x z1c
attribute [local irreducible] z0i spD zw z76 z1u z01 z00 z1f
def zsh:T :=
 .lets [.call 13 [35,36,37,38] 0] [] (.lets [.bin .add 22 39] [] (.lets [.bin .add 23 (zI 1)] [] (.again 0 [30,19,33,32,40,
 .v 41])))
def zsi:T :=
 .lets [.idx 6 23 0,.idx 6 23 1,.idx 6 23 2] [] (.lets [] [.inr 1 33 23] (.lets [.idx 33 23 0] [] zsh))
def zsj:T :=
 .lets [.set 20 23 0 [31]] [] (.lets [.bin .neq 32 (zI 0)] [] (.ite 34 (.ret [.c (.nil 6),.c (.nil 1),32]) (.lets [] [.inr 3 6 23]
 zsi)))
def zsk:T :=
 .lets [.call 18 [18,26,27,28,29,3] 0,.call 18 [18,26,27,28,29,3] 1,.call 18 [18,26,27,28,29,3] 2] [] (.lets []
 [.inr 1 20 23] zsj)
def zsl:T :=
 .lets [.idx 6 23 0,.idx 6 23 1,.idx 6 23 2] [] (.lets [] [.inr 1 11 23] (.lets [.idx 11 23 0] [] zsk))
def zsm:T :=
 .lets [.set 20 (zI 0) 0 [37]] [] (.lets [.bin .neq 38 (zI 0)] [] (.ite 40 (.ret [.c (.nil 6),.c (.nil 1),38]) (.ret [36,39,.c (.i
 .i64 0)])))
def zsn:T :=
 .lets [.call 18 [18,32,33,34,35,3] 0,.call 18 [18,32,33,34,35,3] 1,.call 18 [18,32,33,34,35,3] 2] [] (.lets []
 [.inr 1 20 (zI 0)] zsm)
def zso:T :=
 .lets [.idx 6 (zI 0) 0,.idx 6 (zI 0) 1,.idx 6 (zI 0) 2] [] (.lets [] [.inr 1 11 (zI 0)] (.lets [.idx 11 (.c (.i
 .i64 0)) 0] [] zsn))
def zsp:T :=
 .lets [.neg 29] [] (.lets [.bin .gtr 30 22] [] (.ite 31 (.ret [.c (.nil 6),.c (.nil 1),zI 9]) (.lets [] [.inr 3 6 (zI 0)]
 zso)))
def zsq:T :=
 .lets [.idx 6 (zI 0) 0,.idx 6 (zI 0) 1,.idx 6 (zI 0) 2] [] (.lets [.call 13 [26,27,28,.c (.nil 6)] 0] [] zsp)
def zq6:T :=
 .lets [.len 6] [] (.lets [.bin .lss 23 24] [] (.ite 25 (.lets [] [.inr 3 6 23] zsl) (.lets [] [.inr 3 6 (zI 0)]
 zsq)))
def zq7:T :=
 .lets [.call 53 [3] 0,.call 53 [3] 1] [] (.lets [.len 6] [] (.lets [.mkz 1 [.nil 6] 16] [] (.loop [1,.c (.nil 6),17,12,14,zI 1]
 zq6)))
def zq8:T :=
 .lets [.call 52 [0,2,3,4,5,6] 0,.call 52 [0,2,3,4,5,6] 1,.call 52 [0,2,3,4,5,6] 2,.call 52 [0,2,3,
 .v 4,5,6] 3] [] (.lets [.bin .neq 12 (zI 0)] [] (.ite 13 (.ret [.c (.nil 6),.c (.nil 1),12]) zq7))
def zeu:T :=
 .lets [.call 8 [1] 0] [] (.lets [.bin .neq 7 (zI 0)] [] (.ite 8 (.ret [.c (.nil 6),.c (.nil 1),7]) zq8))
attribute [local irreducible] z5e z4b z66 z4j z6h
theorem z04g:Meets Tryz.prog z7i 140 ⟨[.agg 1,.one,.agg 5],[(false,[.pure]),(false,[.pure]),(false,[.scal])],false⟩:=by
 refine z8 (sp:=(zr [(8,z4j),(13,z6h),(18,z66),(52,z5e),(53,z4b)])) (sigs:=zy) (cut:=[]) (hints:=[⟨10,[.t 1,.r 6 83 6,.r 7 242 1,.t 8,.t 13,.t 15,.z 41]⟩]) (fn:=Tryz.f140) (t:=zeu) (by kernel_rfl) (by kernel_rfl) (by kernel_rfl) ?_ ?_
 ·exact (zl (L:=[(8,z4j),(13,z6h),(18,z66),(52,z5e),(53,z4b)]) ⟨z5 rfl zjy,z5 rfl zse,z5 rfl zv1,z5 rfl zpv,z5 rfl zk9,trivial⟩)
 ·rintro ds rs hok h
  obtain ⟨⟨k,l,b⟩,-,rfl,rfl⟩:=z9 h;clear h;refine ⟨⟨100,?_⟩,z10 ⟨rfl,trivial⟩⟩
  show den _ _ zeu [.l 1 (k.texts.map z05),.l 6 (l.map z04),I b.parent,I b.height,I b.work,I b.nonce,.l 3 (b.txs.map eTx)] []=ret (z28 k l b)
  have a1:=z7f l;have a2:=zh1 k b;have a3:=zem b.height;have hnm:=zq4 (k:=k) (b:=b);have hrw:0≤z1f b.height∧z1f b.height≤1000:=z04f b.height;unfold zeu z28;generalize z01 k b=nm at *;obtain ⟨tx,n0,ns,e⟩:=nm;generalize z1f b.height=rw0 at *;simp only at *
  by_cases hc:z00 l=0
  rotate_left
  ·repeat' (first|refine dq1 ?_|refine dqk rfl (a1) ?_|exact z4 rfl rfl|refine tR (fun h=>?_) fun h=>?_|fail)
   all_goals (exfalso;omega)
  by_cases he:e=0
  rotate_left
  ·repeat' (first|refine dq1 ?_|refine dqk rfl (a1) ?_|refine dqK rfl (a2) ?_|exact z4 rfl rfl|refine tR (fun h=>?_) fun h=>?_|fail)
   all_goals (exfalso;omega)
  obtain ⟨hb,hnl⟩:=hnm he;have ok:=z3z hb;have hl4:=ok.len;have hl1:=ok.some;subst he
  repeat' (first|refine dq1 ?_|refine dqk rfl (a1) ?_|refine dqK rfl (a2) ?_|refine dqK rfl (a3) ?_|refine z6 (z0oe rfl (by omega)) ?_|exact z4 rfl rfl|refine tR (fun h=>?_) fun h=>?_|fail)
  have hdl:(b.txs.drop 1).length=b.txs.length - 1:=by simp
  (refine zm (fun (a:List Coin × List Undo × Int) k=>[.l 6 (a.1.map z04),.l 6 [],.l 1 (a.2.1.map zda),I 0,I a.2.2,I (k+1)]) (fun (a:List Coin × List Undo × Int) k (r:List Tx)=>z5s b ns a.1 a.2.1 a.2.2 (k+1) r) (fun a k=>a.2.1.length=b.txs.length ∧ -(10000000000 * ((k:Int)+1))≤a.2.2∧a.2.2≤10000000000 * ((k:Int)+1)) (l,List.replicate b.txs.length ⟨[]⟩,rw0) (b.txs.drop 1) ?_ ?_ ?_ ?_ ?_;rfl;exact ⟨by simp,by simp only;omega,by simp only;omega⟩;omega)
  ·rintro ⟨l,us,most⟩ i x r hx hd hk ⟨hu,m1,m2⟩ again hag
   simp only at hu m1 m2 hag ⊢;have hx':b.txs[((i:Int)+1).toNat]? = some x:=by
    rw [show ((i:Int)+1).toNat=1+i by omega,← zY1e];exact hx
   have hn':ns[((i:Int)+1).toNat]? = some (ns.getD (i+1) 0):=by
    rw [show ((i:Int)+1).toNat=i+1 by omega];exact zet 0 (by omega)
   have hu':us[i+1]? = some (us.getD (i+1) ⟨[]⟩):=zet _ (by omega);rw [z5s];have a4:=zd1 l x (ns.getD (i+1) 0) b.height;have hfee:=zkh (l:=l) (t:=x) (nm:=ns.getD (i+1) 0) (h:=b.height);generalize ns.getD (i+1) 0=nm at *;generalize us.getD (i+1) ⟨[]⟩=u0 at *;generalize zw l x nm b.height=q at *;obtain ⟨l2,sp,f⟩:=q;simp only at a4 hfee ⊢
   by_cases hf:f=0
   ·obtain ⟨hd1,hd2,hd3⟩:=hfee hf
    subst hf;rw [if_neg (fun h=>h rfl)];have a5:=zc6 x sp hd1;have hs1:(us.set (i+1) (⟨sp⟩:Undo))[((i:Int)+1).toNat]? = some ⟨sp⟩:=by
     rw [show ((i:Int)+1).toNat=i+1 by omega];exact zY0c (by omega)
    have hsl:(us.set (i+1) (⟨sp⟩:Undo)).length=us.length:=zY1d ..;generalize z1u x sp=fe at *
    repeat' (first|refine dq1 ?_|refine dqc ?_|refine dqm ?_|refine dqK rfl (a4) ?_|refine dqk rfl (a5) ?_|refine z6 (zlv (n:=i+1) (x:=u0) (y:=⟨sp⟩) (by omega) rfl rfl rfl (by omega) (zY0p _) hu' rfl) ?_|refine dqT ?_|refine dqF ?_|fail)
    exact zb rfl rfl (hag (l2,us.set (i+1) ⟨sp⟩,most+fe) ⟨by simpa using hu,by simp only;omega,by simp only;omega⟩)
   ·rw [if_pos hf]
    repeat' (first|refine dq1 ?_|refine dqc ?_|refine dqm ?_|refine dqK rfl (a4) ?_|refine z6 (zlv (n:=i+1) (x:=u0) (y:=⟨sp⟩) (by omega) rfl rfl rfl (by omega) (zY0p _) hu' rfl) ?_|exact z4 rfl rfl|refine dqT ?_|fail)
  ·rintro ⟨l,us,most⟩ ⟨hu,m1,m2⟩ again
   simp only at hu m1 m2 ⊢;have ht0:b.txs[(0:Int).toNat]? = some (b.txs.getD 0 zTx):=zet _ hl1;have hn0:ns[(0:Int).toNat]? = some (ns.getD 0 0):=zet _ (by omega);have hu0:us[0]? = some (us.getD 0 ⟨[]⟩):=zet _ (by omega);have e0:z5s b ns l us most ((b.txs.drop 1).length+1) []=zbo b ns l us most:=by rw [z5s]
   rw [e0];unfold zbo;have hct:=ok.each (b.txs.getD 0 zTx) (zY07 ht0);obtain ⟨f1,f2⟩:=z0ry hct;have a5:=zc6 (b.txs.getD 0 zTx) [] (z0od hct);have a4:=zd1 l (b.txs.getD 0 zTx) (ns.getD 0 0) b.height;generalize b.txs.getD 0 zTx=t0 at *;generalize ns.getD 0 0=nm at *;generalize us.getD 0 ⟨[]⟩=u0 at *;generalize z1u t0 []=fe at *;generalize zw l t0 nm b.height=q at *;obtain ⟨l2,sp,f⟩:=q;simp only at a4 ⊢
   repeat' (first|refine dq1 ?_|refine dqc ?_|refine dqm ?_|refine dqK rfl (a4) ?_|refine dqk rfl (a5) ?_|refine z6 (zlv (n:=0) (x:=u0) (y:=⟨sp⟩) rfl rfl rfl rfl (by omega) (zY0p _) hu0 rfl) ?_|exact z4 rfl rfl|refine tR (fun h=>?_) fun h=>?_|refine dqF ?_|fail)
end
section
open Go.RowKit
open Go.Lib (itoa)
set_option maxRecDepth 100000
set_option maxHeartbeats 4000000
def z3e (k:Book) (t:Tree) (n:Int):List Int × Int:=if zg k≠0 then ([],zg k) else z4l t n
def z0w (k:Book) (t:Tree):List Coin→List Int→List Coin × Int
 | l,[]=>(l,0)
 | l,n::r=>if (z28 k l (z0a t n)).2.2≠0 then ([],(z28 k l (z0a t n)).2.2) else z0w k t (z28 k l (z0a t n)).1 r
def ze (k:Book) (t:Tree) (n:Int):List Coin × Int:=if (z3e k t n).2≠0 then ([],(z3e k t n).2) else z0w k t [] (z3e k t n).1
def z0pz:List Int→List Int→Nat
 | a::x,b::y=>if a=b then z0pz x y+1 else 0
 | _,_=>0
theorem zq9 (n:Nat):z77 (List.replicate n ⟨[]⟩):=fun u hu=>by
 rw [(List.mem_replicate.1 hu).2];exact z0j8
theorem zv2 {us:List Undo} (h:z77 us) {s:List Coin} (hs:z58 s) (i:Nat):z77 (us.set i ⟨s⟩):=fun u hu=>by
 rcases List.mem_or_eq_of_mem_set hu with hu|rfl
 ·exact h u hu
 ·exact hs
theorem zmn {l:List Coin} {t:Tx} {nm h:Int} (h0:(zw l t nm h).2.2=0):z58 (zw l t nm h).2.1:=(zb4 h0).choose_spec.short
theorem zki (b:Block) (ns:List Int):∀ (r:List Tx) (l:List Coin) (us:List Undo) (most:Int) (i:Nat),z77 us→z77 (z5s b ns l us most i r).2.1
 | [],l,us,most,i,h=>by
  rw [z5s];unfold zbo
  split
  ·exact fun u hu=>by cases hu
  split
  ·exact fun u hu=>by cases hu
  ·rename_i h1
   exact zv2 h (zmn (zY0i.1 h1)) 0
 | t::r,l,us,most,i,h=>by
  rw [z5s]
  split
  ·exact fun u hu=>by cases hu
  ·rename_i h1
   exact zki b ns r _ _ _ _ (zv2 h (zmn (zY0i.1 h1)) i)
theorem z04h (k:Book) (l:List Coin) (b:Block):z77 (z28 k l b).2.1:=by
 unfold z28
 split
 ·exact fun u hu=>by cases hu
 split
 ·exact fun u hu=>by cases hu
 ·exact zki _ _ _ _ _ _ _ (zq9 _)
section
variable {α:Type} {f:α→List Dt} {sp:Nat→z7} {E:Env}
end
attribute [local irreducible] den denX z0x z1c
attribute [local irreducible] z0i spD z28 z0cu z0a z4l zg z0pz
noncomputable def zdk:z7:=spD (fun _:Book × Tree × Int=>True) fun x=>z3e x.1 x.2.1 x.2.2
theorem zx6 (k:Book) (t:Tree) (n:Int):zdk [.l 1 (k.texts.map z05),.l 1 (t.names.map zf),.l 5 (t.blocks.map zi),I n]=some [.l 1 ((z3e k t n).1.map zf),I (z3e k t n).2]:=za (f:=fun x:Book × Tree × Int=>z3e x.1 x.2.1 x.2.2) (k,t,n) trivial
noncomputable def zdl:z7:=spD (fun _:Book × Tree × List Coin × List Int=>True) fun x=>z0w x.1 x.2.1 x.2.2.1 x.2.2.2
theorem zx7 (k:Book) (t:Tree) (l:List Coin) (r:List Int):zdl [.l 1 (k.texts.map z05),.l 1 (t.names.map zf),.l 5 (t.blocks.map zi),.l 6 (l.map z04),.l 1 (r.map zf)]=some [.l 6 ((z0w k t l r).1.map z04),I (z0w k t l r).2]:=za (f:=fun x:Book × Tree × List Coin × List Int=>z0w x.1 x.2.1 x.2.2.1 x.2.2.2) (k,t,l,r) trivial
noncomputable def z2t:z7:=spD (fun _:Book × Tree × Int=>True) fun x=>ze x.1 x.2.1 x.2.2
theorem z7j (k:Book) (t:Tree) (n:Int):z2t [.l 1 (k.texts.map z05),.l 1 (t.names.map zf),.l 5 (t.blocks.map zi),I n]=some [.l 6 ((ze k t n).1.map z04),I (ze k t n).2]:=za (f:=fun x:Book × Tree × Int=>ze x.1 x.2.1 x.2.2) (k,t,n) trivial
def z080:T :=
 .lets [.bin .neq 4 (zI 0)] [] (.ite 5 (.ret [.c (.nil 1),4]) (.lets [.call 64 [1,2,3] 0,.call 64 [1,2,3] 1] [] (.ret [6,7])))
def zkj:T :=
 .lets [.call 49 [0] 0] [] z080
def z081:T :=
 .lets [.bin .neq 20 (zI 0)] [] (.ite 21 (.ret [.c (.nil 6),20]) (.lets [.bin .add 9 (zI 1)] [] (.again 0 [6,7,18,22])))
def z082:T :=
 .lets [.call 54 [0,8,12,13,14,15,16] 0,.call 54 [0,8,12,13,14,15,16] 1,.call 54 [0,8,12,13,14,15,.v
 16] 2] [] z081
def z083:T :=
 .lets [.call 65 [1,2,11] 0,.call 65 [1,2,11] 1,.call 65 [1,2,11] 2,.call 65 [1,2,11] 3,.call 65 [1,2,11] 4,.call 65 [.v
 1,2,11] 5] [] z082
def z084:T :=
 .loop [.c (.nil 6),zI 0,3,zI 0] (.lets [.bin .lss 9 5] [] (.ite 10 (.lets [] [.inr 1 4 9] (.lets [.idx 4 9 0] []
 z083)) (.ret [8,zI 0])))
def zkk:T :=
 .lets [.len 4] [] z084
def z085:T :=
 .ite 6 (.ret [.c (.nil 6),5]) (.lets [.call 69 [0,1,2,.c (.nil 6),4] 0,.call 69 [0,1,2,.c (.nil 6),4] 1] [] (.ret [7,8]))
def zkl:T :=
 .lets [.call 68 [0,1,2,3] 0,.call 68 [0,1,2,3] 1] [] (.lets [.bin .neq 5 (zI 0)] [] z085)
attribute [local irreducible] z1o z5g
theorem z0j9:Meets Tryz.prog zdk 95 ⟨[.agg 1,.agg 2,.one],[(false,[.pure]),(false,[.scal])],false⟩:=by
 refine z8 (sp:=(zr [(49,z1o),(64,z5g)])) (sigs:=zy) (cut:=[]) (hints:=[]) (fn:=Tryz.f95) (t:=zkj) (by kernel_rfl) (by kernel_rfl) (by kernel_rfl) ?_ ?_
 ·exact (zl (L:=[(49,z1o),(64,z5g)]) ⟨z5 rfl zc3,z5 rfl zpy,trivial⟩)
 ·rintro ds rs - h
  obtain ⟨⟨k,t,n⟩,-,rfl,rfl⟩:=z9 h;clear h;refine ⟨⟨1,?_⟩,z10 ⟨rfl,trivial⟩⟩
  show den _ _ zkj [.l 1 (k.texts.map z05),.l 1 (t.names.map zf),.l 5 (t.blocks.map zi),I n] []=ret (z3e k t n)
  unfold zkj z3e
  repeat' (first|refine dq1 ?_|refine dqk rfl (z81 k) ?_|refine dqK rfl (zh6 t n) ?_|exact z4 rfl rfl|refine tR (fun h=>?_) fun h=>?_|fail)
attribute [local irreducible] z7i z1z
theorem z0ja:Meets Tryz.prog zdl 96 ⟨[.agg 1,.agg 2,.one,.one],[(false,[.pure]),(false,[.scal])],false⟩:=by
 refine z8 (sp:=(zr [(54,z7i),(65,z1z)])) (sigs:=zy) (cut:=[]) (hints:=[⟨2,[.r 8 83 6,.t 9,.t 2,.t 19]⟩]) (fn:=Tryz.f96) (t:=zkk) (by kernel_rfl) (by kernel_rfl) (by kernel_rfl) ?_ ?_
 ·exact (zl (L:=[(54,z7i),(65,z1z)]) ⟨z5 rfl z04g,z5 rfl zc5,trivial⟩)
 ·rintro ds rs hok h
  obtain ⟨⟨k,t,l,r⟩,-,rfl,rfl⟩:=z9 h;clear h;have hll:=z98 (hok (.l 1 (r.map zf)) (zY2y _ (zY2y _ (zY2y _ (zY0y.2 rfl)))));refine ⟨⟨r.length+1,?_⟩,z10 ⟨rfl,trivial⟩⟩
  show den _ _ zkk [.l 1 (k.texts.map z05),.l 1 (t.names.map zf),.l 5 (t.blocks.map zi),.l 6 (l.map z04),.l 1 (r.map zf)] []=ret (z0w k t l r)
  unfold zkk
  repeat' (first|refine dq1 ?_|fail)
  (refine zm (fun (l:List Coin) k=>[.l 6 [],I 0,.l 6 (l.map z04),I k]) (fun (l:List Coin) _ (r:List Int)=>z0w k t l r) (fun _ _=>True) l r ?_ ?_ ?_ ?_ ?_;rfl;exact trivial;omega)
  ·rintro l i n r hx hd hk - again hag
   have a1:=z83 t n;have a2:=znk k l (z0a t n);rw [z0w];have hag':=hag (z28 k l (z0a t n)).1 trivial;generalize z28 k l (z0a t n)=q at *;obtain ⟨l2,us,e⟩:=q;generalize z0a t n=b at *;simp only at *
   repeat' (first|refine dq1 ?_|refine dqc ?_|refine dqK rfl (a1) ?_|refine dqK rfl (a2) ?_|exact z4 rfl rfl|refine tR (fun h=>?_) fun h=>?_|refine dqT ?_|fail)
   exact zb rfl rfl hag'
  ·rintro l - again
   rw [z0w]
   repeat' (first|refine dq1 ?_|exact z4 rfl rfl|refine dqF ?_|fail)
theorem zfr:Meets Tryz.prog z2t 54 ⟨[.agg 1,.agg 2,.one],[(false,[.pure]),(false,[.scal])],false⟩:=by
 refine z8 (sp:=(zr [(68,zdk),(69,zdl)])) (sigs:=zy) (cut:=[]) (hints:=[]) (fn:=Tryz.f54) (t:=zkl) (by kernel_rfl) (by kernel_rfl) (by kernel_rfl) ?_ ?_
 ·exact (zl (L:=[(68,zdk),(69,zdl)]) ⟨z5 rfl z0j9,z5 rfl z0ja,trivial⟩)
 ·rintro ds rs - h
  obtain ⟨⟨k,t,n⟩,-,rfl,rfl⟩:=z9 h;clear h;refine ⟨⟨1,?_⟩,z10 ⟨rfl,trivial⟩⟩
  show den _ _ zkl [.l 1 (k.texts.map z05),.l 1 (t.names.map zf),.l 5 (t.blocks.map zi),I n] []=ret (ze k t n)
  have a1:=zx6 k t n;have a2:=zx7 k t [] (z3e k t n).1;unfold zkl ze;generalize z3e k t n=q at *;obtain ⟨r,e⟩:=q;simp only at *
  repeat' (first|refine dq1 ?_|refine dqK rfl (a1) ?_|refine dqK rfl (a2) ?_|exact z4 rfl rfl|refine tR (fun h=>?_) fun h=>?_|fail)
end
section
open Go.RowKit
set_option maxRecDepth 100000
theorem Done.total {l:List Coin} {t:Tx} {nm h:Int} {r s m:List Coin} (d:Done l t nm h r s m):zh m=zh l - z1u t s:=by
 have h1:=d.spentAs.total;have h2:=d.broughtAs.total;rw [zij];omega
theorem Done.most {l:List Coin} {t:Tx} {nm h:Int} {r s m:List Coin} (d:Done l t nm h r s m):zh m≤zh l - z1u t []:=by
 have S:=d.spentAs;have h1:=S.total;have h2:=d.broughtAs.total;have hs:0≤zh s:=zeh fun c hc=>d.ok.good c (S.from hc).1
 rw [zij];simp only [zh];omega
theorem zj4 {α:Type} {l:List α} {i:Nat} {x d:α} (h:i<l.length):(l.set i x).getD i d=x:=by
 rw [zY0u,zY0c h];rfl
theorem getD_set_ne {α:Type} {l:List α} {i j:Nat} {x d:α} (h:i≠j):(l.set i x).getD j d=l.getD j d:=by
 rw [zY0u,zY0h h,← zY0u]
theorem zmo {b:Block} {ns:List Int} {m:List Coin} {us':List Undo}:∀ (r:List Tx) (l:List Coin) (us:List Undo) (most:Int) (j:Nat),z5s b ns l us most (j+1) r=(m,us',0)→b.txs.drop (j+1)=r→us.length=b.txs.length→j+1≤b.txs.length →
  ∃ l1 us1 most1,zbo b ns l1 us1 most1=(m,us',0)∧us1.length=b.txs.length∧(∀ i,i≤j→us1.getD i ⟨[]⟩=us.getD i ⟨[]⟩)∧zh l1=zh l - (most1 - most) ∧
   ∀ U:List Undo,(∀ i,1≤i→U.getD i ⟨[]⟩=us1.getD i ⟨[]⟩)→zq5 b ns U l1 (b.txs.length - 1)=zq5 b ns U l j
 | [],l,us,most,j,h,hd,hu,hj=>by
  rw [z5s] at h;have hl:=congrArg List.length hd;rw [zY10,zY17] at hl;have e:b.txs.length - 1=j:=by omega
  exact ⟨l,us,most,h,hu,fun _ _=>rfl,by omega,fun U _=>by rw [e]⟩
 | t::r,l,us,most,j,h,hd,hu,hj=>by
  rw [z5s] at h
  by_cases he:(zw l t (ns.getD (j+1) 0) b.height).2.2=0
  rotate_left
  ·rw [if_pos he] at h
   exact absurd (congrArg (fun x=>x.2.2) h) he
  rw [if_neg (fun k=>k he)] at h;obtain ⟨rr,d⟩:=zb4 he;have hl:=congrArg List.length hd;rw [zY10,zY0g] at hl;have hd2:b.txs.drop (j+1+1)=r:=by rw [← zY33,hd];rfl
  have ht:b.txs.getD (j+1) zTx=t:=by
   rw [zY0u];have:(b.txs.drop (j+1))[0]? = some t:=by rw [hd];rfl
   rw [zY1e] at this;rw [show j+1=j+1+0 by omega,this];rfl
  obtain ⟨l1,us1,most1,h1,h2,h3,h4,h5⟩:=zmo r _ _ _ (j+1) h hd2 (by rw [zY1d];exact hu) (by omega);refine ⟨l1,us1,most1,h1,h2,fun i hi=>?_,by rw [h4,d.total];omega,fun U hU=>?_⟩
  ·rw [h3 i (by omega),getD_set_ne (by omega)]
  ·rw [h5 U hU,zq5,ht,hU (j+1) (by omega),h3 (j+1) (zY0p _),zj4 (by omega),d.back]
   exact if_neg fun k=>k rfl
theorem zv3 {k:Book} {l m:List Coin} {b:Block} {us:List Undo} (h:z28 k l b=(m,us,0)):z0cu k m b us=(l,0)∧CoinsOK l∧CoinsOK m∧zh m≤zh l+z1f b.height∧zd b=0∧z77 us:=by
 have hsh:=z04h k l b;rw [h] at hsh;unfold z28 at h
 by_cases hc:z00 l=0
 rotate_left
 ·rw [if_pos hc] at h
  exact absurd (congrArg (fun x=>x.2.2) h) hc
 rw [if_neg (fun k=>k hc)] at h
 by_cases he:(z01 k b).2.2.2=0
 rotate_left
 ·rw [if_pos he] at h
  exact absurd (congrArg (fun x=>x.2.2) h) he
 rw [if_neg (fun k=>k he)] at h;obtain ⟨hb,hn⟩:=zq4 he;have ok:=z3z hb;obtain ⟨l1,us1,most1,h1,h2,-,h4,h5⟩:=zmo _ _ _ _ 0 h rfl (by simp) ok.some;unfold zbo at h1
 by_cases hm:most1 < -z1u (b.txs.getD 0 zTx) []
 ·rw [if_pos hm] at h1
  exact absurd (congrArg (fun x=>x.2.2) h1) (by show ¬ (9:Int)=0;decide)
 rw [if_neg hm] at h1
 by_cases ha:(zw l1 (b.txs.getD 0 zTx) ((z01 k b).2.2.1.getD 0 0) b.height).2.2=0
 rotate_left
 ·rw [if_pos ha] at h1
  exact absurd (congrArg (fun x=>x.2.2) h1) ha
 rw [if_neg (fun k=>k ha)] at h1;obtain ⟨rr,d⟩:=zb4 ha;have e1:(zw l1 (b.txs.getD 0 zTx) ((z01 k b).2.2.1.getD 0 0) b.height).1=m:=congrArg (fun x=>x.1) h1;have e2:us1.set 0 ⟨(zw l1 (b.txs.getD 0 zTx) ((z01 k b).2.2.1.getD 0 0) b.height).2.1⟩=us:=congrArg (fun x=>x.2.1) h1;generalize zw l1 (b.txs.getD 0 zTx) ((z01 k b).2.2.1.getD 0 0) b.height=q at *;obtain ⟨m',sp,f⟩:=q;simp only at e1 e2 d;subst e1;have hl0:=ok.some;refine ⟨?_,(z0r l).1 hc,d.end_,?_,hb,hsh⟩
 ·unfold z0cu
  rw [if_neg (by rw [(z0r m').2 d.end_];decide),if_neg (fun k=>k he)];have hul:us.length=b.txs.length:=by rw [← e2,zY1d,h2]
  rw [if_neg (by omega)];have hu0:us.getD 0 ⟨[]⟩=⟨sp⟩:=by rw [← e2];exact zj4 (by omega)
  rw [hu0,d.back,if_neg (fun k=>k rfl),h5 us fun i hi=>by rw [← e2];exact getD_set_ne (by omega)];rfl
 ·have:=d.most
  omega
end
section
open Go.RowKit
set_option maxRecDepth 100000
theorem z0cv {k:Book} {t:Tree} {n:Int} (h:(z3e k t n).2=0):zg k=0∧TreeOK t.names t.blocks∧(n=0∨0≤idx t.names n)∧(z3e k t n).1=z0s t.names t.blocks n∧z4l t n=(z0s t.names t.blocks n,0):=by
 unfold z3e at h ⊢
 by_cases hb:zg k=0
 rotate_left
 ·rw [if_pos hb] at h
  exact absurd h hb
 rw [if_neg (fun k=>k hb)] at h ⊢;unfold z4l at h ⊢
 by_cases ht:zx t=0
 rotate_left
 ·rw [if_pos ht] at h
  exact absurd h ht
 rw [if_neg (fun k=>k ht)] at h ⊢
 by_cases hn:n≠0∧idx t.names n<0
 ·rw [if_pos hn] at h
  exact absurd h (by show ¬ (5:Int)=0;decide)
 rw [if_neg hn];exact ⟨hb,(z03 _ _).1 ht,by omega,rfl,rfl⟩
theorem zmp {k:Book} {t:Tree} {n:Int} (hb:zg k=0) (ok:TreeOK t.names t.blocks) (hn:n=0∨0≤idx t.names n):z3e k t n=(z0s t.names t.blocks n,0):=by
 unfold z3e z4l;rw [if_neg (fun k=>k hb),if_neg (fun k=>k ((z03 _ _).2 ok)),if_neg (by omega)]
theorem zik {k:Book} {t:Tree} {n:Int} {l:List Coin} (h:ze k t n=(l,0)):zg k=0∧TreeOK t.names t.blocks∧(n=0∨0≤idx t.names n)∧z3e k t n=(z0s t.names t.blocks n,0)∧z0w k t [] (z0s t.names t.blocks n)=(l,0):=by
 unfold ze at h
 by_cases he:(z3e k t n).2=0
 ·rw [if_neg (fun k=>k he)] at h
  obtain ⟨h1,h2,h3,h4,h5⟩:=z0cv he;rw [h4] at h;exact ⟨h1,h2,h3,zmp h1 h2 h3,h⟩
 ·rw [if_pos he] at h
  exact absurd (congrArg (fun x=>x.2) h) he
theorem z5h {k:Book} {t:Tree} {n:Int} (hb:zg k=0) (ok:TreeOK t.names t.blocks) (hn:n=0∨0≤idx t.names n):ze k t n=z0w k t [] (z0s t.names t.blocks n):=by
 unfold ze;rw [zmp hb ok hn];exact if_neg fun k=>k rfl
theorem zil (k:Book) (t:Tree):∀ (p:List Int) (l m:List Coin) (r:List Int),z0w k t l (p++r)=(m,0)→∃ q,z0w k t l p=(q,0)∧z0w k t q r=(m,0)
 | [],l,m,r,h=>⟨l,rfl,h⟩
 | n::p,l,m,r,h=>by
  rw [zY1a,z0w] at h;rw [z0w]
  by_cases he:(z28 k l (z0a t n)).2.2=0
  ·rw [if_neg (fun k=>k he)] at h ⊢
   exact zil k t p _ m r h
  ·rw [if_pos he] at h
   exact absurd (congrArg (fun x=>x.2) h) he
theorem zv4 {k:Book} {t:Tree} {l m:List Coin} {n:Int} (h:z0w k t l [n]=(m,0)):∃ us,z28 k l (z0a t n)=(m,us,0):=by
 rw [z0w,z0w] at h
 by_cases he:(z28 k l (z0a t n)).2.2=0
 ·rw [if_neg (fun k=>k he)] at h
  generalize z28 k l (z0a t n)=q at *;obtain ⟨a,b,c⟩:=q;simp only [zY0r,and_true] at h he;subst h he;exact ⟨_,rfl⟩
 ·rw [if_pos he] at h
  exact absurd (congrArg (fun x=>x.2) h) he
theorem z3n {t:Tree} {n:Int} (ok:TreeOK t.names t.blocks) (hn:0≤idx t.names n):(z0a t n).parent=z0g t.names t.blocks n∧z0o t n=0∧z0a t n=z08 t.blocks (idx t.names n):=by
 have e:z0o t n=0:=by
  unfold z0o;rw [if_neg (fun k=>k ((z03 _ _).2 ok)),if_neg (by omega)]
 have e2:z0a t n=z08 t.blocks (idx t.names n):=by unfold z0a;rw [if_pos e]
 exact ⟨by rw [e2];rfl,e,e2⟩
theorem z0cw {k:Book} {t:Tree} {n:Int} {l:List Coin} (h:ze k t n=(l,0)) (hn:0≤idx t.names n):∃ q us,ze k t (z0a t n).parent=(q,0)∧z28 k q (z0a t n)=(l,us,0):=by
 obtain ⟨h1,h2,-,-,h5⟩:=zik h;obtain ⟨e1,-,-⟩:=z3n h2 hn;obtain ⟨s1,s2,-⟩:=z36 h2 hn;rw [s1] at h5;obtain ⟨q,q1,q2⟩:=zil k t _ _ _ _ h5;obtain ⟨us,q3⟩:=zv4 q2;exact ⟨q,us,by rw [e1,z5h h1 h2 s2,q1],q3⟩
theorem zga {t:Tree} (ok:TreeOK t.names t.blocks) (r:Nat):∀ n:Int,z57 t.names n≤r→0≤idx t.names n→(z08 t.blocks (idx t.names n)).height=((z0s t.names t.blocks n).length:Int):=by
 induction r with
 | zero =>
  intro n hr hn;have:=(z36 ok hn).2.2;omega
 | succ r ih =>
  intro n hr hn;obtain ⟨s1,s2,s3⟩:=z36 ok hn;obtain ⟨j,hj,hjs⟩:=z8f hn;have hlt:=(zY02.1 hjs).1;obtain ⟨-,-,-,e⟩:=z9d (ok.step j hlt);rw [s1,zY04,zY19];rw [show z0g t.names t.blocks n=(z08 t.blocks (idx t.names n)).parent from rfl] at *;rw [hj] at s1 s2 s3 ⊢;rcases zdg e with ⟨e1,e2⟩|⟨e1,i,e2,e3,e4,e5⟩
  ·rw [e1,z1r,e2];rfl
  ·have:=ih (z08 t.blocks j).parent (by omega) (by omega)
   rw [e3] at this;rw [e5,this];omega
end
section
open Go.RowKit Go.Shelf
open Go.Lib (itoa atoiAll atoiSat)
set_option maxRecDepth 100000
section
variable {P:Program} {W:World} {F:Nat→Prop}
end
def z0ui (s:List UInt8):Int × GoErr:=match atoiAll s with
 | .ok v=>(v,⟨false⟩)
 | .range=>(atoiSat s,⟨true⟩)
 | _=>(0,⟨true⟩)
end
section
open Go.RowKit Go.Shelf
open Go.Lib (itoa atoiAll atoiSat)
set_option maxRecDepth 100000
end
section
open Go.RowKit
open Go.Lib (itoa atoiAll atoiSat)
set_option maxRecDepth 100000
set_option maxHeartbeats 4000000
section
variable {sp:Nat→z7} {N:Nat} {E E':Env} {ks:List (List Dt→Option (List Dt))} {res:Option (List Dt)}
end
def z0uj (acc:List Op) (ws:List (List UInt8)):List Op × Int:=match z0af ws with
 | none=>([],1)
 | some l=>if zo (acc++l)≠0 then ([],zo (acc++l)) else (acc++l,0)
attribute [local irreducible] den denX z0x z1c
attribute [local irreducible] z0i spD z35 itoa zo z63 z9p z6q z0uj z0ui z0bv z0id z02f z02g
end
section
open Go.RowKit
open Go.Lib (itoa)
set_option maxRecDepth 100000
set_option maxHeartbeats 4000000
end
section
open Go.RowKit
open Go.Lib (itoa)
set_option maxRecDepth 100000
set_option maxHeartbeats 4000000
theorem z0vd (x y:In):(if x.p=y.p then decide (x.key=y.key) else false)=decide (x=y):=by
 cases x;cases y
 by_cases h:(‹Point› : Point)=‹Point› <;> simp only [In.mk.injEq,Bool.decide_and] <;> split <;> simp [*]
theorem z0ve (t u:Tx):(if t.height=u.height then if decide (t.ins=u.ins)=true then decide (t.outs=u.outs) else false else false)=decide (t=u):=by
 cases t;cases u
 simp only [Tx.mk.injEq,Bool.decide_and]
 split <;> rename_i h
 ·split <;> rename_i h2
  ·simp [h,h2]
  ·simp [h,h2]
 ·simp [h]
noncomputable def zdm:z7:=spD (fun _:In × In=>True) fun x=>decide (x.1=x.2)
theorem zx8 (x y:In):zdm (eIn x++eIn y)=some [.b (decide (x=y))]:=za (f:=fun x:In × In=>decide (x.1=x.2)) (x,y) trivial
noncomputable def zhb:z7:=spD (fun _:List In × List In=>True) fun x=>decide (x.1=x.2)
theorem z0cx (l m:List In):zhb [.l 3 (l.map eIn),.l 3 (m.map eIn)]=some [.b (decide (l=m))]:=za (f:=fun x:List In × List In=>decide (x.1=x.2)) (l,m) trivial
noncomputable def zim:z7:=spD (fun _:List Out × List Out=>True) fun x=>decide (x.1=x.2)
theorem z086 (l m:List Out):zim [.l 2 (l.map z0z),.l 2 (m.map z0z)]=some [.b (decide (l=m))]:=za (f:=fun x:List Out × List Out=>decide (x.1=x.2)) (l,m) trivial
noncomputable def z5i:z7:=spD (fun _:Tx × Tx=>True) fun x=>decide (x.1=x.2)
theorem zkm (x y:Tx):z5i (eTx x++eTx y)=some [.b (decide (x=y))]:=za (f:=fun x:Tx × Tx=>decide (x.1=x.2)) (x,y) trivial
attribute [local irreducible] z0i spD z35 zo zj
attribute [local irreducible] den denX z0x z1c
def zkn:T :=
 .lets [.eqs false [(.v 0,.v 3),(.v 1,.v 4)]] [] (.ite 6 (.lets [.call 20 [2,5] 0] [] (.ret [7])) (.ret [.c (.b false)]))
def z0of:T :=
 .lets [.call 45 [9,10,11,12,13,14] 0] [] (.lets [.not 15] [] (.ite 16 (.ret [.c (.b false)]) (.lets [.bin .add 7 (zI 1)] [] (.again 0
 [6,17]))))
def z0og:T :=
 .lets [.idx 0 7 0,.idx 0 7 1,.idx 0 7 2] [] (.lets [] [.inr 3 1 7] (.lets [.idx 1 7 0,.idx 1 7 1,.idx 1 7
 2] [] z0of))
def z0oh:T :=
 .lets [.len 0] [] (.loop [.c (.b false),zI 0] (.lets [.bin .lss 7 5] [] (.ite 8 (.lets [] [.inr 3 0 7] z0og) (.ret [.c (.b true)]))))
def z04i:T :=
 .lets [.len 0] [] (.lets [.len 1] [] (.lets [.bin .neq 2 3] [] (.ite 4 (.ret [.c (.b false)]) z0oh)))
def z0jb:T :=
 .lets [.call 21 [9,10,11,12] 0] [] (.lets [.not 13] [] (.ite 14 (.ret [.c (.b false)]) (.lets [.bin .add 7 (zI 1)] [] (.again 0 [6,.v
 15]))))
def z0jc:T :=
 .lets [] [.inr 2 0 7] (.lets [.idx 0 7 0,.idx 0 7 1] [] (.lets [] [.inr 2 1 7] (.lets [.idx 1 7 0,.idx 1 7 1] []
 z0jb)))
def z0jd:T :=
 .ite 4 (.ret [.c (.b false)]) (.lets [.len 0] [] (.loop [.c (.b false),zI 0] (.lets [.bin .lss 7 5] [] (.ite 8 z0jc (.ret [.c (.b
 true)])))))
def zsr:T :=
 .lets [.len 0] [] (.lets [.len 1] [] (.lets [.bin .neq 2 3] [] z0jd))
def znl:T :=
 .lets [.bin .eql 0 3] [] (.ite 6 (.lets [.call 46 [1,4] 0] [] (.ite 7 (.lets [.call 47 [2,5] 0] [] (.ret [8])) (.ret [.c (.b false)]))) (.ret
 [.c (.b false)]))
attribute [local irreducible] z50
theorem z0je:Meets Tryz.prog zdm 83 ⟨[.agg 3,.agg 3],[(false,[.scal])],true⟩:=by
 refine z8 (sp:=(zr [(20,z50)])) (sigs:=zy) (cut:=[]) (hints:=[]) (fn:=Tryz.f83) (t:=zkn) (by kernel_rfl) (by kernel_rfl) (by kernel_rfl) ?_ ?_
 ·exact (zl (L:=[(20,z50)]) ⟨z5 rfl zlu,trivial⟩)
 ·rintro ds rs - h
  obtain ⟨⟨x,y⟩,-,rfl,rfl⟩:=z9 h;clear h;refine ⟨⟨1,?_⟩,zq rfl⟩
  show den _ _ zkn [I x.p.tx,I x.p.at_,.l 2 (x.key.map eOp),I y.p.tx,I y.p.at_,.l 2 (y.key.map eOp)] []=ret (decide (x=y))
  rw [← z0vd];unfold zkn
  repeat' (first|refine dq1 ?_|refine dqk rfl (zc7 _ _) ?_|exact z4 rfl rfl|refine tR (fun h=>?_) fun h=>?_|fail)
theorem z0uk:Meets Tryz.prog zhb 82 ⟨[.one,.one,.clos 83 []],[(false,[.scal])],true⟩:=by
 refine z8 (sp:=(zr [(45,zdm)])) (sigs:=zy) (cut:=[]) (hints:=[⟨4,[.t 6,.t 17]⟩]) (fn:=Tryz.f82) (t:=z04i) (by kernel_rfl) (by kernel_rfl) (by kernel_rfl) ?_ ?_
 ·exact (zl (L:=[(45,zdm)]) ⟨z5 rfl z0je,trivial⟩)
 ·rintro ds rs hok h
  obtain ⟨⟨l,m⟩,-,rfl,rfl⟩:=z9 h;clear h;have hll:=z98 (hok (.l 3 (l.map eIn)) (zY0b ..));refine ⟨⟨l.length+1,?_⟩,zq rfl⟩
  show den _ _ z04i [.l 3 (l.map eIn),.l 3 (m.map eIn)] []=ret (decide (l=m))
  rw [z3u];unfold z04i
  repeat' (first|refine dq1 ?_|exact z4 rfl rfl|refine tR (fun h=>?_) fun h=>?_|fail)
  have hlm:l.length=m.length:=by omega
  (refine zm (fun (_:Unit) k=>[.b false,I k]) (fun (_:Unit) k (r:List In)=>decide (r=m.drop k)) (fun _ _=>True) () l ?_ ?_ ?_ ?_ ?_;rfl;exact trivial;exact zY1i _)
  ·rintro _ k x r hx hd hk - again hag
   have hy:m[k]? = some (m[k]'(by omega)):=zY03 (by omega);have hdy:m.drop k=m[k]'(by omega)::m.drop (k+1):=zY0x (by omega);rw [hdy];generalize m[k]'(by omega)=y at *;have e:decide (x::r=y::m.drop (k+1))=if decide (x=y)=true then decide (r=m.drop (k+1)) else false:=by
    by_cases h:x=y
    ·simp [h]
    ·simp [h]
   rw [e];have hkm:k<m.length:=by omega
   repeat' (first|refine dq1 ?_|refine dqc ?_|refine dqm ?_|refine dqk rfl (zx8 x y) ?_|exact z4 rfl rfl|exact zb rfl rfl (hag () trivial)|refine tN (fun h=>?_) fun h=>?_|refine dqT ?_|fail)
  ·rintro _ - again
   rw [hlm,zY1m]
   repeat' (first|refine dq1 ?_|exact z4 rfl rfl|refine dqF ?_|fail)
attribute [local irreducible] z8l
theorem z0rz:Meets Tryz.prog zim 85 ⟨[.one,.one,.clos 60 []],[(false,[.scal])],true⟩:=by
 refine z8 (sp:=(zr [(21,z8l)])) (sigs:=zy) (cut:=[]) (hints:=[⟨4,[.t 6,.t 17]⟩]) (fn:=Tryz.f85) (t:=zsr) (by kernel_rfl) (by kernel_rfl) (by kernel_rfl) ?_ ?_
 ·exact (zl (L:=[(21,z8l)]) ⟨z5 rfl z07z,trivial⟩)
 ·rintro ds rs hok h
  obtain ⟨⟨l,m⟩,-,rfl,rfl⟩:=z9 h;clear h;have hll:=z98 (hok (.l 2 (l.map z0z)) (zY0b ..));refine ⟨⟨l.length+1,?_⟩,zq rfl⟩
  show den _ _ zsr [.l 2 (l.map z0z),.l 2 (m.map z0z)] []=ret (decide (l=m))
  rw [z3u];unfold zsr
  repeat' (first|refine dq1 ?_|exact z4 rfl rfl|refine tR (fun h=>?_) fun h=>?_|fail)
  have hlm:l.length=m.length:=by omega
  (refine zm (fun (_:Unit) k=>[.b false,I k]) (fun (_:Unit) k (r:List Out)=>decide (r=m.drop k)) (fun _ _=>True) () l ?_ ?_ ?_ ?_ ?_;rfl;exact trivial;exact zY1i _)
  ·rintro _ k x r hx hd hk - again hag
   have hy:m[k]? = some (m[k]'(by omega)):=zY03 (by omega);have hdy:m.drop k=m[k]'(by omega)::m.drop (k+1):=zY0x (by omega);rw [hdy];generalize m[k]'(by omega)=y at *;have e:decide (x::r=y::m.drop (k+1))=if decide (x=y)=true then decide (r=m.drop (k+1)) else false:=by
    by_cases h:x=y
    ·simp [h]
    ·simp [h]
   rw [e];have hkm:k<m.length:=by omega
   repeat' (first|refine dq1 ?_|refine dqc ?_|refine dqm ?_|refine dqk rfl (zq2 x y) ?_|exact z4 rfl rfl|exact zb rfl rfl (hag () trivial)|refine tN (fun h=>?_) fun h=>?_|refine dqT ?_|fail)
  ·rintro _ - again
   rw [hlm,zY1m]
   repeat' (first|refine dq1 ?_|exact z4 rfl rfl|refine dqF ?_|fail)
attribute [local irreducible] zhb
theorem z04j:Meets Tryz.prog z5i 38 ⟨[.agg 3,.agg 3],[(false,[.scal])],true⟩:=by
 refine z8 (sp:=(zr [(46,zhb),(47,zim)])) (sigs:=zy) (cut:=[]) (hints:=[]) (fn:=Tryz.f38) (t:=znl) (by kernel_rfl) (by kernel_rfl) (by kernel_rfl) ?_ ?_
 ·exact (zl (L:=[(46,zhb),(47,zim)]) ⟨z5 rfl z0uk,z5 rfl z0rz,trivial⟩)
 ·rintro ds rs - h
  obtain ⟨⟨x,y⟩,-,rfl,rfl⟩:=z9 h;clear h;refine ⟨⟨1,?_⟩,zq rfl⟩
  show den _ _ znl [I x.height,.l 3 (x.ins.map eIn),.l 2 (x.outs.map z0z),I y.height,.l 3 (y.ins.map eIn),.l 2 (y.outs.map z0z)] []=ret (decide (x=y))
  rw [← z0ve];unfold znl
  repeat' (first|refine dq1 ?_|refine dqk rfl (z0cx _ _) ?_|refine dqk rfl (z086 _ _) ?_|exact z4 rfl rfl|((first|refine tR ?_ ?_|refine tB ?_ ?_) <;> intro h)|fail)
end
section
open Go.RowKit
open Go.Lib (itoa)
set_option maxRecDepth 100000
set_option maxHeartbeats 4000000
attribute [local irreducible] den denX z0x z1c
theorem z0ul (a b:Block):(if a.parent=b.parent then if a.height=b.height then if a.work=b.work then if a.nonce=b.nonce then decide (a.txs=b.txs) else false else false else false else false)=decide (a=b):=by
 cases a;cases b
 simp only [Block.mk.injEq,Bool.decide_and]
 split <;> rename_i h1 <;> simp only [h1,decide_true,decide_false,zY2f,zY2l]
 split <;> rename_i h2 <;> simp only [h2,decide_true,decide_false,zY2f,zY2l]
 split <;> rename_i h3 <;> simp only [h3,decide_true,decide_false,zY2f,zY2l]
 split <;> rename_i h4 <;> simp only [h4,decide_true,decide_false,zY2f,zY2l]
noncomputable def zbp:z7:=spD (fun _:List Tx × List Tx=>True) fun x=>decide (x.1=x.2)
theorem zqa (l m:List Tx):zbp [.l 3 (l.map eTx),.l 3 (m.map eTx)]=some [.b (decide (l=m))]:=za (f:=fun x:List Tx × List Tx=>decide (x.1=x.2)) (l,m) trivial
noncomputable def zb5:z7:=spD (fun _:Block × Block=>True) fun x=>decide (x.1=x.2)
theorem zx9 (a b:Block):zb5 [I a.parent,I a.height,I a.work,I a.nonce,.l 3 (a.txs.map eTx),I b.parent,I b.height,I b.work,I b.nonce,.l 3 (b.txs.map eTx)]=some [.b (decide (a=b))]:=za (f:=fun x:Block × Block=>decide (x.1=x.2)) (a,b) trivial
theorem zxa (x y:Tx):z5i [I x.height,.l 3 (x.ins.map eIn),.l 2 (x.outs.map z0z),I y.height,.l 3 (y.ins.map eIn),.l 2 (y.outs.map z0z)]=some [.b (decide (x=y))]:=zkm x y
attribute [local irreducible] z0i spD
def z0oi:T :=
 .lets [.call 48 [9,10,11,12,13,14] 0] [] (.lets [.not 15] [] (.ite 16 (.ret [.c (.b false)]) (.lets [.bin .add 7 (zI 1)] [] (.again 0
 [6,17]))))
def z0oj:T :=
 .lets [.idx 0 7 0,.idx 0 7 1,.idx 0 7 2] [] (.lets [] [.inr 3 1 7] (.lets [.idx 1 7 0,.idx 1 7 1,.idx 1 7
 2] [] z0oi))
def z0ok:T :=
 .lets [.len 0] [] (.loop [.c (.b false),zI 0] (.lets [.bin .lss 7 5] [] (.ite 8 (.lets [] [.inr 3 0 7] z0oj) (.ret [.c (.b true)]))))
def z04k:T :=
 .lets [.len 0] [] (.lets [.len 1] [] (.lets [.bin .neq 2 3] [] (.ite 4 (.ret [.c (.b false)]) z0ok)))
def z087:T :=
 .ite 12 (.lets [.bin .eql 3 8] [] (.ite 13 (.lets [.call 55 [4,9] 0] [] (.ret [14])) (.ret [.c (.b false)]))) (.ret [.c (.b false)])
def zko:T :=
 .lets [.bin .eql 0 5] [] (.ite 10 (.lets [.bin .eql 1 6] [] (.ite 11 (.lets [.bin .eql 2 7] [] z087) (.ret [.c (.b false)]))) (.ret
 [.c (.b false)]))
attribute [local irreducible] z5i
theorem z0jf:Meets Tryz.prog zbp 37 ⟨[.one,.one,.clos 38 []],[(false,[.scal])],true⟩:=by
 refine z8 (sp:=(zr [(48,z5i)])) (sigs:=zy) (cut:=[]) (hints:=[⟨4,[.t 6,.t 17]⟩]) (fn:=Tryz.f37) (t:=z04k) (by kernel_rfl) (by kernel_rfl) (by kernel_rfl) ?_ ?_
 ·exact (zl (L:=[(48,z5i)]) ⟨z5 rfl z04j,trivial⟩)
 ·rintro ds rs hok h
  obtain ⟨⟨l,m⟩,-,rfl,rfl⟩:=z9 h;clear h;have hll:=z98 (hok (.l 3 (l.map eTx)) (zY0b ..));refine ⟨⟨l.length+1,?_⟩,zq rfl⟩
  show den _ _ z04k [.l 3 (l.map eTx),.l 3 (m.map eTx)] []=ret (decide (l=m))
  rw [z3u];unfold z04k
  repeat' (first|refine dq1 ?_|exact z4 rfl rfl|refine tR (fun h=>?_) fun h=>?_|fail)
  have hlm:l.length=m.length:=by omega
  (refine zm (fun (_:Unit) k=>[.b false,I k]) (fun (_:Unit) k (r:List Tx)=>decide (r=m.drop k)) (fun _ _=>True) () l ?_ ?_ ?_ ?_ ?_;rfl;exact trivial;exact zY1i _)
  ·rintro _ k x r hx hd hk - again hag
   have hy:m[k]? = some (m[k]'(by omega)):=zY03 (by omega);have hdy:m.drop k=m[k]'(by omega)::m.drop (k+1):=zY0x (by omega);rw [hdy];generalize m[k]'(by omega)=y at *;have e:decide (x::r=y::m.drop (k+1))=if decide (x=y)=true then decide (r=m.drop (k+1)) else false:=by
    by_cases h:x=y
    ·simp [h]
    ·simp [h]
   rw [e];have hkm:k<m.length:=by omega
   repeat' (first|refine dq1 ?_|refine dqc ?_|refine dqm ?_|refine dqk rfl (zxa x y) ?_|exact z4 rfl rfl|exact zb rfl rfl (hag () trivial)|refine tN (fun h=>?_) fun h=>?_|refine dqT ?_|fail)
  ·rintro _ - again
   rw [hlm,zY1m]
   repeat' (first|refine dq1 ?_|exact z4 rfl rfl|refine dqF ?_|fail)
theorem z0jg:Meets Tryz.prog zb5 36 ⟨[.agg 5,.agg 5],[(false,[.scal])],true⟩:=by
 refine z8 (sp:=(zr [(55,zbp)])) (sigs:=zy) (cut:=[]) (hints:=[]) (fn:=Tryz.f36) (t:=zko) (by kernel_rfl) (by kernel_rfl) (by kernel_rfl) ?_ ?_
 ·exact (zl (L:=[(55,zbp)]) ⟨z5 rfl z0jf,trivial⟩)
 ·rintro ds rs - h
  obtain ⟨⟨a,b⟩,-,rfl,rfl⟩:=z9 h;clear h;refine ⟨⟨1,?_⟩,zq rfl⟩
  show den _ _ zko [I a.parent,I a.height,I a.work,I a.nonce,.l 3 (a.txs.map eTx),I b.parent,I b.height,I b.work,I b.nonce,.l 3 (b.txs.map eTx)] []=ret (decide (a=b))
  rw [← z0ul];unfold zko
  repeat' (first|refine dq1 ?_|refine dqk rfl (zqa _ _) ?_|exact z4 rfl rfl|refine tR (fun h=>?_) fun h=>?_|fail)
end
section
open Go.RowKit
open Go.Lib (itoa)
set_option maxRecDepth 100000
set_option maxHeartbeats 4000000
def z0j (x:List (List UInt8)) (l:List Coin) (t:Tx) (h:Int):List (List UInt8) × List Coin × Int × Int :=
 if (zu t).2≠0 then (x,[],0,(zu t).2) else if (t.ins.length:Int)=0 then (x,[],0,4) else
 if z2c ⟨x⟩ (zu t).1≠0 then (x,[],0,z2c ⟨x⟩ (zu t).1) else
 if (zw l t (z1e ⟨x⟩ (zu t).1) h).2.2≠0 then (x,[],0,(zw l t (z1e ⟨x⟩ (zu t).1) h).2.2) else
 (z2y ⟨x⟩ (zu t).1,(zw l t (z1e ⟨x⟩ (zu t).1) h).1,z1u t (zw l t (z1e ⟨x⟩ (zu t).1) h).2.1,0)
abbrev z0q0:=List (List UInt8) × List Tx × List Coin × Int × Int
structure Sw where
 x:List (List UInt8)
 s:List Tx
 m:List Coin
 f:Int
def z29 (h:Int):Sw→List Tx→z0q0
 | a,[]=>(a.x,a.s,a.m,a.f,0)
 | a,t::r=>if (z0j a.x a.m t h).2.2.2≠0 then z29 h a r else
  z29 h ⟨(z0j a.x a.m t h).1,a.s++[t],(z0j a.x a.m t h).2.1,a.f+(z0j a.x a.m t h).2.2.1⟩ r
def zt (k:Book) (l:List Coin) (p:List Tx) (h:Int):z0q0 :=
 if zg k≠0 then ([],[],[],0,zg k) else if z00 l≠0 then ([],[],[],0,z00 l) else
 if h<1 then ([],[],[],0,3) else if h > 1000 then ([],[],[],0,3) else if (p.length:Int) > 8 then ([],[],[],0,2) else
 z29 h ⟨k.texts,[],l,0⟩ p
def zcl (x:List (List UInt8)) (s:List Tx) (m:List Coin) (t:Tx) (h:Int):List (List UInt8) × List Tx × Int :=
 if (z0j x m t h).2.2.2≠0 then ([],[],(z0j x m t h).2.2.2) else if (s.length:Int)=8 then ([],[],12) else ((z0j x m t h).1,s++[t],0)
def z21 (k:Book) (l:List Coin) (p:List Tx) (t:Tx) (h:Int):List (List UInt8) × List Tx × Int :=
 if (zt k l p h).2.2.2.2≠0 then ([],[],(zt k l p h).2.2.2.2) else if t ∈ (zt k l p h).2.1 then ([],[],6) else
 zcl (zt k l p h).1 (zt k l p h).2.1 (zt k l p h).2.2.1 t h
def zss (parent height work nonce:Int) (lk:List Op) (s:List Tx) (f:Int):Block × Int :=
 if z4f height≠0 then (z24,z4f height) else if z1f height+f=0 then (z24,9) else
 if zd ⟨parent,height,work,nonce,⟨height,[],[⟨z1f height+f,lk⟩]⟩::s⟩≠0 then (z24,zd ⟨parent,height,work,nonce,⟨height,[],[⟨z1f height+f,lk⟩]⟩::s⟩) else
 (⟨parent,height,work,nonce,⟨height,[],[⟨z1f height+f,lk⟩]⟩::s⟩,0)
def z3k (k:Book) (l:List Coin) (p:List Tx) (parent height work nonce:Int) (lk:List Op):Block × Int :=
 if (zt k l p (height+1)).2.2.2.2≠0 then (z24,(zt k l p (height+1)).2.2.2.2) else
 if (zt k l ((zt k l p (height+1)).2.1.take 3) (height+1)).2.2.2.2≠0 then (z24,(zt k l ((zt k l p (height+1)).2.1.take 3) (height+1)).2.2.2.2) else
 zss parent (height+1) work nonce lk (zt k l ((zt k l p (height+1)).2.1.take 3) (height+1)).2.1 (zt k l ((zt k l p (height+1)).2.1.take 3) (height+1)).2.2.2.1
theorem zkp {x:List (List UInt8)} {l:List Coin} {t:Tx} {h:Int} (h0:(z0j x l t h).2.2.2=0) :
  zj t=0∧t.ins.length≠0∧z2c ⟨x⟩ (z1n t)=0∧(zw l t (z1e ⟨x⟩ (z1n t)) h).2.2=0∧z0j x l t h=(z2y ⟨x⟩ (z1n t),(zw l t (z1e ⟨x⟩ (z1n t)) h).1,z1u t (zw l t (z1e ⟨x⟩ (z1n t)) h).2.1,0):=by
 by_cases hc:zj t=0
 rotate_left
 ·have e:zu t=([],zj t):=by unfold zu;exact if_pos hc
  unfold z0j at h0;rw [e,if_pos hc] at h0;exact absurd h0 hc
 unfold z0j at h0 ⊢;rw [z90 hc,if_neg (fun k=>k rfl)] at h0 ⊢
 by_cases hi:(t.ins.length:Int)=0
 ·rw [if_pos hi] at h0
  exact absurd h0 (by show ¬ (4:Int)=0;decide)
 rw [if_neg hi] at h0 ⊢
 by_cases hn:z2c ⟨x⟩ (z1n t)=0
 rotate_left
 ·rw [if_pos hn] at h0
  exact absurd h0 hn
 rw [if_neg (fun k=>k hn)] at h0 ⊢
 by_cases ha:(zw l t (z1e ⟨x⟩ (z1n t)) h).2.2=0
 rotate_left
 ·rw [if_pos ha] at h0
  exact absurd h0 ha
 rw [if_neg (fun k=>k ha)];exact ⟨hc,by omega,hn,ha,rfl⟩
theorem z0ak {x:List (List UInt8)} {l:List Coin} {t:Tx} {h:Int} (h0:(z0j x l t h).2.2.2=0) : -10000000000≤(z0j x l t h).2.2.1∧(z0j x l t h).2.2.1≤10000000000:=by
 obtain ⟨-,-,-,h4,h5⟩:=zkp h0;rw [h5];exact (zkh h4).2
theorem zin (h:Int):∀ (r:List Tx) (a:Sw) (n:Nat),a.s.length≤n → -10000000000 * (n:Int)≤a.f→a.f≤10000000000 * (n:Int)→(z29 h a r).2.1.length≤n+r.length ∧ -10000000000 * ((n:Int)+r.length)≤(z29 h a r).2.2.2.1∧(z29 h a r).2.2.2.1≤10000000000 * ((n:Int)+r.length)
 | [],a,n,h1,h2,h3=>by
  rw [z29];simp only [zY17];omega
 | t::r,a,n,h1,h2,h3=>by
  rw [z29]
  by_cases he:(z0j a.x a.m t h).2.2.2=0
  ·rw [if_neg (fun k=>k he)]
   have hf:=z0ak he;have:=zin h r ⟨(z0j a.x a.m t h).1,a.s++[t],(z0j a.x a.m t h).2.1,a.f+(z0j a.x a.m t h).2.2.1⟩ (n+1) (by simp;omega) (by simp only;omega) (by simp only;omega);simp only [zY0g];omega
  ·rw [if_pos he]
   have:=zin h r a n h1 h2 h3;simp only [zY0g];omega
theorem zdn (k:Book) (l:List Coin) (p:List Tx) (h:Int):(zt k l p h).2.1.length≤8 ∧ -80000000000≤(zt k l p h).2.2.2.1∧(zt k l p h).2.2.2.1≤80000000000:=by
 unfold zt
 split
 ·exact ⟨by simp,by simp,by simp⟩
 split
 ·exact ⟨by simp,by simp,by simp⟩
 split
 ·exact ⟨by simp,by simp,by simp⟩
 split
 ·exact ⟨by simp,by simp,by simp⟩
 split
 ·exact ⟨by simp,by simp,by simp⟩
 ·rename_i h5
  have:=zin h p ⟨k.texts,[],l,0⟩ 0 (by simp) (by simp) (by simp);omega
attribute [local irreducible] z0i spD zu zw z1u z2c z2y z1e zg z00 zd z1f z4f
attribute [local irreducible] den denX z0x z1c
noncomputable def z78:z7:=spD (fun _:List (List UInt8) × List Coin × Tx × Int=>True) fun x=>z0j x.1 x.2.1 x.2.2.1 x.2.2.2
theorem zj5 (x:List (List UInt8)) (l:List Coin) (t:Tx) (h:Int):z78 [.l 1 (x.map z05),.l 6 (l.map z04),I t.height,.l 3 (t.ins.map eIn),.l 2 (t.outs.map z0z),I h]=some [.l 1 ((z0j x l t h).1.map z05),.l 6 ((z0j x l t h).2.1.map z04),I (z0j x l t h).2.2.1,I (z0j x l t h).2.2.2]:=za (f:=fun x:List (List UInt8) × List Coin × Tx × Int=>z0j x.1 x.2.1 x.2.2.1 x.2.2.2) (x,l,t,h) trivial
theorem zqb (x:List (List UInt8)) (s:List UInt8):z7q [.l 1 (x.map z05),.s s]=some [.l 1 ((z2y ⟨x⟩ s).map z05),I (z1e ⟨x⟩ s),I (z2c ⟨x⟩ s)]:=zsa ⟨x⟩ s
theorem znm (x:List (List UInt8)):z1o [.l 1 (x.map z05)]=some [I (zg ⟨x⟩)]:=z81 ⟨x⟩
def z088:T :=
 .lets [.bin .neq 17 (zI 0)] [] (.ite 18 (.ret [0,.c (.nil 6),zI 0,17]) (.lets [.call 13 [2,3,4,16] 0] [] (.ret [11,15,
 .v 19,zI 0])))
def z089:T :=
 .lets [.call 18 [1,2,3,4,12,5] 0,.call 18 [1,2,3,4,12,5] 1,.call 18 [1,2,3,4,12,5] 2] [] z088
def z08a:T :=
 .lets [.call 60 [0,6] 0,.call 60 [0,6] 1,.call 60 [0,6] 2] [] (.lets [.bin .neq 13 (zI 0)] [] (.ite 14 (.ret [0,.c (.nil 6),.c (.i
 .i64 0),13]) z089))
def z08b:T :=
 .ite 8 (.ret [0,.c (.nil 6),zI 0,7]) (.lets [.len 3] [] (.lets [.bin .eql 9 (zI 0)] [] (.ite 10 (.ret [0,.c (.nil 6),.c (.i
 .i64 0),zI 4]) z08a)))
def zkq:T :=
 .lets [.call 43 [2,3,4] 0,.call 43 [2,3,4] 1] [] (.lets [.bin .neq 7 (zI 0)] [] z08b)
attribute [local irreducible] z7q z3l z66 z6h
theorem zv5:Meets Tryz.prog z78 123 ⟨[.agg 1,.one,.agg 3,.one],[(true,[.pure]),(false,[.pure]),(false,[.scal]),(false,[.scal])],false⟩:=by
 refine z8 (sp:=(zr [(13,z6h),(18,z66),(43,z3l),(60,z7q)])) (sigs:=zy) (cut:=[]) (hints:=[]) (fn:=Tryz.f123) (t:=zkq) (by kernel_rfl) (by kernel_rfl) (by kernel_rfl) ?_ ?_
 ·exact (zl (L:=[(13,z6h),(18,z66),(43,z3l),(60,z7q)]) ⟨z5 rfl zse,z5 rfl zv1,z5 rfl zk7,z5 rfl z0ce,trivial⟩)
 ·rintro ds rs - h
  obtain ⟨⟨x,l,t,hh⟩,-,rfl,rfl⟩:=z9 h;clear h;refine ⟨⟨1,?_⟩,z10 ⟨rfl,rfl,trivial⟩⟩
  show den _ _ zkq [.l 1 (x.map z05),.l 6 (l.map z04),I t.height,.l 3 (t.ins.map eIn),.l 2 (t.outs.map z0z),I hh] []=ret (z0j x l t hh)
  have a1:=zbm t;have a2:=zqb x (zu t).1;have a3:=zd1 l t (z1e ⟨x⟩ (zu t).1) hh;have a4:=fun h0=>zc6 t _ (zkh (l:=l) (t:=t) (nm:=z1e ⟨x⟩ (zu t).1) (h:=hh) h0).1
  unfold zkq z0j;generalize zu t=pt at *;obtain ⟨s,e⟩:=pt;simp only at *;generalize z2c ⟨x⟩ s=en at *;generalize z2y ⟨x⟩ s=xn at *;generalize z1e ⟨x⟩ s=nm at *;generalize zw l t nm hh=q at *;obtain ⟨m,us,ea⟩:=q;simp only at *
  by_cases hea:ea=0
  ·have a4:=a4 hea
   repeat' (first|refine dq1 ?_|refine dqK rfl (a1) ?_|refine dqK rfl (a2) ?_|refine dqK rfl (a3) ?_|refine dqk rfl (a4) ?_|exact z4 rfl rfl|refine tR (fun h=>?_) fun h=>?_|fail)
  ·clear a4
   repeat' (first|refine dq1 ?_|refine dqK rfl (a1) ?_|refine dqK rfl (a2) ?_|refine dqK rfl (a3) ?_|exact z4 rfl rfl|refine tR (fun h=>?_) fun h=>?_|fail)
   all_goals omega
noncomputable def z2l:z7:=spD (fun _:List (List UInt8) × List Coin × List Tx × Int=>True) fun x=>zt ⟨x.1⟩ x.2.1 x.2.2.1 x.2.2.2
theorem z67 (x:List (List UInt8)) (l:List Coin) (p:List Tx) (h:Int):z2l [.l 1 (x.map z05),.l 6 (l.map z04),.l 3 (p.map eTx),I h]=some [.l 1 ((zt ⟨x⟩ l p h).1.map z05),.l 3 ((zt ⟨x⟩ l p h).2.1.map eTx),.l 6 ((zt ⟨x⟩ l p h).2.2.1.map z04),I (zt ⟨x⟩ l p h).2.2.2.1,I (zt ⟨x⟩ l p h).2.2.2.2]:=za (f:=fun x:List (List UInt8) × List Coin × List Tx × Int=>zt ⟨x.1⟩ x.2.1 x.2.2.1 x.2.2.2) (x,l,p,h) trivial
def zxb:T :=
 .lets [.mk 3 [[30,31,32]]] [] (.lets [.app 3 17 33] [] (.lets [.bin .add 18 (zI 1)] [] (.again 0 [25,29,34,35,24])))
def zxc:T :=
 .lets [.bin .add 16 26] [] (.lets [.call 67 [21,22,23] 0,.call 67 [21,22,23] 1,.call 67 [21,22,23] 2] [] zxb)
def zxd:T :=
 .lets [.bin .neq 27 (zI 0)] [] (.ite 28 (.lets [.bin .add 18 (zI 1)] [] (.again 0 [15,16,17,29,19])) zxc)
def zxe:T :=
 .lets [.call 71 [19,15,21,22,23,3] 0,.call 71 [19,15,21,22,23,3] 1,.call 71 [19,15,21,22,23,3] 2,.call 71 [.v
 19,15,21,22,23,3] 3] [] zxd
def zxf:T :=
 .ite 20 (.lets [] [.inr 3 2 18] (.lets [.idx 2 18 0,.idx 2 18 1,.idx 2 18 2] [] zxe)) (.ret [19,17,15,16,.c
 (.i .i64 0)])
def zxg:T :=
 .lets [.call 59 [0] 0] [] (.lets [.len 2] [] (.loop [12,zI 0,.c (.nil 3),zI 0,13] (.lets [.bin .lss 18 14] [] zxf)))
def zxh:T :=
 .lets [.bin .gtr 10 (zI 8)] [] (.ite 11 (.ret [.c (.nil 1),.c (.nil 3),.c (.nil 6),zI 0,zI 2]) (.lets [.call 11 [1] 0] []
 zxg))
def zxi:T :=
 .lets [.bin .gtr 3 (zI 1000)] [] (.ite 9 (.ret [.c (.nil 1),.c (.nil 3),.c (.nil 6),zI 0,zI 3]) (.lets [.len 2] [] zxh))
def zxj:T :=
 .ite 7 (.ret [.c (.nil 1),.c (.nil 3),.c (.nil 6),zI 0,6]) (.lets [.bin .lss 3 (zI 1)] [] (.ite 8 (.ret [.c (.nil 1),.c (.nil 3),.c (.nil
 6),zI 0,zI 3]) zxi))
def zxk:T :=
 .ite 5 (.ret [.c (.nil 1),.c (.nil 3),.c (.nil 6),zI 0,4]) (.lets [.call 8 [1] 0] [] (.lets [.bin .neq 6 (zI 0)] [] zxj))
def zgb:T :=
 .lets [.call 49 [0] 0] [] (.lets [.bin .neq 4 (zI 0)] [] zxk)
attribute [local irreducible] z1o z8h z2d z4j z8k
theorem zc8:Meets Tryz.prog z2l 71 ⟨[.agg 1,.one,.one,.one],[(true,[.pure]),(false,[.fresh 38 3]),(false,[.pure]),(false,[.scal]),(false,[.scal])],false⟩:=by
 refine z8 (sp:=(zr [(8,z4j),(11,z8k),(49,z1o),(59,z8h),(67,z2d),(71,z78)])) (sigs:=z0v7) (cut:=[]) (hints:=[⟨14,[.t 10,.t 11,.r 9 38 3,.t 52,.o 8]⟩]) (fn:=Tryz.f71) (t:=zgb) (by kernel_rfl) (by kernel_rfl) (by kernel_rfl) ?_ ?_
 ·exact (zl (L:=[(8,z4j),(11,z8k),(49,z1o),(59,z8h),(67,z2d),(71,z78)]) ⟨z5 rfl zjy,z5 rfl (zub rfl z03k),z5 rfl zc3,z5 rfl (zub rfl z0aj),z5 rfl zes,z5 rfl zv5,trivial⟩)
 ·rintro ds rs - h
  obtain ⟨⟨x,l,p,hh⟩,-,rfl,rfl⟩:=z9 h;clear h;refine ⟨⟨10,?_⟩,z10 ⟨rfl,rfl,trivial⟩⟩
  show den _ _ zgb [.l 1 (x.map z05),.l 6 (l.map z04),.l 3 (p.map eTx),I hh] []=ret (zt ⟨x⟩ l p hh)
  have a1:=znm x;have a2:=z7f l;have a3:=fun h0=>zke l ((z0r l).1 h0).short
  have a4:=fun h0=>zmh x (by have:=z9n (bk:=⟨x⟩) h0;simp only at this;omega)
  unfold zgb zt;generalize zg ⟨x⟩=eb at *;generalize z00 l=ec at *
  by_cases hb:eb=0
  ·by_cases hc:ec=0
   ·have a3:=a3 hc
    have a4:=a4 hb
    repeat' (first|refine dq1 ?_|refine dqk rfl (a1) ?_|refine dqk rfl (a2) ?_|refine dqk rfl (a3) ?_|refine dqk rfl (a4) ?_|exact z4 rfl rfl|refine tR (fun h=>?_) fun h=>?_|fail)
    have hp8:p.length≤8:=by omega
    (refine zm (fun (a:Sw) k=>[.l 6 (a.m.map z04),I a.f,.l 3 (a.s.map eTx),I k,.l 1 (a.x.map z05)]) (fun (a:Sw) _ (r:List Tx)=>z29 hh a r) (fun a k=>a.s.length≤k ∧ -10000000000 * (k:Int)≤a.f∧a.f≤10000000000 * (k:Int)) ⟨x,[],l,0⟩ p ?_ ?_ ?_ ?_ ?_;rfl;exact ⟨by simp,by simp,by simp⟩;omega)
    ·rintro ⟨ax,as_,am,af⟩ i t r hx hd hk ⟨h1,h2,h3⟩ again hag
     simp only at h1 h2 h3;have b1:=zj5 ax am t hh;have b2:=fun h0=>zer t (z52 (zkp (x:=ax) (l:=am) (t:=t) (h:=hh) h0).1)
     have b3:=fun h0=>z0ak (x:=ax) (l:=am) (t:=t) (h:=hh) h0
     rw [z29];simp only;have hag0:=hag ⟨ax,as_,am,af⟩ ⟨by simp only;omega,by simp only;omega,by simp only;omega⟩;have hag1:=fun (g0:(z0j ax am t hh).2.2.2=0)=>hag ⟨(z0j ax am t hh).1,as_++[t],(z0j ax am t hh).2.1,af+(z0j ax am t hh).2.2.1⟩ ⟨by simp;omega,by have:=b3 g0;simp only;omega,by have:=b3 g0;simp only;omega⟩
     generalize z0j ax am t hh=q at *;obtain ⟨qx,qm,qf,qe⟩:=q;simp only at *
     by_cases hq:qe=0
     ·have b2:=b2 hq
      have b3:=b3 hq;have hag':=hag1 hq;clear hag0 hag1
      repeat' (first|refine dq1 ?_|refine dqc ?_|refine dqm ?_|refine dqK rfl (b1) ?_|refine dqK rfl (b2) ?_|refine z6 (z1y rfl rfl (by simp)) ?_|refine tR (fun h=>?_) fun h=>?_|refine dqT ?_|fail)
      all_goals first|exact zb rfl rfl hag'|omega
     ·clear b2 b3 hag1
      have hag':=hag0
      repeat' (first|refine dq1 ?_|refine dqc ?_|refine dqm ?_|refine dqK rfl (b1) ?_|refine tR (fun h=>?_) fun h=>?_|refine dqT ?_|fail)
      all_goals first|exact zb rfl rfl hag'|omega
    ·rintro ⟨ax,as_,am,af⟩ - again
     rw [z29]
     repeat' (first|refine dq1 ?_|exact z4 rfl rfl|refine dqF ?_|fail)
   ·clear a3 a4
    repeat' (first|refine dq1 ?_|refine dqk rfl (a1) ?_|refine dqk rfl (a2) ?_|exact z4 rfl rfl|refine tR (fun h=>?_) fun h=>?_|fail)
    all_goals omega
  ·clear a3 a4
   repeat' (first|refine dq1 ?_|refine dqk rfl (a1) ?_|refine dqk rfl (a2) ?_|exact z4 rfl rfl|refine tR (fun h=>?_) fun h=>?_|fail)
   all_goals omega
end
section
open Go.RowKit
open Go.Lib (itoa)
set_option maxRecDepth 100000
set_option maxHeartbeats 4000000
theorem z0cy {t y:Tx} {r:List Tx} {a b:List (List UInt8) × List Tx × Int}:(if t ∈ y::r then a else b)=if decide (y=t)=true then a else if t ∈ r then a else b:=by
 by_cases h:y=t
 ·subst h;simp
 ·have h':¬ t=y:=fun e=>h e.symm
  simp [h,h']
attribute [local irreducible] z0i spD zt z0j zu zw z1u zg z00 zd z1f z4f
attribute [local irreducible] den denX z0x z1c
noncomputable def z7k:z7:=spD (fun _:List (List UInt8) × List Coin × List Tx × Tx × Int=>True) fun x=>z21 ⟨x.1⟩ x.2.1 x.2.2.1 x.2.2.2.1 x.2.2.2.2
theorem znn (x:List (List UInt8)) (l:List Coin) (p:List Tx) (t:Tx) (h:Int):z7k [.l 1 (x.map z05),.l 6 (l.map z04),.l 3 (p.map eTx),I t.height,.l 3 (t.ins.map eIn),.l 2 (t.outs.map z0z),I h]=some [.l 1 ((z21 ⟨x⟩ l p t h).1.map z05),.l 3 ((z21 ⟨x⟩ l p t h).2.1.map eTx),I (z21 ⟨x⟩ l p t h).2.2]:=za (f:=fun x:List (List UInt8) × List Coin × List Tx × Tx × Int=>z21 ⟨x.1⟩ x.2.1 x.2.2.1 x.2.2.2.1 x.2.2.2.2) (x,l,p,t,h) trivial
theorem zxl (x y:Tx):z5i [I x.height,.l 3 (x.ins.map eIn),.l 2 (x.outs.map z0z),I y.height,.l 3 (y.ins.map eIn),.l 2 (y.outs.map z0z)]=some [.b (decide (x=y))]:=zkm x y
def zst:T :=
 .lets [.call 67 [3,4,5] 0,.call 67 [3,4,5] 1,.call 67 [3,4,5] 2] [] (.lets [.mk 3 [[29,30,31]]] [] (.lets [.app 3 8 32] []
 (.ret [22,33,zI 0])))
def zsu:T :=
 .ite 26 (.ret [.c (.nil 1),.c (.nil 3),25]) (.lets [.len 8] [] (.lets [.bin .eql 27 (zI 8)] [] (.ite 28 (.ret [.c (.nil 1),.c (.nil 3),.c (.i
 .i64 12)]) zst)))
def zsv:T :=
 .lets [.call 71 [7,9,3,4,5,6] 0,.call 71 [7,9,3,4,5,6] 1,.call 71 [7,9,3,4,5,6] 2,.call 71 [7,9,3,
 .v 4,5,6] 3] [] (.lets [.bin .neq 25 (zI 0)] [] zsu)
def zsw:T :=
 .ite 20 (.lets [.bin .geq 15 (zI 0)] [] (.ite 21 (.ret [.c (.nil 1),.c (.nil 3),zI 6]) zsv)) (.lets [.bin .add 15 (.c (.i .i64
 1))] [] (.again 0 [14,21]))
def zsx:T :=
 .lets [] [.inr 3 8 15] (.lets [.idx 8 15 0,.idx 8 15 1,.idx 8 15 2] [] (.lets [.call 48 [17,18,19,3,4,5] 0] []
 zsw))
def zsy:T :=
 .lets [.call 67 [3,4,5] 0,.call 67 [3,4,5] 1,.call 67 [3,4,5] 2] [] (.lets [.mk 3 [[25,26,27]]] [] (.lets [.app 3 8 28] []
 (.ret [18,29,zI 0])))
def zsz:T :=
 .ite 22 (.ret [.c (.nil 1),.c (.nil 3),21]) (.lets [.len 8] [] (.lets [.bin .eql 23 (zI 8)] [] (.ite 24 (.ret [.c (.nil 1),.c (.nil 3),.c (.i
 .i64 12)]) zsy)))
def zt0:T :=
 .lets [.call 71 [7,9,3,4,5,6] 0,.call 71 [7,9,3,4,5,6] 1,.call 71 [7,9,3,4,5,6] 2,.call 71 [7,9,3,
 .v 4,5,6] 3] [] (.lets [.bin .neq 21 (zI 0)] [] zsz)
def zt1:T :=
 .ite 16 zsx (.lets [.bin .geq (.c (.i .i64 (-1))) (zI 0)] [] (.ite 17 (.ret [.c (.nil 1),.c (.nil 3),zI 6]) zt0))
def zt2:T :=
 .ite 12 (.ret [.c (.nil 1),.c (.nil 3),11]) (.lets [.len 8] [] (.loop [zI 0,zI 0] (.lets [.bin .lss 15 13] [] zt1)))
def zev:T :=
 .lets [.call 72 [0,1,2,6] 0,.call 72 [0,1,2,6] 1,.call 72 [0,1,2,6] 2,.call 72 [0,1,2,6] 3,.call 72 [0,1,.v
 2,6] 4] [] (.lets [.bin .neq 11 (zI 0)] [] zt2)
attribute [local irreducible] z78 z2l z2d z5i
theorem z04l:Meets Tryz.prog z7k 168 ⟨[.agg 1,.one,.one,.agg 3,.one],[(true,[.pure]),(false,[.pure]),(false,[.scal])],false⟩:=by
 refine z4q (sp:=(zr [(48,z5i),(67,z2d),(71,z78),(72,z2l)])) (sigs:=zy) (cut:=[]) (hints:=[]) (fns:=[z2k 119 Tryz.f119 [] [],z2k 160 Tryz.f160 [⟨2,[.t 4,.t 8]⟩] [],z2k 185 Tryz.f185 [] []]) (dep:=4) (pool:=400) (fn:=Tryz.f168) (t:=zev) (by kernel_rfl) (by kernel_rfl) (by kernel_rfl) ?_ ?_ ?_
 ·exact (z07 (fn:=Tryz.f119) (by kernel_rfl) (by kernel_rfl) (by kernel_rfl) (by kernel_rfl) (by kernel_rfl) (z07 (fn:=Tryz.f160) (by kernel_rfl) (by kernel_rfl) (by kernel_rfl) (by kernel_rfl) (by kernel_rfl) (z07 (fn:=Tryz.f185) (by kernel_rfl) (by kernel_rfl) (by kernel_rfl) (by kernel_rfl) (by kernel_rfl) z5o)))
 ·exact (zl (L:=[(48,z5i),(67,z2d),(71,z78),(72,z2l)]) ⟨z5 rfl z04j,z5 rfl zes,z5 rfl zv5,z5 rfl zc8,trivial⟩)
 ·rintro ds rs - h
  obtain ⟨⟨x,l,p,t,hh⟩,-,rfl,rfl⟩:=z9 h;clear h;refine ⟨⟨10,?_⟩,z10 ⟨rfl,trivial⟩⟩
  show den _ _ zev [.l 1 (x.map z05),.l 6 (l.map z04),.l 3 (p.map eTx),I t.height,.l 3 (t.ins.map eIn),.l 2 (t.outs.map z0z),I hh] []=ret (z21 ⟨x⟩ l p t hh)
  have a1:=z67 x l p hh;have hs:=(zdn ⟨x⟩ l p hh).1;unfold zev z21;generalize zt ⟨x⟩ l p hh=q at *;obtain ⟨qx,qs,qm,qf,qe⟩:=q;simp only at *
  repeat' (first|refine dq1 ?_|refine dqK rfl (a1) ?_|exact z4 rfl rfl|refine tR (fun h=>?_) fun h=>?_|fail)
  (refine zm (fun (_:Unit) k=>[I 0,I k]) (fun (_:Unit) _ (r:List Tx)=>if t ∈ r then ([],[],6) else zcl qx qs qm t hh) (fun _ _=>True) () qs ?_ ?_ ?_ ?_ ?_;rfl;exact trivial;omega)
  ·rintro _ i y r hx hd hk - again hag
   rw [z0cy];have b1:=zxl y t;have hag':=hag () trivial
   by_cases hy:y=t
   ·rw [decide_eq_true hy,if_pos rfl]
    rw [decide_eq_true hy] at b1
    repeat' (first|refine dq1 ?_|refine dqc ?_|refine dqm ?_|refine dqk rfl (b1) ?_|exact z4 rfl rfl|refine dqT ?_|refine z6l rfl ?_|fail)
   ·rw [decide_eq_false hy,if_neg (by decide)]
    rw [decide_eq_false hy] at b1
    repeat' (first|refine dq1 ?_|refine dqc ?_|refine dqm ?_|refine dqk rfl (b1) ?_|refine dqT ?_|refine z4i rfl ?_|fail)
    exact zb rfl rfl hag'
  ·rintro _ - again
   rw [if_neg (by simp)];unfold zcl;have b1:=zj5 qx qm t hh;have b2:=fun h0=>zer t (z52 (zkp (x:=qx) (l:=qm) (t:=t) (h:=hh) h0).1)
   generalize z0j qx qm t hh=w at *;obtain ⟨wx,wm,wf,we⟩:=w;simp only at *
   by_cases hw:we=0
   ·have b2:=b2 hw
    repeat' (first|refine dq1 ?_|refine dqK rfl (b1) ?_|refine dqK rfl (b2) ?_|refine z6 (z1y rfl rfl (by simp)) ?_|exact z4 rfl rfl|refine tR (fun h=>?_) fun h=>?_|refine dqF ?_|fail)
    all_goals omega
   ·clear b2
    repeat' (first|refine dq1 ?_|refine dqK rfl (b1) ?_|exact z4 rfl rfl|refine tR (fun h=>?_) fun h=>?_|refine dqF ?_|fail)
    all_goals omega
noncomputable def z9g:z7:=spD (fun x:List (List UInt8) × List Coin × List Tx × Int × Int × Int × Int × List Op=>(-1≤x.2.2.2.2.1∧x.2.2.2.2.1≤1000)∧x.2.2.2.2.2.2.2.length≤8796093022208) fun x=>z3k ⟨x.1⟩ x.2.1 x.2.2.1 x.2.2.2.1 x.2.2.2.2.1 x.2.2.2.2.2.1 x.2.2.2.2.2.2.1 x.2.2.2.2.2.2.2
theorem zt3 (x:List (List UInt8)) (l:List Coin) (p:List Tx) (a b c d:Int) (o:List Op) (h : -1≤b∧b≤1000) (h2:o.length≤8796093022208):z9g [.l 1 (x.map z05),.l 6 (l.map z04),.l 3 (p.map eTx),I a,I b,I c,I d,.l 2 (o.map eOp)]=some [I (z3k ⟨x⟩ l p a b c d o).1.parent,I (z3k ⟨x⟩ l p a b c d o).1.height,I (z3k ⟨x⟩ l p a b c d o).1.work,I (z3k ⟨x⟩ l p a b c d o).1.nonce,.l 3 ((z3k ⟨x⟩ l p a b c d o).1.txs.map eTx),I (z3k ⟨x⟩ l p a b c d o).2] :=
 za (p:=fun x:List (List UInt8) × List Coin × List Tx × Int × Int × Int × Int × List Op=>(-1≤x.2.2.2.2.1∧x.2.2.2.2.1≤1000)∧x.2.2.2.2.2.2.2.length≤8796093022208) (f:=fun x:List (List UInt8) × List Coin × List Tx × Int × Int × Int × Int × List Op=>z3k ⟨x.1⟩ x.2.1 x.2.2.1 x.2.2.2.1 x.2.2.2.2.1 x.2.2.2.2.2.1 x.2.2.2.2.2.2.1 x.2.2.2.2.2.2.2) (x,l,p,a,b,c,d,o) ⟨h,h2⟩
theorem zqc (a b c d:Int) (l:List Tx):z2b [I a,I b,I c,I d,.l 3 (l.map eTx)]=some [I (zd ⟨a,b,c,d,l⟩)]:=z92 ⟨a,b,c,d,l⟩
theorem z0jh (n:Int):0≤z1f n∧z1f n≤1000:=zk8 n
def z04m:T :=
 .lets [.bin .neq 38 (zI 0)] [] (.ite 39 (.ret [zI 0,zI 0,zI 0,zI 0,.c (.nil 3),38]) (.ret [3,35,5,.v
 6,37,zI 0]))
def z04n:T :=
 .lets [.bin .add 4 (zI 1)] [] (.lets [.mk 3 [[31,.c (.nil 3),34]]] [] (.lets [.app 3 36 20] [] (.lets [.call 51 [3,35,5,6,37] 0]
 [] z04m)))
def z04o:T :=
 .lets [.bin .add 4 (zI 1)] [] (.lets [.bin .add 26 22] [] (.lets [.call 10 [7] 0] [] (.lets [.mk 2 [[32,33]]] [] z04n)))
def z04p:T :=
 .lets [.bin .eql 29 (zI 0)] [] (.ite 30 (.ret [zI 0,zI 0,zI 0,zI 0,.c (.nil 3),zI 9]) z04o)
def z04q:T :=
 .lets [.bin .neq 27 (zI 0)] [] (.ite 28 (.ret [zI 0,zI 0,zI 0,zI 0,.c (.nil 3),27]) (.lets [.bin .add 26 (.v
 22)] [] z04p))
def z04r:T :=
 .ite 24 (.ret [zI 0,zI 0,zI 0,zI 0,.c (.nil 3),23]) (.lets [.bin .add 4 (zI 1)] [] (.lets [.call 53 [25] 0,
 .call 53 [25] 1] [] z04q))
def z04s:T :=
 .lets [.call 72 [0,1,17,18] 0,.call 72 [0,1,17,18] 1,.call 72 [0,1,17,18] 2,.call 72 [0,1,17,18] 3,.call 72 [0,.v
 1,17,18] 4] [] (.lets [.bin .neq 23 (zI 0)] [] z04r)
def z04t:T :=
 .lets [.len 10] [] (.lets [.mn 15 (zI 3)] [] (.lets [.sub 3 10 none (some 16)] [] (.lets [.bin .add 4 (zI 1)] [] z04s)))
def z04u:T :=
 .lets [.bin .neq 13 (zI 0)] [] (.ite 14 (.ret [zI 0,zI 0,zI 0,zI 0,.c (.nil 3),13]) z04t)
def z04v:T :=
 .lets [.call 72 [0,1,2,8] 0,.call 72 [0,1,2,8] 1,.call 72 [0,1,2,8] 2,.call 72 [0,1,2,8] 3,.call 72 [0,1,.v
 2,8] 4] [] z04u
def zio:T :=
 .lets [.bin .add 4 (zI 1)] [] z04v
attribute [local irreducible] z2b z5w z4b
theorem z0cz:Meets Tryz.prog z9g 134 ⟨[.agg 1,.one,.one,.one,.one,.one,.one,.one],[(true,[.scal,.scal,.scal,.scal,.pure]),(false,[.scal])],false⟩:=by
 refine z8 (sp:=(zr [(10,z5w),(51,z2b),(53,z4b),(72,z2l)])) (sigs:=zy) (cut:=[]) (hints:=[]) (fn:=Tryz.f134) (t:=zio) (by kernel_rfl) (by kernel_rfl) (by kernel_rfl) ?_ ?_
 ·exact (zl (L:=[(10,z5w),(51,z2b),(53,z4b),(72,z2l)]) ⟨z5 rfl zpg,z5 rfl zdh,z5 rfl zk9,z5 rfl zc8,trivial⟩)
 ·rintro ds rs - h
  obtain ⟨⟨x,l,p,a,b,c,d,o⟩,⟨hb,ho⟩,rfl,rfl⟩:=z9 h;clear h;simp only at hb ho;refine ⟨⟨1,?_⟩,z10 ⟨rfl,rfl,rfl,rfl,rfl,trivial⟩⟩
  show den _ _ zio [.l 1 (x.map z05),.l 6 (l.map z04),.l 3 (p.map eTx),I a,I b,I c,I d,.l 2 (o.map eOp)] []=ret (z3k ⟨x⟩ l p a b c d o)
  have a1:=z67 x l p (b+1);have hs:=(zdn ⟨x⟩ l p (b+1)).1;unfold zio z3k;generalize zt ⟨x⟩ l p (b+1)=q at *;obtain ⟨qx,qs,qm,qf,qe⟩:=q;simp only at *;have a2:=z67 x l (qs.take 3) (b+1);have hz:=zdn ⟨x⟩ l (qs.take 3) (b+1);generalize zt ⟨x⟩ l (qs.take 3) (b+1)=w at *;obtain ⟨wx,ws,wm,wf,we⟩:=w;simp only at *;unfold zss;have a3:=zem (b+1);have a4:=z8w o ho;have hr:=z0jh (b+1);generalize z1f (b+1)=rn at *;generalize z4f (b+1)=re at *;have a5:=zqc a (b+1) c d (⟨b+1,[],[⟨rn+wf,o⟩]⟩::ws);generalize zd ⟨a,b+1,c,d,⟨b+1,[],[⟨rn+wf,o⟩]⟩::ws⟩=be at *;have ht:qs.take (if 3<(qs.length:Int) then 3 else (qs.length:Int)).toNat=qs.take 3:=by
   by_cases h3:3<(qs.length:Int)
   ·rw [if_pos h3];rfl
   ·rw [if_neg h3,zY1z,zY2n,zY0n (by omega)]
  repeat' (first|refine dq1 ?_|refine dqK rfl (a1) ?_|refine dqK rfl (a2) ?_|refine dqK rfl (a3) ?_|refine dqk rfl (a4) ?_|refine dqk rfl (a5) ?_|refine z6 (z1y rfl rfl (by simp)) ?_|refine z6 (zpe (l:=[⟨b+1,[],[⟨rn+wf,o⟩]⟩]) (l':=ws) rfl rfl (by simp;omega)) ?_|exact z4 rfl rfl|refine tR (fun h=>?_) fun h=>?_|fail)
end
section
open Go.Lib (itoa atoiAll)
open Go.RowKit
end
section
open Go.Lib (itoa)
open Go.RowKit
structure PlainL (l:List UInt8):Prop where
 ne:∀ b ∈ l,b≠10
 no:∀ s,List.isPrefixOf tTx (l++s)=false
end
section
open Go.RowKit
set_option maxRecDepth 100000
theorem zv6:∀ (l t:List z1l) (o:List Int),z11 t→(z2w l t o).2.2=0→z11 (z2w l t o).1∧t <+: (z2w l t o).1∧(∀ s ∈ l,0≤idx (z2w l t o).1 s∧s.length≤4000)∧(z2w l t o).2.1=o++l.map fun s=>idx (z2w l t o).1 s+1
 | [],t,o,ht,_=>⟨ht,zY3b _,(fun s hs=>by cases hs),by simp [z2w]⟩
 | s::l,t,o,ht,he=>by
  rw [z2w] at he ⊢
  by_cases h:4000<s.length
  ·rw [if_pos h] at he;cases he
  rw [if_neg h] at he ⊢
  by_cases h2:z2i t s≠0
  ·rw [if_pos h2] at he;exact absurd he h2
  rw [if_neg h2] at he ⊢;have h3:z2i t s=0:=by simpa using h2
  obtain ⟨a,b,c,d⟩:=z0ah ht (by omega) h3;obtain ⟨e,f,g,i⟩:=zv6 l _ _ a he;generalize z2w l (z3w t s) (o++[z3c t s])=q at *;refine ⟨e,b.trans f,fun u hu=>?_,?_⟩
  ·rcases zY0f.1 hu with rfl|hu
   ·exact ⟨zcx f c,by omega⟩
   ·exact g u hu
  ·rw [i,d,zY1q,z45 f c]
   simp
theorem zv7:∀ (l t:List z1l) (o:List Int),(∀ s ∈ l,0≤idx t s∧s.length≤4000)→z2w l t o=(t,o++l.map (fun s=>idx t s+1),0)
 | [],t,o,_=>by simp [z2w]
 | s::l,t,o,h=>by
  obtain ⟨h1,h2⟩:=h s (zY0b ..);obtain ⟨a,b,c⟩:=zpu h1;rw [z2w,if_neg (by omega),if_neg (by omega),b,c,zv7 l t _ fun u hu=>h u (zY08 _ hu)];simp
theorem zj6 {k:Book} {b:Block} {x:List z1l} {n:Int} {ns:List Int} (h:z01 k b=(x,n,ns,0)) :
  zd b=0∧z11 k.texts∧z11 x∧k.texts <+: x∧0≤idx x (z1s b)∧(z1s b).length≤4000∧n=idx x (z1s b)+1∧(∀ s ∈ z3d b,0≤idx x s∧s.length≤4000)∧ns=(z3d b).map fun s=>idx x s+1:=by
 unfold z01 at h
 by_cases hp:(z0q b).2=0
 rotate_left
 ·rw [if_pos hp] at h
  exact absurd (congrArg (fun x=>x.2.2.2) h) hp
 have hb:=zcy hp;rw [if_neg (fun k=>k hp),z7p hb] at h;unfold z9w at h;simp only at h
 by_cases ha:(z12 k (z3d b++[z1s b])).2.2=0
 rotate_left
 ·rw [if_pos ha] at h
  exact absurd (congrArg (fun x=>x.2.2.2) h) ha
 rw [if_neg (fun k=>k ha)] at h;unfold z12 at h ha
 by_cases hc:zg k=0
 rotate_left
 ·rw [if_pos hc] at ha
  exact absurd ha hc
 rw [if_neg (fun k=>k hc)] at h ha;have hk:=(z0e k.texts).1 hc;obtain ⟨e,f,g,i⟩:=zv6 _ _ _ hk ha;generalize z2w (z3d b++[z1s b]) k.texts []=q at *;obtain ⟨q1,q2,q3⟩:=q;simp only [zY0r,and_true,zY0z,zY1t,zY1q,zY2v] at *;obtain ⟨rfl,h2,h3⟩:=h;have hl:=g (z1s b) (by simp);refine ⟨hb,hk,e,f,hl.1,hl.2,?_,fun s hs=>g s (List.mem_append_left _ hs),?_⟩
 ·rw [← h2,i,zY0u,zY0k (by simp)]
  simp
 ·rw [← h3,i,zY13 (by simp)]
  rw [zY0n (by simp)]
theorem zxm {b:Block} {y:List z1l} (hb:zd b=0) (hy:z11 y) (h1:0≤idx y (z1s b)) (h2:(z1s b).length≤4000) (h3:∀ s ∈ z3d b,0≤idx y s∧s.length≤4000) :
  z01 ⟨y⟩ b=(y,idx y (z1s b)+1,(z3d b).map (fun s=>idx y s+1),0):=by
 have e:z12 ⟨y⟩ (z3d b++[z1s b])=(y,(z3d b++[z1s b]).map (fun s=>idx y s+1),0):=by
  unfold z12;rw [if_neg (fun k=>k ((z0e y).2 hy)),zv7 _ _ _ fun s hs=>?_,zY0z];rcases zY0w.1 hs with h|h
  ·exact h3 s h
  ·rw [zY0y.1 h];exact ⟨h1,h2⟩
 unfold z01;rw [z7p hb,if_neg (fun k=>k rfl)];unfold z9w;rw [e,if_neg (fun k=>k rfl)];simp only [zY0r,and_true,true_and];refine ⟨?_,?_⟩
 ·rw [zY1t,zY0u,zY0k (by simp)]
  simp
 ·rw [zY1t,zY13 (by simp),zY0n (by simp)]
end
section
open Go.RowKit
set_option maxRecDepth 100000
inductive RunC (h:Int) (y:List z1l):List Coin→List Tx→List Coin→Int→Prop where
 | nil (m:List Coin):RunC h y m [] m 0
 | cons {m m1 m' sp:List Coin} {t:Tx} {K:List Tx} {f:Int}:zj t=0→t.ins.length≠0→(z1n t).length≤4000→0≤idx y (z1n t)→zw m t (idx y (z1n t)+1) h=(m1,sp,0)→RunC h y m1 K m' f→RunC h y m (t::K) m' (z1u t sp+f)
theorem RunC.more {h:Int} {y z:List z1l} {m m':List Coin} {K:List Tx} {f:Int} (hp:y <+: z) (R:RunC h y m K m' f):RunC h z m K m' f:=by
 induction R with
 | nil m=>exact .nil m
 | cons h1 h2 h3 h4 h5 _ ih =>
  have e:=z45 hp h4;exact .cons h1 h2 h3 (by omega) (by rw [e];exact h5) ih
theorem z08c {m m1 sp:List Coin} {t:Tx} {nm h:Int} (hi:t.ins.length≠0) (h0:zw m t nm h=(m1,sp,0)):CoinsOK m∧CoinsOK m1∧0≤z1u t sp∧zh m1=zh m - z1u t sp:=by
 obtain ⟨r,d⟩:=zb4 (l:=m) (t:=t) (nm:=nm) (h:=h) (by rw [h0]);rw [h0] at d;exact ⟨d.ok,d.end_,d.fee hi,d.total⟩
theorem RunC.facts {h:Int} {y:List z1l} {m m':List Coin} {K:List Tx} {f:Int} (R:RunC h y m K m' f):0≤f∧zh m'=zh m - f∧(CoinsOK m→CoinsOK m'):=by
 induction R with
 | nil m=>exact ⟨by omega,by omega,fun h=>h⟩
 | cons h1 h2 h3 h4 h5 _ ih =>
  obtain ⟨a,b,c,d⟩:=z08c h2 h5;obtain ⟨e,f,g⟩:=ih;exact ⟨by omega,by omega,fun _=>g b⟩
theorem RunC.part {h:Int} {y:List z1l} {m':List Coin} {L:List Tx}:∀ {K:List Tx} {m:List Coin} {f:Int},RunC h y m (K++L) m' f→∃ m1 f1 f2,RunC h y m K m1 f1∧RunC h y m1 L m' f2
 | [],m,f,R=>⟨m,0,f,.nil m,R⟩
 | t::K,m,f,R=>by
  rw [zY1a] at R
  cases R with
  | cons h1 h2 h3 h4 h5 R =>
   obtain ⟨m1,f1,f2,a,b⟩:=RunC.part R;exact ⟨m1,_,f2,.cons h1 h2 h3 h4 h5 a,b⟩
theorem RunC.snoc {h:Int} {y:List z1l} {m m' m2 sp:List Coin} {K:List Tx} {f:Int} {t:Tx} (R:RunC h y m K m' f) (h1:zj t=0) (h2:t.ins.length≠0) (h3:(z1n t).length≤4000) (h4:0≤idx y (z1n t)) (h5:zw m' t (idx y (z1n t)+1) h=(m2,sp,0)):RunC h y m (K++[t]) m2 (f+z1u t sp):=by
 induction R with
 | nil m =>
  have:=RunC.cons h1 h2 h3 h4 h5 (.nil _);rw [show z1u t sp+0=0+z1u t sp by omega] at this;exact this
 | cons g1 g2 g3 g4 g5 _ ih =>
  have:=RunC.cons g1 g2 g3 g4 g5 (ih h5);rw [← Int.add_assoc] at this;exact this
theorem z0ol {x:List z1l} {s:z1l} (hx:z11 x) (h:z2c ⟨x⟩ s=0):s.length≤4000∧z11 (z2y ⟨x⟩ s)∧x <+: z2y ⟨x⟩ s∧0≤idx (z2y ⟨x⟩ s) s∧z1e ⟨x⟩ s=idx (z2y ⟨x⟩ s) s+1:=by
 have hc:=(z0e x).2 hx;unfold z2c at h;rw [if_neg (fun k=>k hc)] at h
 by_cases hl:4000<s.length
 ·rw [if_pos hl] at h;exact absurd h (by decide)
 rw [if_neg hl] at h;have e1:z2y ⟨x⟩ s=z3w x s:=by
  unfold z2y;rw [if_neg (fun k=>k hc),if_neg hl]
 have e2:z1e ⟨x⟩ s=z3c x s:=by
  unfold z1e;rw [if_neg (fun k=>k hc),if_neg hl]
 rw [e1,e2];obtain ⟨a,b,c,d⟩:=z0ah hx (by omega) h;exact ⟨by omega,a,b,c,d⟩
theorem zmq {x:List z1l} {s:z1l} (hx:z11 x) (hl:s.length≤4000) (h:0≤idx x s):z2c ⟨x⟩ s=0∧z2y ⟨x⟩ s=x∧z1e ⟨x⟩ s=idx x s+1:=by
 have hc:=(z0e x).2 hx;obtain ⟨a,b,c⟩:=zpu h;refine ⟨?_,?_,?_⟩
 ·unfold z2c;rw [if_neg (fun k=>k hc),if_neg (by omega)];exact a
 ·unfold z2y;rw [if_neg (fun k=>k hc),if_neg (by omega)];exact b
 ·unfold z1e;rw [if_neg (fun k=>k hc),if_neg (by omega)];exact c
theorem zlw {x x1:List z1l} {m m1:List Coin} {t:Tx} {h f1:Int} (hx:z11 x) (h0:z0j x m t h=(x1,m1,f1,0)):z11 x1∧x <+: x1∧zj t=0∧t.ins.length≠0∧(z1n t).length≤4000∧0≤idx x1 (z1n t)∧∃ sp,zw m t (idx x1 (z1n t)+1) h=(m1,sp,0)∧f1=z1u t sp:=by
 obtain ⟨a,b,c,d,e⟩:=zkp (x:=x) (l:=m) (t:=t) (h:=h) (by rw [h0]);rw [h0] at e;simp only [zY0r,and_true] at e;obtain ⟨e1,e2,e3⟩:=e;obtain ⟨p,q,r,s,u⟩:=z0ol hx c;rw [← e1] at q r s u;rw [u] at d e2 e3;refine ⟨q,r,a,b,p,s,_,?_,e3⟩;rw [e2,← d]
theorem z0ji {y:List z1l} {m m1 sp:List Coin} {t:Tx} {h:Int} (hy:z11 y) (h1:zj t=0) (h2:t.ins.length≠0) (h3:(z1n t).length≤4000) (h4:0≤idx y (z1n t)) (h5:zw m t (idx y (z1n t)+1) h=(m1,sp,0)):z0j y m t h=(y,m1,z1u t sp,0):=by
 obtain ⟨a,b,c⟩:=zmq hy h3 h4;unfold z0j;rw [z90 h1,if_neg (fun k=>k rfl),if_neg (by omega),if_neg (fun k=>k a),c,h5,if_neg (fun k=>k rfl),b]
theorem zcm {h:Int} {x':List z1l} {s':List Tx} {m':List Coin} {f':Int} {w0:List Coin}:∀ (r:List Tx) (a:Sw),z11 a.x→RunC h a.x w0 a.s a.m a.f→z29 h a r=(x',s',m',f',0)→z11 x'∧a.x <+: x'∧RunC h x' w0 s' m' f'∧s'.length≤a.s.length+r.length
 | [],a,hx,R,h0=>by
  rw [z29] at h0;simp only [zY0r,and_true] at h0;obtain ⟨rfl,rfl,rfl,rfl⟩:=h0;exact ⟨hx,zY3b _,R,by simp⟩
 | t::r,a,hx,R,h0=>by
  rw [z29] at h0
  by_cases he:(z0j a.x a.m t h).2.2.2=0
  ·rw [if_neg (fun k=>k he)] at h0
   have hp:z0j a.x a.m t h=((z0j a.x a.m t h).1,(z0j a.x a.m t h).2.1,(z0j a.x a.m t h).2.2.1,0):=by rw [← he]
   obtain ⟨p1,p2,p3,p4,p5,p6,sp,p7,p8⟩:=zlw hx hp;have R2:=(R.more p2).snoc p3 p4 p5 p6 p7;rw [← p8] at R2;obtain ⟨q1,q2,q3,q4⟩:=zcm r ⟨_,a.s++[t],_,_⟩ p1 R2 h0;refine ⟨q1,p2.trans q2,q3,?_⟩;simp only [zY04,zY0g,zY17] at q4 ⊢;omega
  ·rw [if_pos he] at h0
   obtain ⟨q1,q2,q3,q4⟩:=zcm r a hx R h0;exact ⟨q1,q2,q3,by simp only [zY0g];omega⟩
theorem z04w {h:Int} {y:List z1l} (hy:z11 y) {m m':List Coin} {K:List Tx} {f:Int} (R:RunC h y m K m' f):∀ (s:List Tx) (g:Int),z29 h ⟨y,s,m,g⟩ K=(y,s++K,m',g+f,0):=by
 induction R with
 | nil m=>intro s g;rw [z29];simp
 | cons h1 h2 h3 h4 h5 _ ih =>
  intro s g;rw [z29];simp only;rw [z0ji hy h1 h2 h3 h4 h5,if_neg (fun k=>k rfl),ih];simp [Int.add_assoc]
theorem z7s {k:Book} {l:List Coin} {p:List Tx} {h:Int} {x:List z1l} {s:List Tx} {m:List Coin} {f:Int} (h0:zt k l p h=(x,s,m,f,0)):z11 x∧CoinsOK l∧1≤h∧h≤1000∧s.length≤8∧RunC h x l s m f:=by
 unfold zt at h0
 by_cases h1:zg k=0
 rotate_left
 ·rw [if_pos h1] at h0;exact absurd (congrArg (fun x=>x.2.2.2.2) h0) h1
 rw [if_neg (fun k=>k h1)] at h0
 by_cases h2:z00 l=0
 rotate_left
 ·rw [if_pos h2] at h0;exact absurd (congrArg (fun x=>x.2.2.2.2) h0) h2
 rw [if_neg (fun k=>k h2)] at h0
 by_cases h3:h<1
 ·rw [if_pos h3] at h0;exact absurd (congrArg (fun x=>x.2.2.2.2) h0) (by show ¬ (3:Int)=0;decide)
 rw [if_neg h3] at h0
 by_cases h4:h > 1000
 ·rw [if_pos h4] at h0;exact absurd (congrArg (fun x=>x.2.2.2.2) h0) (by show ¬ (3:Int)=0;decide)
 rw [if_neg h4] at h0
 by_cases h5:(p.length:Int) > 8
 ·rw [if_pos h5] at h0;exact absurd (congrArg (fun x=>x.2.2.2.2) h0) (by show ¬ (2:Int)=0;decide)
 rw [if_neg h5] at h0;obtain ⟨q1,q2,q3,q4⟩:=zcm (w0:=l) p ⟨k.texts,[],l,0⟩ ((z0e _).1 h1) (.nil _) h0;simp only [zY17] at q4;exact ⟨q1,(z0r l).1 h2,by omega,by omega,by omega,q3⟩
theorem zmr {x:List z1l} {l:List Coin} {s:List Tx} {m:List Coin} {f h:Int} (hx:z11 x) (hl:CoinsOK l) (h1:1≤h) (h2:h≤1000) (h3:s.length≤8) (R:RunC h x l s m f):zt ⟨x⟩ l s h=(x,s,m,f,0):=by
 unfold zt;rw [if_neg (fun k=>k ((z0e x).2 hx)),if_neg (fun k=>k ((z0r l).2 hl)),if_neg (by omega),if_neg (by omega),if_neg (by omega),z04w hx R];simp
theorem zqd {k:Book} {l:List Coin} {p:List Tx} {t:Tx} {h:Int} {x:List z1l} {more:List Tx} (h0:z21 k l p t h=(x,more,0)) :
  ∃ (x0:List z1l) (stay:List Tx) (m m1:List Coin) (f f1:Int),zt k l p h=(x0,stay,m,f,0)∧more=stay++[t]∧more.length≤8∧zt ⟨x⟩ l more h=(x,more,m1,f1,0)∧z21 ⟨x⟩ l more t h=([],[],6):=by
 unfold z21 at h0;generalize hq:zt k l p h=q at *;obtain ⟨x0,stay,m,f,e⟩:=q;simp only at h0
 by_cases he:e=0
 rotate_left
 ·rw [if_pos he] at h0;exact absurd (congrArg (fun x=>x.2.2) h0) he
 subst he;rw [if_neg (fun k=>k rfl)] at h0
 by_cases hm:t ∈ stay
 ·rw [if_pos hm] at h0;exact absurd (congrArg (fun x=>x.2.2) h0) (by show ¬ (6:Int)=0;decide)
 rw [if_neg hm] at h0;unfold zcl at h0
 by_cases hp:(z0j x0 m t h).2.2.2=0
 rotate_left
 ·rw [if_pos hp] at h0;exact absurd (congrArg (fun x=>x.2.2) h0) hp
 rw [if_neg (fun k=>k hp)] at h0
 by_cases h8:(stay.length:Int)=8
 ·rw [if_pos h8] at h0;exact absurd (congrArg (fun x=>x.2.2) h0) (by show ¬ (12:Int)=0;decide)
 rw [if_neg h8] at h0;simp only [zY0r,and_true] at h0;obtain ⟨h01,rfl⟩:=h0;obtain ⟨q1,q2,q3,q4,q5,R⟩:=z7s hq;have hpp:z0j x0 m t h=(x,(z0j x0 m t h).2.1,(z0j x0 m t h).2.2.1,0):=by rw [← hp,← h01]
 obtain ⟨p1,p2,p3,p4,p5,p6,sp,p7,p8⟩:=zlw q1 hpp;have R2:=(R.more p2).snoc p3 p4 p5 p6 p7;have hl:(stay++[t]).length≤8:=by simp;omega
 have hs:=zmr p1 q2 q3 q4 hl R2;refine ⟨x0,stay,m,_,f,_,rfl,rfl,hl,hs,?_⟩;unfold z21;rw [hs,if_neg (fun k=>k rfl),if_pos (by simp)]
end
section
open Go.RowKit
set_option maxRecDepth 100000
def zk (t:Tree) (n:Int):Int:=if z0o t n≠0 then 0 else (z0a t n).height
theorem z0jj:(List.range 1000).all (fun k=>decide (zdx ((k:Int)+1)=zdx k+z1f ((k:Int)+1)))=true:=by decide +kernel
theorem z0s0 (h:Int) (h1:1≤h) (h2:h≤1000):zdx h=zdx (h - 1)+z1f h:=by
 have:=zY1g.1 z0jj (h - 1).toNat (by simp;omega);have e:(((h - 1).toNat:Nat):Int)=h - 1:=by omega
 rw [decide_eq_true_iff,e] at this;rw [show h - 1+1=h by omega] at this;exact this
theorem z04x {k:Book} {t:Tree} (ok:TreeOK t.names t.blocks):∀ (r:Nat) (n:Int) (l:List Coin),z57 t.names n≤r→(n=0∨0≤idx t.names n)→z0w k t [] (z0s t.names t.blocks n)=(l,0)→zh l≤zdx ((z0s t.names t.blocks n).length:Int):=by
 intro r
 induction r with
 | zero =>
  intro n l hr hn h;rcases hn with hn|hn
  ·subst hn
   rw [z1r,z0w] at h;obtain rfl:[]=l:=congrArg (fun x=>x.1) h;rw [z1r];decide +kernel
  ·have:=(z36 ok hn).2.2
   omega
 | succ r ih =>
  intro n l hr hn h;rcases hn with hn|hn
  ·subst hn
   rw [z1r,z0w] at h;obtain rfl:[]=l:=congrArg (fun x=>x.1) h;rw [z1r];decide +kernel
  ·have hl:=zci ok (.inr hn)
   have hh:=zga ok _ n (zY0p _) hn;obtain ⟨s1,s2,s3⟩:=z36 ok hn;have hb:=(z3n ok hn).2.2;rw [s1] at h hl hh ⊢;obtain ⟨q,q1,q2⟩:=zil k t _ _ _ _ h;obtain ⟨us,q3⟩:=zv4 q2;have q4:=ih _ q (by omega) s2 q1;have q5:=(zv3 q3).2.2.2.1;rw [hb,hh] at q5;rw [zY04,zY19] at hl q5 ⊢;have q6:=z0s0 (((z0s t.names t.blocks (z0g t.names t.blocks n)).length+1:Nat):Int) (by omega) (by omega);rw [show (((z0s t.names t.blocks (z0g t.names t.blocks n)).length+1:Nat):Int) - 1=((z0s t.names t.blocks (z0g t.names t.blocks n)).length:Int) by omega] at q6;omega
theorem zew {k:Book} {t:Tree} {n:Int} {l:List Coin} (h:ze k t n=(l,0)):CoinsOK l∧(n≠0→z0o t n=0)∧0≤zk t n∧zk t n≤24∧zh l≤zdx (zk t n)∧(n=0→zk t n=0):=by
 obtain ⟨h1,h2,h3,h4,h5⟩:=zik h;have hs:=z04x h2 _ n l (zY0p _) h3 h5;rcases h3 with h3|h3
 ·subst h3
  rw [z1r,z0w] at h5;obtain rfl:[]=l:=congrArg (fun x=>x.1) h5;have hz:idx t.names 0<0:=by
   apply Classical.byContradiction;intro hc;have:=(h2.name (m:=0) (by omega)).1;omega
  have e:z0o t 0=5:=by
   unfold z0o;rw [if_neg (fun k=>k ((z03 _ _).2 h2)),if_pos hz]
  have hh:zk t 0=0:=by unfold zk;rw [if_pos (by rw [e];decide)]
  rw [hh];rw [z1r] at hs;exact ⟨⟨by simp,(fun c hc=>by cases hc),List.Pairwise.nil,by simp [zh]⟩,fun k=>absurd rfl k,by omega,by omega,hs,fun _=>rfl⟩
 ·obtain ⟨q,us,q1,q2⟩:=z0cw h h3
  obtain ⟨p1,p2,p3⟩:=z3n h2 h3;have hh:zk t n=((z0s t.names t.blocks n).length:Int):=by
   unfold zk;rw [if_neg (fun k=>k p2),p3,zga h2 _ n (zY0p _) h3]
  have hl:=zci h2 (.inr h3);rw [hh];exact ⟨(zv3 q2).2.2.1,fun _=>p2,by omega,by omega,hs,fun k=>by have:=(h2.name h3).1;omega⟩
end
section
open Go.RowKit
set_option maxRecDepth 100000
def z3a (k:Book):List Tx→Bool
 | []=>true
 | t::r=>if (zu t).2≠0 then false else if (zu t).1 ∈ k.texts then z3a k r else false
def zex (k:Book) (t:Tree) (K:Int) (i:Nat):List Int→Int
 | []=>K
 | nm::r=>if z4w k nm≠0 then 5 else if z4v k nm≠(z0q (z08 t.blocks i)).1 then 5 else
  if z3a k (z08 t.blocks i).txs=false then 5 else if (ze k t nm).2≠0 then (ze k t nm).2 else zex k t K (i+1) r
def z5t (k:Book) (n:Node):Int :=
 if (ze k n.t n.tip).2≠0 then (ze k n.t n.tip).2 else if (n.pool.length:Int)=0 then 0 else
 if z3a k n.pool=false then 5 else
 if (zt k (ze k n.t n.tip).1 n.pool (zk n.t n.tip+1)).2.2.2.2≠0 then (zt k (ze k n.t n.tip).1 n.pool (zk n.t n.tip+1)).2.2.2.2 else
 if ((zt k (ze k n.t n.tip).1 n.pool (zk n.t n.tip+1)).2.1.length:Int)≠n.pool.length then 7 else 0
def z0p (k:Book) (n:Node):Int :=
 if zg k≠0 then zg k else if (z16 n.t).2≠0 then (z16 n.t).2 else if (z16 n.t).1≠n.tip then 4 else
 zex k n.t (z5t k n) 0 n.t.names
def z84:Node:=⟨⟨[],[]⟩,[],0⟩
abbrev z0q1:=List z1l × Node × Int × Int
def zlx (k:Book) (t:Tree) (p:List Tx) (tip nm:Int):z0q1 :=
 if (p.length:Int) > 0 then (if zk t tip+1≤1000 then
  ((zt k (ze k t tip).1 p (zk t tip+1)).1,⟨t,(zt k (ze k t tip).1 p (zk t tip+1)).2.1,tip⟩,nm,0)
  else (k.texts,⟨t,p,tip⟩,nm,0)) else (k.texts,⟨t,p,tip⟩,nm,0)
def z0k (k:Book) (n:Node) (b:Block):z0q1 :=
 if z0p k n≠0 then ([],z84,0,z0p k n) else if (z01 k b).2.2.2≠0 then ([],z84,0,(z01 k b).2.2.2) else
 if z0y n.t (z01 k b).2.1 b≠0 then ([],z84,0,z0y n.t (z01 k b).2.1 b) else
 if (ze ⟨(z01 k b).1⟩ (z2j n.t (z01 k b).2.1 b) (z01 k b).2.1).2≠0 then ([],z84,0,(ze ⟨(z01 k b).1⟩ (z2j n.t (z01 k b).2.1 b) (z01 k b).2.1).2) else
 zlx ⟨(z01 k b).1⟩ (z2j n.t (z01 k b).2.1 b) n.pool (z16 (z2j n.t (z01 k b).2.1 b)).1 (z01 k b).2.1
def z13 (k:Book) (n:Node) (t:Tx):List z1l × Node × Int :=
 if z0p k n≠0 then ([],z84,z0p k n) else if (ze k n.t n.tip).2≠0 then ([],z84,(ze k n.t n.tip).2) else
 if (z21 k (ze k n.t n.tip).1 n.pool t (zk n.t n.tip+1)).2.2≠0 then ([],z84,(z21 k (ze k n.t n.tip).1 n.pool t (zk n.t n.tip+1)).2.2) else
 ((z21 k (ze k n.t n.tip).1 n.pool t (zk n.t n.tip+1)).1,⟨n.t,(z21 k (ze k n.t n.tip).1 n.pool t (zk n.t n.tip+1)).2.1,n.tip⟩,0)
def z1k (k:Book) (n:Node) (work nonce:Int) (o:List Op):List z1l × Node × Block × Int :=
 if z0p k n≠0 then ([],z84,z24,z0p k n) else if (ze k n.t n.tip).2≠0 then ([],z84,z24,(ze k n.t n.tip).2) else
 if (z3k k (ze k n.t n.tip).1 n.pool n.tip (zk n.t n.tip) work nonce o).2≠0 then ([],z84,z24,(z3k k (ze k n.t n.tip).1 n.pool n.tip (zk n.t n.tip) work nonce o).2) else
 if (z0k k n (z3k k (ze k n.t n.tip).1 n.pool n.tip (zk n.t n.tip) work nonce o).1).2.2.2≠0 then ([],z84,z24,(z0k k n (z3k k (ze k n.t n.tip).1 n.pool n.tip (zk n.t n.tip) work nonce o).1).2.2.2) else
 ((z0k k n (z3k k (ze k n.t n.tip).1 n.pool n.tip (zk n.t n.tip) work nonce o).1).1,(z0k k n (z3k k (ze k n.t n.tip).1 n.pool n.tip (zk n.t n.tip) work nonce o).1).2.1,(z3k k (ze k n.t n.tip).1 n.pool n.tip (zk n.t n.tip) work nonce o).1,0)
def z0al (k:Book) (n:Node):List Coin × Int:=if z0p k n≠0 then ([],z0p k n) else ze k n.t n.tip
end
section
open Go.RowKit
open Go.Lib (itoa)
set_option maxRecDepth 100000
set_option maxHeartbeats 4000000
end
section
open Go.RowKit
set_option maxRecDepth 100000
def z17 (x:Node):List Dt:=zak x.t++[.l 3 (x.pool.map eTx),I x.tip]
theorem zv8 (x y:Node) (h:z17 x=z17 y):x=y:=by
 obtain ⟨t,p,n⟩:=x;obtain ⟨t',p',n'⟩:=y;obtain ⟨h1,h2⟩:=List.append_inj' h rfl;simp only [zY1o,Dt.l.injEq,true_and,and_true] at h2;obtain rfl:=zu7 t t' h1;obtain rfl:=z2e zln h2.1;obtain rfl:=zn3 n n' (by unfold zf;rw [h2.2]);rfl
instance:Enc Node:=⟨z17,4,fun _=>rfl,zv8⟩
theorem z0om:ShE zoz z17:=z2x (e0:=zak) (e1:=z1x (eSl 3 eTx) zf) z0n5 (z9u (z4p she_tx rfl) z1d) (fun x=>⟨x.t,(x.pool,x.tip),rfl⟩) (fun a b=>rfl)
theorem z0on (k:Book) (n:Int):(z4v k n).length≤9223372036854775807:=by
 unfold z4v
 split
 ·simp
 rename_i h
 split
 ·simp
 ·have ok:=(z0e k.texts).1 (zY0i.1 h)
  cases hx:k.texts[(n - 1).toNat]? with
  | none=>simp
  | some s=>have:=ok.2.1 s (zY07 hx);simp only [zY1h];omega
theorem z0s1 (k:Book) (n:Int):Er (z4w k n):=by
 unfold z4w
 split
 ·exact zlt k
 split
 ·exact z1g _ rfl
 ·exact z1g _ rfl
noncomputable def z9h:z7:=spD (fun _:Book × Int=>True) fun x=>(z4v x.1 x.2,z4w x.1 x.2)
theorem zt4 (k:Book) (n:Int):z9h [.l 1 (k.texts.map z05),I n]=some [.s (z4v k n),I (z4w k n)]:=za (f:=fun x:Book × Int=>(z4v x.1 x.2,z4w x.1 x.2)) (k,n) trivial
theorem z0d0:Meets Tryz.prog z9h 69 ⟨[.agg 1,.one],[(false,[.scal]),(false,[.scal])],true⟩ :=
 z65 rfl (z2h (fn:=Tryz.f69) (by kernel_rfl) (by kernel_rfl) (by kernel_rfl)) fun x _ W F us hF h=>by
  obtain ⟨k,n⟩:=x;obtain ⟨cs,us,rfl,h1,h⟩:=zrj (d1:=zaj k) (d2:=zf n) h rfl;obtain ⟨v,us,rfl,h2,h⟩:=z1j h;obtain rfl:=z2f h;obtain ⟨rfl,hn⟩:=zdy h2;refine (z0ng k cs n W F (she_book.of h1) hF.1).mono ?_;rintro e w' ⟨rfl,hb⟩;exact ⟨_,rfl,hb,zlq rfl rfl (.s _ (z0on k n)) (.i _ _ (wrap_i64 (z0s1 k n).i64))⟩
noncomputable def zey:z7:=spD (fun _:List (List UInt8) × List UInt8=>True) fun x=>z2u x.1 x.2
theorem z08d (l:List (List UInt8)) (s:List UInt8):zey [.l 1 (l.map z05),.s s]=some [.b (z2u l s)]:=za (f:=fun x:List (List UInt8) × List UInt8=>z2u x.1 x.2) (l,s) trivial
theorem z0s2:Meets Tryz.prog zey 121 ⟨[.one,.one],[(false,[.scal])],true⟩ :=
 zpn rfl (z2h (fn:=Tryz.f121) (by kernel_rfl) (by kernel_rfl) (by kernel_rfl)) fun ⟨a,b⟩ _ W F us hF h=>by
  obtain ⟨v,us,rfl,h1,h⟩:=z1j h;obtain ⟨v2,us,rfl,h2,h⟩:=z1j h;obtain rfl:=z2f h;obtain ⟨A,n,c,rfl,k1⟩:=z3s zbj h1;obtain ⟨rfl,k2⟩:=zgx h2;exact (zz6 a b A n c W F k1).mono fun e w' h=>⟨h.1,h.2 ▸ Below.refl _ _⟩
end
end Go.Proofs.YtiblpmghkcfgdaaGreatDoor
