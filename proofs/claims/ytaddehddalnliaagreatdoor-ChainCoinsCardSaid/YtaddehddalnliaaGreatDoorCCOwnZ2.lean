/- Own texts, put together by wip/bundle.py: VB3, VL7, VS4, VB4, VR1, VR6, VU3, VU4, VB5, VC0, VEr, VBk, VC1, VB6, VCT, VU7, VRow, VDel, VIns, VU8, VU9, VPU, VPB, VC2, VC3, VC5, VC8, VC9, VC10, VR2, VR3, VR4, VR5, VR7, VR8, VN0, VSB, VU5, VL8, VCk, VB7, VS5, VC4. -/
import Derived.Laws.IdiomCopy
import Derived.Lib.AppendZerosOnto
import Derived.Deep.RegionLaw
import Derived.Lib.Hide
import Derived.Laws.Externs
import Derived.Laws.NewBlocks
import Derived.Test.YtaddehddalnliaaGreatDoorCCOwnB
import Derived.Test.YtaddehddalnliaaGreatDoorCCOwnC
import Derived.Test.YtaddehddalnliaaGreatDoorCCOwnR
import Derived.Test.YtaddehddalnliaaGreatDoorCCOwnS
import Derived.Test.YtaddehddalnliaaGreatDoorCCOwnT
import Derived.Test.YtaddehddalnliaaGreatDoorCCOwnV2
import Derived.Test.YtaddehddalnliaaGreatDoorCCOwnZ1
set_option linter.unusedVariables false
set_option linter.unusedSimpArgs false
namespace Go.Proofs.YtaddehddalnliaaGreatDoor
section
open Go.RowKit Go.Shelf
open Go.Lib (itoa)
set_option maxRecDepth 100000
noncomputable def z6q:za:=spD (fun _:Tx=>True) fun t=>z0j t
theorem zwh (t:Tx):z6q (eTx t)=some [.s (z0j t).1,I (z0j t).2]:=ze (f:=fun t:Tx=>z0j t) t trivial
theorem z0hn (t:Tx):I64 (z0j t).2:=by
 unfold z0j
 split
 ·exact (z0ha t).i64
 ·show I64 0
  exact ⟨by decide,by decide⟩
theorem z0lh:Meets Tryz.prog z6q 71 ⟨[.agg 3],[(false,[.scal]),(false,[.scal])],true⟩ :=
 z9c rfl (z1x (fn:=Tryz.f71) (by kernel_rfl) (by kernel_rfl) (by kernel_rfl)) fun t _ W F us hF h=>by
  obtain ⟨cs,rfl,hr⟩:=zde h;have hS:Sep W F [rep t cs shTx] W:=(Sep.start W F hF.1).addRep (S:=shTx) (shTx.more (fun b hb=>⟨.inl hb,by simp⟩) (she_tx.of hr));refine (zus t cs hS At.z hF.2).mono ?_;rintro e w' ⟨rfl,hS'⟩;exact ⟨_,rfl,hS'.below,zrw rfl rfl (.s _ (by have:=zpb t;omega)) (.i _ _ (wrap_i64 (z0hn t)))⟩
theorem Yl.base {P:Program} {w0:World} {F0:Nat→Prop} {Γ:List Res} {o:Oper} {a:Act} {t:TypeId} {x:Operand} {g j:Nat} {v:Value} (ho:o.op = .load t x) (hx:a.eval x = .pointer (some ⟨g,j,none⟩)) (h1:OneT P t) (hg:g<w0.heap.size) (hc:w0.cell? ⟨g,j,none⟩=some v):Yl P w0 F0 Γ o a v :=
 Yl.load ho hx fun W hS=>h1.load ((hS.below.cell (p:=⟨g,j,none⟩) hg).trans hc)
set_option maxHeartbeats 4000000 in
theorem z0ho (t:Block) (cs:List Value) {w0 W:World} {F0:Nat→Prop} {Γ:List Res} (hS:Sep w0 F0 Γ W) (ht:At Γ (rep t cs shBlock)) (hG:Glob w0) :
  Calls Tryz.prog 70 #[.agg cs.toArray] W (RV w0 F0 Γ (.tuple #[.string ⟨(z0v t).1.toArray⟩,.int .i64 (z0v t).2])):=by
 (have hO:=hS.open_block ht;clear hS;obtain ⟨A,n,c,rfl,i1,i2,i3,i4,hS⟩:=hO)
 obtain ⟨hl1,hn1,hc1⟩:=hS.len (xs:=t.txs) (by repeat (with_reducible exact At.z))
 have HP:=Lib.hid (show z0v t=if zb t≠0 then ([],zb t) else (z1e t,0) from rfl)
 generalize z0v t=R at *
 have L1:=Lib.hid hl1
 clear hl1
 go_enter Tryz.func70,Tryz.ntmps70
 (go_wp2_with ((refine Sep.wbox hS (by rfl) rfl rfl ?_;clear hS;intro gt W hS;refine Stop.go ?_));refine Stop.mk ?_)
 go_wp2_with (((refine Sep.wloadNb hS (by rfl) rfl rfl (by repeat (with_reducible exact At.z)) (za5 rfl) ?_)))
 refine (hS.old (zft t [_,_,_,_,_] _ _ (hS.ltsRep (At.s (At.s ht))) (fun b hb=>hb))).mono ?_;clear hS;rintro e W ⟨rfl,hS⟩
 rcases Classical.em (zb t=0) with h0|h0
 ·rw [h0]
  have HR:Hid (R=(z1e t,0)):=Lib.hid (by rw [HP.out,if_neg (fun h=>h h0)])
  have H0:=Lib.hid h0
  have hlen:n≤4:=by have:=(z1p h0).len;have:=L1.out;omega
  clear h0 HP
  have b0:=hS.boxCell (g:=gt) At.z 0 _ rfl
  have b1:=hS.boxCell (g:=gt) At.z 1 _ rfl
  have b2:=hS.boxCell (g:=gt) At.z 2 _ rfl
  have b3:=hS.boxCell (g:=gt) At.z 3 _ rfl
  have b4:=hS.boxCell (g:=gt) At.z 4 _ rfl
  have gl:gt<W.heap.size:=(zY15.1 (hS.getBox (g:=gt) At.z).2).1
  have hΔ:FactsW W (Lt W.heap.size) [rds t.txs A n c shTx]:=.rds (hS.ltsRds (by repeat (first|with_reducible exact At.z|apply At.s))) .nil
  have hG1:Glob W:=hG.on hS.below
  obtain ⟨bp,bh,bw,bn,txs⟩:=t
  simp only at *
  rename World=>Wb
  have hSo:=hS
  clear hS
  (go_wp2_with (first|(refine wsb (by rfl) rfl z_sb hΔ ?_;intro W1 hS;refine Stop.go ?_));refine Stop.mk ?_)
  have l1:=z6o bp i1
  have l2:=z6o bh i2
  have l3:=z6o bw i3
  have l4:=z6o bn i4
  go_wp2_with fail
  (refine Sep.regionT hS [20] (by kernel_rfl) ?_;clear hS;intro W hS)
  (refine z2g 0 rfl rfl (by ((apply Yl.pure;intro W;go_simp;with_reducible rfl))) (hS.sub (by repeat (with_reducible exact Sub.refl))) (by kernel_rfl) (fun _ _ _ h=>h) ?_;simp only [Act.put,zY08,zY0n,zY0o])
  (refine z2g 1 rfl rfl (Yl.base rfl rfl (zg2 rfl) gl b0) (hS.sub (by repeat (with_reducible exact Sub.refl))) (by kernel_rfl) (fun _ _ _ h=>h) ?_;simp only [Act.put,zY08,zY0n,zY0o])
  (refine z2g 5 rfl rfl (by ((apply Yl.pure;intro W;go_simp;with_reducible rfl))) (hS.sub (by repeat (with_reducible exact Sub.refl))) (by kernel_rfl) (fun _ _ _ h=>h) ?_;simp only [Act.put,zY08,zY0n,zY0o])
  (refine z2g 6 rfl rfl (Yl.base rfl rfl (zg2 rfl) gl b1) (hS.sub (by repeat (with_reducible exact Sub.refl))) (by kernel_rfl) (fun _ _ _ h=>h) ?_;simp only [Act.put,zY08,zY0n,zY0o])
  (refine z2g 10 rfl rfl (by ((apply Yl.pure;intro W;go_simp;with_reducible rfl))) (hS.sub (by repeat (with_reducible exact Sub.refl))) (by kernel_rfl) (fun _ _ _ h=>h) ?_;simp only [Act.put,zY08,zY0n,zY0o])
  (refine z2g 11 rfl rfl (Yl.base rfl rfl (zg2 rfl) gl b2) (hS.sub (by repeat (with_reducible exact Sub.refl))) (by kernel_rfl) (fun _ _ _ h=>h) ?_;simp only [Act.put,zY08,zY0n,zY0o])
  (refine z2g 15 rfl rfl (by ((apply Yl.pure;intro W;go_simp;with_reducible rfl))) (hS.sub (by repeat (with_reducible exact Sub.refl))) (by kernel_rfl) (fun _ _ _ h=>h) ?_;simp only [Act.put,zY08,zY0n,zY0o])
  (refine z2g 16 rfl rfl (Yl.base rfl rfl (zg2 rfl) gl b3) (hS.sub (by repeat (with_reducible exact Sub.refl))) (by kernel_rfl) (fun _ _ _ h=>h) ?_;simp only [Act.put,zY08,zY0n,zY0o])
  refine zj4 2 (by kernel_rfl) rfl ?_
  go_wp2_with fail
  refine (hS.old (zbr bp i1 (hG1.on hS.below))).mono ?_;clear hS;rintro e W ⟨rfl,hS⟩
  go_wp2_with fail
  (refine ⟨fun _=>hS.sub (by repeat (with_reducible exact Sub.refl)),?_⟩;try simp only [Act.put,zY08,zY0n,zY0o])
  (refine z2g 3 rfl rfl (Yl.cat rfl rfl rfl (by simp only [zY04,zY0a,zY0q];omega)) (hS.sub (by repeat (with_reducible exact Sub.refl))) (by kernel_rfl) (fun _ _ _ h=>h) ?_;simp only [Act.put,zY08,zY0n,zY0o])
  (refine z2g 4 rfl rfl (Yl.cat rfl rfl rfl (by simp only [zY04,zY0a,zY0q];omega)) (hS.sub (by repeat (with_reducible exact Sub.refl))) (by kernel_rfl) (fun _ _ _ h=>h) ?_;simp only [Act.put,zY08,zY0n,zY0o])
  refine zj4 7 (by kernel_rfl) rfl ?_
  go_wp2_with fail
  refine (hS.old (zbr bh i2 (hG1.on hS.below))).mono ?_;clear hS;rintro e W ⟨rfl,hS⟩
  go_wp2_with fail
  (refine ⟨fun _=>hS.sub (by repeat (with_reducible exact Sub.refl)),?_⟩;try simp only [Act.put,zY08,zY0n,zY0o])
  (refine z2g 8 rfl rfl (Yl.cat rfl rfl rfl (by simp only [zY04,zY0a,zY0q];omega)) (hS.sub (by repeat (with_reducible exact Sub.refl))) (by kernel_rfl) (fun _ _ _ h=>h) ?_;simp only [Act.put,zY08,zY0n,zY0o])
  (refine z2g 9 rfl rfl (Yl.cat rfl rfl rfl (by simp only [zY04,zY0a,zY0q];omega)) (hS.sub (by repeat (with_reducible exact Sub.refl))) (by kernel_rfl) (fun _ _ _ h=>h) ?_;simp only [Act.put,zY08,zY0n,zY0o])
  refine zj4 12 (by kernel_rfl) rfl ?_
  go_wp2_with fail
  refine (hS.old (zbr bw i3 (hG1.on hS.below))).mono ?_;clear hS;rintro e W ⟨rfl,hS⟩
  go_wp2_with fail
  (refine ⟨fun _=>hS.sub (by repeat (with_reducible exact Sub.refl)),?_⟩;try simp only [Act.put,zY08,zY0n,zY0o])
  (refine z2g 13 rfl rfl (Yl.cat rfl rfl rfl (by simp only [zY04,zY0a,zY0q];omega)) (hS.sub (by repeat (with_reducible exact Sub.refl))) (by kernel_rfl) (fun _ _ _ h=>h) ?_;simp only [Act.put,zY08,zY0n,zY0o])
  (refine z2g 14 rfl rfl (Yl.cat rfl rfl rfl (by simp only [zY04,zY0a,zY0q];omega)) (hS.sub (by repeat (with_reducible exact Sub.refl))) (by kernel_rfl) (fun _ _ _ h=>h) ?_;simp only [Act.put,zY08,zY0n,zY0o])
  refine zj4 17 (by kernel_rfl) rfl ?_
  go_wp2_with fail
  refine (hS.old (zbr bn i4 (hG1.on hS.below))).mono ?_;clear hS;rintro e W ⟨rfl,hS⟩
  go_wp2_with fail
  (refine ⟨fun _=>hS.sub (by repeat (with_reducible exact Sub.refl)),?_⟩;try simp only [Act.put,zY08,zY0n,zY0o])
  (refine z2g 18 rfl rfl (Yl.cat rfl rfl rfl (by simp only [zY04,zY0a,zY0q];omega)) (hS.sub (by repeat (with_reducible exact Sub.refl))) (by kernel_rfl) (fun _ _ _ h=>h) ?_;simp only [Act.put,zY08,zY0n,zY0o])
  (refine z2g 19 rfl rfl (Yl.cat rfl rfl rfl (by simp only [zY04,zY0a,zY0q];omega)) (hS.sub (by repeat (with_reducible exact Sub.refl))) (by kernel_rfl) (fun _ _ _ h=>h) ?_;simp only [Act.put,zY08,zY0n,zY0o])
  refine zj4 20 (by kernel_rfl) rfl ?_
  go_wp2_with fail
  refine (hS.write (l:=[]) (by repeat (with_reducible exact At.z)) hΔ _ (by simp [ByteArray.size];omega)).mono ?_
  clear hS
  rintro e W2 ⟨⟨v,rfl⟩,hS⟩
  go_wp2_with fail
  (refine ⟨fun h=>z0g0 (by kernel_rfl) h,?_⟩;try simp only [Act.put,zY08,zY0n,zY0o])
  refine zkz (by kernel_rfl) ?_
  have e0:[]++98::108::111::99::107::32::(itoa bp++32::(itoa bh++32::(itoa bw++32::(itoa bn++[10]))))=z54 ⟨bp,bh,bw,bn,txs⟩:=by simp [z54]
  have lh:(z54 ⟨bp,bh,bw,bn,txs⟩).length≤100:=by simp [z54];omega
  have d4:=(hS.below.cell (p:=⟨gt,4,none⟩) gl).trans b4
  go_wp2_with fail
  clear d4
  rw [e0] at hS
  clear e0
  go_loopw [7,8,9,39] (fun _ _ _ i wr=>∃ k:Nat,k≤n∧i = .int .i64 k∧∃ l:List UInt8,l.length≤100+2500 * k∧Hid (l=z54 ⟨bp,bh,bw,bn,txs⟩++(txs.take k).flatMap fun t=>(z0j t).1)∧Sep Wb (Lt Wb.heap.size) (sb Wb.heap.size l::rds txs A n c shTx::[]) wr) (fun _ _ _ i _=>n - (intOf i).toNat)
  case atStart=>exact ⟨0,by omega,rfl,z54 ⟨bp,bh,bw,bn,txs⟩,by omega,Lib.hid (by simp),hS.sub (by repeat (with_reducible exact Sub.refl))⟩
  case round =>
   clear hS
   obtain ⟨k,hk,rfl,l,hl,HL,hS⟩:=hrel
   rcases Classical.em (k<n) with hlt|hlt
   ·(have hO:=hS.elemTxR (xs:=txs) (by repeat (first|with_reducible exact At.z|apply At.s)) hlt;clear hS;obtain ⟨b,off,x,A1,n1,c1,A2,n2,c2,rfl,hx,hS⟩:=hO)
    have HX:=Lib.hid hx
    have k1:(0:Int)≤(k:Int):=by omega
    have k2:(k:Int)<(n:Int):=by omega
    clear hx
    (go_wp2_with (first|(refine Sep.wloadNz hS (by rfl) rfl rfl (by repeat (first|with_reducible exact At.z|apply At.s)) (za5 rfl) ?_)|(refine Sep.walloc hS (by rfl) rfl (by first|exact z_op|exact z_tx) ?_;clear hS;intro g W hS)|(refine Sep.wstoreNb hS (by rfl) rfl rfl rfl (za5 rfl) (by simp [zlz,Value.oneCell']) (by repeat (first|with_reducible exact At.z|apply At.s)) (by rfl) (by repeat (first|with_reducible exact Put.z|apply Put.s)) ?_;clear hS;intro W hS;refine Stop.go ?_));refine Stop.mk ?_)
    go_wp2_with (((refine Sep.wloadNb hS (by rfl) rfl rfl (by repeat (with_reducible exact At.z)) (za5 rfl) ?_)))
    refine (zus x [_,_,_] hS (by repeat (first|with_reducible exact At.z|apply At.s)) hG1).mono ?_;clear hS;rintro e W ⟨rfl,hS⟩
    have lp:=zpb x
    go_wp2_with fail
    refine (hS.write (l:=l) (by repeat (first|with_reducible exact At.z|apply At.s)) hΔ _ (by simp [ByteArray.size];omega)).mono ?_
    clear hS
    rintro e W2 ⟨⟨v,rfl⟩,hS⟩
    go_wp2_with fail
    go_roundw
    case measure=>simp [intOf];omega
    case rel=>exact ⟨k+1,by omega,by go_num,l++(z0j x).1,by simp;omega,Lib.hid (by rw [z3h HX.out,HL.out];simp),hS.sub (by repeat (with_reducible exact Sub.refl))⟩
   ·obtain rfl:k=n:=by omega
    go_wp2_with fail
    refine (hS.text (by repeat (with_reducible exact At.z))).mono ?_
    clear hS
    rintro e W3 ⟨rfl,hB⟩
    have hS:=hSo.belows hB
    go_wp2_with fail
    have em:l=z1e ⟨bp,bh,bw,bn,txs⟩:=by
     rw [HL.out,zY0t (by have:=L1.out;omega)]
     unfold z1e
     congr 1
     have key:∀ t ∈ txs,(z0j t).1=z0m t:=fun t ht=>by rw [zpc ((z1p H0.out).each t ht)]
     simp only [List.flatMap_def]
     rw [List.map_congr_left key]
    rw [em]
    refine bodyPost_ret (zgz rfl (by exact Got.tmp rfl) (by exact Got.tmp rfl)) rfl ?_
    exact ⟨by rw [HR.out];rfl,hS.sub (by repeat (first|with_reducible exact Sub.refl|apply Sub.skip))⟩
 ·have q:((zb t) != 0)=true:=by simp [h0]
  have HR:Hid (R=([],zb t)):=Lib.hid (by rw [HP.out,if_pos h0])
  clear h0 HP
  go_wp2_with fail
  refine bodyPost_ret (zgz rfl (by exact Got.tmp rfl) (by exact Got.tmp rfl)) rfl ?_
  exact ⟨by rw [HR.out];rfl,hS.sub (by repeat (first|with_reducible exact Sub.refl|apply Sub.skip))⟩
noncomputable def z65:za:=spD (fun _:Block=>True) fun t=>z0v t
theorem zs4 (t:Block):z65 (z09 t)=some [.s (z0v t).1,I (z0v t).2]:=ze (f:=fun t:Block=>z0v t) t trivial
theorem z0d0 (t:Block):I64 (z0v t).2:=by
 unfold z0v
 split
 ·exact (z0l1 t).i64
 ·show I64 0
  exact ⟨by decide,by decide⟩
theorem z0hp:Meets Tryz.prog z65 70 ⟨[.agg 5],[(false,[.scal]),(false,[.scal])],true⟩ :=
 z9c rfl (z1x (fn:=Tryz.f70) (by kernel_rfl) (by kernel_rfl) (by kernel_rfl)) fun t _ W F us hF h=>by
  obtain ⟨cs,rfl,hr⟩:=zde h;have hS:Sep W F [rep t cs shBlock] W:=(Sep.start W F hF.1).addRep (S:=shBlock) (shBlock.more (fun b hb=>⟨.inl hb,by simp⟩) (she_block.of hr));refine (z0ho t cs hS At.z hF.2).mono ?_;rintro e w' ⟨rfl,hS'⟩;exact ⟨_,rfl,hS'.below,zrw rfl rfl (.s _ (by have:=z0ce t;omega)) (.i _ _ (wrap_i64 (z0d0 t)))⟩
end
section
open Go.RowKit
open Go.Lib (itoa atoiAll atoiSat)
set_option maxRecDepth 100000
set_option maxHeartbeats 4000000
section
variable {sp:Nat→za} {N:Nat} {E E':Env} {ks:List (List Dt→Option (List Dt))} {res:Option (List Dt)}
end
def z05n (acc:List Op) (ws:List (List UInt8)):List Op × Int:=match zro ws with
 | none=>([],1)
 | some l=>if z9 (acc++l)≠0 then ([],z9 (acc++l)) else (acc++l,0)
attribute [local irreducible] den denX z0g z0o
attribute [local irreducible] z01 spD z1h itoa z9 z22 z49 z42 z05n zdi z7b z02h zit ziu
end
section
open Go.RowKit
noncomputable def z0li:za:=spD (fun _:List Int × List Int=>True) fun x=>decide (x.1=x.2)
noncomputable def z6k:za:=spD (fun _:List (List UInt8) × List UInt8=>True) fun x=>idx x.1 x.2
theorem zj6 (a:List (List UInt8)) (b:List UInt8):z6k [.l 1 (a.map z0c),.s b]=some [I (idx a b)]:=ze (f:=fun x:List (List UInt8) × List UInt8=>idx x.1 x.2) (a,b) trivial
theorem z05o:Meets Tryz.prog z6k 66 ⟨[.one,.one],[(false,[.scal])],true⟩ :=
 za0 rfl (z1x (fn:=Tryz.f66) (by kernel_rfl) (by kernel_rfl) (by kernel_rfl)) fun ⟨a,b⟩ _ W F us hF h=>by
  obtain ⟨v,us,rfl,h1,h⟩:=z1a h;obtain ⟨v2,us,rfl,h2,h⟩:=z1a h;obtain rfl:=z1s h;obtain ⟨A,n,c,rfl,k1⟩:=z2r zcz h1;obtain ⟨rfl,k2⟩:=zfu h2;have hl:a.length≤9223372036854775807:=by have h1:=k1.1;have h2:=k1.2.1;have h3:=k1.2.2.1;simp only at h1 h2 h3;omega
  have hb:=zfr a b;exact ⟨⟨by simp only;omega,by simp only at hb ⊢;omega⟩,(z0kv a b A n c W F k1).mono fun e w' h=>⟨h.1,h.2 ▸ Below.refl _ _⟩⟩
end
section
open Go.RowKit
open Go.Lib (itoa)
set_option maxRecDepth 100000
set_option maxHeartbeats 4000000
end
section
open Go.Lib (itoa)
open Go.RowKit
def tBlk:List UInt8:=[98,108,111,99,107]
def z0vj:List UInt8:=[10,116,120,32]
def z05p (s:List UInt8):Int:=Go.Lib.index (s.drop 1) z0vj
def z0hq (s:List UInt8):List UInt8:=if 0≤z05p s then s.take (z05p s+2).toNat else s
def z0lj:Nat→List UInt8→List (List UInt8)
 | 0,_=>[]
 | f+1,s=>if s=[] then [] else z0hq s::z0lj f (s.drop (z0hq s).length)
structure PlainL (l:List UInt8):Prop where
 ne:∀ b ∈ l,b≠10
 no:∀ s,List.isPrefixOf tTx (l++s)=false
end
section
open Go.Lib (itoa)
open Go.RowKit
set_option maxRecDepth 100000
def z05q:List UInt8→List (List UInt8)
 | []=>[[]]
 | b::l=>if b=10 then [10]::z05q l else match z05q l with
  | []=>[[b]]
  | x::xs=>(b::x)::xs
end
section
open Go.RowKit
set_option maxRecDepth 100000
set_option maxHeartbeats 4000000
attribute [local irreducible] z01 spD z1h
def z0hr:T :=
 .W [.call 10 [9] 0] [] (.W [] [.inr 6 4 3] (.W [.set 4 3 3 [12]] [] (.W [.B .add 3 (zI 1)] [] (.again 0 [14,13]))))
def z0hs:T :=
 .W [] [.inr 6 4 3] (.W [.idx 4 3 0,.idx 4 3 1,.idx 4 3 2,.idx 4 3 3,.idx 4 3 4,.idx 4 3 5] []
 z0hr)
def zm9:T :=
 .W [.call 9 [0] 0] [] (.W [.len 1] [] (.loop [zI 0,1] (.W [.B .lss 3 2] [] (.ite 5 z0hs (.ret [4])))))
def z0lk:T :=
 .W [.idx 3 6 0,.idx 3 6 1,.idx 3 6 2,.idx 3 6 3,.idx 3 6 4,.idx 3 6 5] [] (.W [.B .add 5 10] []
 (.W [.B .add 6 (zI 1)] [] (.again 0 [14,15])))
def z0ll:T :=
 .W [.idx 2 10 0,.idx 2 10 1] [] (.W [.B .sub 9 12] [] (.W [.B .add 10 (zI 1)] [] (.again 1 [14,15])))
def z0lm:T :=
 .W [.len 2] [] (.loop [5,zI 0] (.W [.B .lss 10 8] [] (.ite 11 (.W [] [.inr 2 2 10] z0ll) (.ret [9]))))
def zs5:T :=
 .W [.len 3] [] (.loop [zI 0,zI 0] (.W [.B .lss 6 4] [] (.ite 7 (.W [] [.inr 6 3 6] z0lk) z0lm)))
def z5r (l:List Coin):Prop:=l.length≤1000000∧∀ c ∈ l,c.o.lock.length≤8796093022208
theorem CoinsOK.short {l:List Coin} (h:CoinsOK l):z5r l:=⟨by have:=h.len;omega,fun c hc=>by have:=z9z (z3v (h.good c hc)).2.2.2.2.2.2.2.2;omega⟩
noncomputable def zbs:za:=spD z5r fun l=>l
theorem z05r (l:List Coin) (h:z5r l):zbs [.l 6 (l.map zh)]=some [.l 6 (l.map zh)]:=ze (p:=z5r) (f:=fun l:List Coin=>l) l h
theorem z0ow:Meets Tryz.prog zbs 45 ⟨[.one],[(false,[.fresh 101 6])],false⟩:=by
 refine zf (sp:=(zy [(9,z6j),(10,z6c)])) (sigs:=z05) (cut:=[]) (hints:=[⟨3,[.t 9,.o 6]⟩]) (fn:=Tryz.f45) (t:=zm9) (by kernel_rfl) (by kernel_rfl) (by kernel_rfl) ?_ ?_
 ·exact (zr (L:=[(9,z6j),(10,z6c)]) ⟨z7 rfl z02t,z7 rfl z02s,trivial⟩)
 ·rintro ds rs - h
  obtain ⟨l,⟨hl,hk⟩,rfl,rfl⟩:=zg h;clear h;refine ⟨⟨l.length+1,?_⟩,z0bv (by simp [zu,CF.isScal])⟩
  show den _ _ zm9 [.l 6 (l.map zh)] []=ret l
  unfold zm9
  repeat' (first|refine dq1 ?_|refine dqk rfl (z9y _ hl) ?_|fail)
  (refine zn (fun (_:Unit) k=>[I k,.l 6 (l.map zh)]) (fun _ _ _=>l) (fun _ _=>True) () l ?_ ?_ ?_ ?_ ?_;rfl;exact trivial;exact zY29 _)
  ·rintro _ k c r hx hd hkl - again hag
   repeat' (first|refine dq1 ?_|refine dqc ?_|refine dqm ?_|refine dqk rfl (z9x _ (hk c (zY07 hx))) ?_|refine dqT ?_|fail)
   refine z4 (z9v rfl rfl rfl (by omega) (by simp) (by exact hx) rfl) ?_
   repeat' (first|refine dq1 ?_|exact z6 rfl rfl (hag () trivial)|fail)
  ·intro _ _ again
   repeat' (first|refine dq1 ?_|exact z5 rfl rfl|refine dqF ?_|fail)
theorem z0d1 (l:List Coin):∀ s:Int,l.foldl (fun s c=>s+c.o.coin) s=s+zi l:=by
 induction l with
 | nil=>intro s;simp [zi]
 | cons c l ih=>intro s;rw [List.foldl_cons,ih,zi];omega
def z0z (t:Tx) (l:List Coin):Int:=t.outs.foldl (fun s o=>s - o.coin) (l.foldl (fun s c=>s+c.o.coin) 0)
def z8i (x:Tx × List Coin):Prop:=x.2.length≤1000000∧(∀ c ∈ x.2,0≤c.o.coin∧c.o.coin≤1000000000)∧x.1.outs.length≤1000000∧∀ o ∈ x.1.outs,0≤o.coin∧o.coin≤1000000000
noncomputable def z7q:za:=spD z8i fun x=>z0z x.1 x.2
theorem zf7 (t:Tx) (l:List Coin) (h:z8i (t,l)):z7q [I t.height,.l 3 (t.ins.map eIn),.l 2 (t.outs.map z3b),.l 6 (l.map zh)]=some [I (z0z t l)]:=ze (p:=z8i) (f:=fun x:Tx × List Coin=>z0z x.1 x.2) (t,l) h
theorem z0g1:Meets Tryz.prog z7q 74 ⟨[.agg 3,.one],[(false,[.scal])],true⟩:=by
 refine zf (sp:=(zy [])) (sigs:=z05) (cut:=[]) (hints:=[⟨3,[.t 5,.t 12]⟩,⟨8,[.t 5,.t 25]⟩]) (fn:=Tryz.f74) (t:=zs5) (by kernel_rfl) (by kernel_rfl) (by kernel_rfl) ?_ ?_
 ·exact (zr (L:=[]) trivial)
 ·rintro ds rs - h
  obtain ⟨⟨t,l⟩,⟨h1,h2,h3,h4⟩,rfl,rfl⟩:=zg h;clear h;simp only at h1 h2 h3 h4;refine ⟨⟨l.length+t.outs.length+1,?_⟩,z04 rfl⟩
  show den _ _ zs5 [I t.height,.l 3 (t.ins.map eIn),.l 2 (t.outs.map z3b),.l 6 (l.map zh)] []=ret (z0z t l)
  unfold zs5 z0z
  repeat' (first|refine dq1 ?_|fail)
  (refine zn (fun (s:Int) k=>[I s,I k]) (fun (s:Int) _ (r:List Coin)=>t.outs.foldl (fun s o=>s - o.coin) (r.foldl (fun s c=>s+c.o.coin) s)) (fun s k=>0≤s∧s≤k * 1000000000) (0:Int) l ?_ ?_ ?_ ?_ ?_;rfl;exact ⟨by omega,by omega⟩;omega)
  ·rintro s k c r hx hd hkl ⟨h0,h5⟩ again hag
   have hc:=h2 c (zY07 hx)
   repeat' (first|refine dq1 ?_|refine dqc ?_|refine dqm ?_|refine dqT ?_|fail)
   exact z6 rfl rfl (hag (s+c.o.coin) ⟨by omega,by omega⟩)
  ·rintro s ⟨h0,h5⟩ again
   repeat' (first|refine dq1 ?_|refine dqF ?_|fail)
   (refine zn (fun (s:Int) k=>[I s,I k]) (fun (s:Int) _ (r:List Out)=>r.foldl (fun s o=>s - o.coin) s) (fun s k => - (k * 1000000000)≤s∧s≤l.length * 1000000000) s t.outs ?_ ?_ ?_ ?_ ?_;rfl;exact ⟨by omega,by omega⟩;omega)
   ·rintro s k c r hx hd hkl ⟨h0,h5⟩ again' hag
    have hc:=h4 c (zY07 hx)
    repeat' (first|refine dq1 ?_|refine dqc ?_|refine dqm ?_|refine dqT ?_|fail)
    exact z6 rfl rfl (hag (s - c.coin) ⟨by omega,by omega⟩)
   ·rintro s ⟨h0,h5⟩ again'
    repeat' (first|refine dq1 ?_|exact z5 rfl rfl|refine dqF ?_|fail)
def z6r:Coin:=⟨⟨0,0⟩,⟨0,[]⟩,0,false⟩
def z05s (l:List Coin) (p:Point):Coin × Int:=if zd l≠0 then (z6r,zd l) else if z1n l p=true then ((l[zq l p]?).getD z6r,0) else (z6r,7)
end
section
open Go.RowKit
set_option maxRecDepth 100000
set_option maxHeartbeats 4000000
theorem z0d2 (l m:List Op):zaw [.l 2 (l.map eOp),.l 2 (m.map eOp)]=some [.b (decide (l=m))]:=ze (f:=fun x:List Op × List Op=>decide (x.1=x.2)) (l,m) trivial
theorem z0s2:Meets Tryz.prog zaw 57 ⟨[.one,.one],[(false,[.scal])],true⟩ :=
 zba (e:=fun x:{ x:List Op × List Op // True }=>Enc.e x.1) (d:=fun x=>.b (decide (x.1.1=x.1.2))) rfl (z1x (fn:=Tryz.f57) (by kernel_rfl) (by kernel_rfl) (by kernel_rfl)) (fun _=>rfl) fun x W F us hF h=>by
  obtain ⟨v,us,rfl,h1,h⟩:=z1a h;obtain ⟨v2,us,rfl,h2,h⟩:=z1a h;obtain rfl:=z1s h;obtain ⟨A,n,c,rfl,k1⟩:=z2r z9q h1;obtain ⟨A2,n2,c2,rfl,k2⟩:=z2r z9q h2;refine (z0of x.1.1 x.1.2 A A2 n c n2 c2 W F F k1 k2).mono ?_;rintro r W' ⟨rfl,m,rfl⟩;exact ⟨_,rfl,zf0 (Below.refl _ _) m,.b _⟩
attribute [local irreducible] z01 spD z1h
theorem ok_l {α:Type} {sz:Nat} {l:List α} {f:α→List Dt} (h:Dt.ok (.l sz (l.map f))):l.length≤9223372036854775807:=by
 cases h with
 | l _ _ h1 _ _=>simpa using h1
theorem z0uk (x y:Out):(decide (x.coin=y.coin) && decide (x.lock=y.lock))=decide (x=y):=by
 cases x;cases y
 simp only [Out.mk.injEq,Bool.decide_and]
noncomputable def z05u:za:=spD (fun _:Out × Out=>True) fun x=>decide (x.1=x.2)
noncomputable def z75:za:=spD (fun _:Out × Out=>True) fun x=>decide (x.1=x.2)
theorem zs6 (x y:Out):z75 [I x.coin,.l 2 (x.lock.map eOp),I y.coin,.l 2 (y.lock.map eOp)]=some [.b (decide (x=y))]:=ze (f:=fun x:Out × Out=>decide (x.1=x.2)) (x,y) trivial
def zh0:T :=
 .W [.B .eql 0 2] [] (.ite 4 (.W [.call 19 [1,3] 0] [] (.ret [5])) (.ret [.c (.b false)]))
def zpm:T :=
 .ite 13 (.W [.B .eql 4 10] [] (.ite 14 (.W [.beq false 5 11] [] (.ret [15])) (.ret [.c (.b false)]))) (.ret [.c (.b false)])
def zc1:T :=
 .W [.eqs false [(.v 0,.v 6),(.v 1,.v 7)]] [] (.ite 12 (.W [.call 22 [2,3,8,9] 0] [] zpm) (.ret [.c (.b false)]))
def z0d3:T :=
 .W [.call 27 [9,10,11,12,13,14,15,16,17,18,19,20] 0] [] (.W [.not 21] [] (.ite 22 (.ret [.c (.b false)]) (.W [.B
 .add 7 (zI 1)] [] (.again 0 [6,23]))))
def z0d4:T :=
 .W [] [.inr 6 1 7] (.W [.idx 1 7 0,.idx 1 7 1,.idx 1 7 2,.idx 1 7 3,.idx 1 7 4,.idx 1 7 5] []
 z0d3)
def z0d5:T :=
 .W [] [.inr 6 0 7] (.W [.idx 0 7 0,.idx 0 7 1,.idx 0 7 2,.idx 0 7 3,.idx 0 7 4,.idx 0 7 5] []
 z0d4)
def z0d6:T :=
 .ite 4 (.ret [.c (.b false)]) (.W [.len 0] [] (.loop [.c (.b false),zI 0] (.W [.B .lss 7 5] [] (.ite 8 z0d5 (.ret [.c (.b
 true)])))))
def zj7:T :=
 .W [.len 0] [] (.W [.len 1] [] (.W [.B .neq 2 3] [] z0d6))
def zdl:T :=
 .W [.call 21 [0,1] 0] [] (.ret [2])
def zj8:T :=
 .W [.B .lss 0 2] [] (.ite 4 (.ret [.c (.b true)]) (.W [.B .eql 0 2] [] (.ite 5 (.W [.B .lss 1 3] [] (.ret [6])) (.ret [.c
 (.b false)]))))
theorem z0ht:Meets Tryz.prog z75 59 ⟨[.agg 2,.agg 2],[(false,[.scal])],true⟩:=by
 refine zf (sp:=(zy [(19,zaw)])) (sigs:=z05) (cut:=[]) (hints:=[]) (fn:=Tryz.f59) (t:=zh0) (by kernel_rfl) (by kernel_rfl) (by kernel_rfl) ?_ ?_
 ·exact (zr (L:=[(19,zaw)]) ⟨z7 rfl z0s2,trivial⟩)
 ·rintro ds rs - h
  obtain ⟨⟨x,y⟩,-,rfl,rfl⟩:=zg h;clear h;refine ⟨⟨1,?_⟩,z04 rfl⟩
  show den _ _ zh0 [I x.coin,.l 2 (x.lock.map eOp),I y.coin,.l 2 (y.lock.map eOp)] []=ret (decide (x=y))
  rw [← z0uk];unfold zh0
  repeat' (first|refine dq1 ?_|refine dqk rfl (z0d2 _ _) ?_|exact z5 rfl rfl|refine tU (fun h=>?_) fun h=>?_|fail)
theorem z0s3 (x y:Coin):(decide (x.p=y.p) && (decide (x.o=y.o) && (decide (x.height=y.height) && decide (x.reward=y.reward))))=decide (x=y):=by
 cases x;cases y
 simp only [Coin.mk.injEq,Bool.decide_and]
noncomputable def z84:za:=spD (fun _:Coin × Coin=>True) fun x=>decide (x.1=x.2)
theorem zkp (x y:Coin):z84 (zh x++zh y)=some [.b (decide (x=y))]:=ze (f:=fun x:Coin × Coin=>decide (x.1=x.2)) (x,y) trivial
theorem zwi:Meets Tryz.prog z84 61 ⟨[.agg 6,.agg 6],[(false,[.scal])],true⟩:=by
 refine zf (sp:=(zy [(22,z75)])) (sigs:=z05) (cut:=[]) (hints:=[]) (fn:=Tryz.f61) (t:=zc1) (by kernel_rfl) (by kernel_rfl) (by kernel_rfl) ?_ ?_
 ·exact (zr (L:=[(22,z75)]) ⟨z7 rfl z0ht,trivial⟩)
 ·rintro ds rs - h
  obtain ⟨⟨x,y⟩,-,rfl,rfl⟩:=zg h;clear h;refine ⟨⟨1,?_⟩,z04 rfl⟩
  show den _ _ zc1 [I x.p.tx,I x.p.at_,I x.o.coin,.l 2 (x.o.lock.map eOp),I x.height,.b x.reward,I y.p.tx,I y.p.at_,I y.o.coin,.l 2 (y.o.lock.map eOp),I y.height,.b y.reward] []=ret (decide (x=y))
  rw [← z0s3];unfold zc1
  repeat' (first|refine dq1 ?_|refine dqc ?_|refine dqm ?_|refine dqK rfl (zs6 x.o y.o) ?_|exact z5 rfl rfl|((first|refine tR ?_ ?_|refine tB ?_ ?_|refine tC ?_ ?_|refine tN ?_ ?_|refine tF ?_ ?_|refine tG ?_ ?_|refine tP ?_ ?_|refine tQ ?_ ?_|refine tA ?_ ?_|refine tO ?_ ?_|refine tU ?_ ?_|refine tV ?_ ?_) <;> intro h)|refine dqT ?_|refine dqF ?_|refine z0a rfl ?_|refine z0l rfl ?_|refine zau ?_|refine z64 ?_)
noncomputable def zcm:za:=spD (fun _:List Coin × List Coin=>True) fun x=>decide (x.1=x.2)
noncomputable def z5k:za:=spD (fun _:List Coin × List Coin=>True) fun x=>decide (x.1=x.2)
theorem zwj (l m:List Coin):zcm [.l 6 (l.map zh),.l 6 (m.map zh)]=some [.b (decide (l=m))]:=ze (f:=fun x:List Coin × List Coin=>decide (x.1=x.2)) (l,m) trivial
theorem z8y (l m:List Coin):z5k [.l 6 (l.map zh),.l 6 (m.map zh)]=some [.b (decide (l=m))]:=ze (f:=fun x:List Coin × List Coin=>decide (x.1=x.2)) (l,m) trivial
theorem z0ln {α:Type} [DecidableEq α] (l m:List α):decide (l=m)=if (l.length:Int)≠m.length then false else decide (l=m):=by
 by_cases h:(l.length:Int)≠m.length
 ·rw [if_pos h,decide_eq_false]
  rintro rfl;exact h rfl
 ·rw [if_neg h]
theorem z0lo:Meets Tryz.prog zcm 60 ⟨[.one,.one,.clos 61 []],[(false,[.scal])],true⟩:=by
 refine zf (sp:=(zy [(27,z84)])) (sigs:=z05) (cut:=[]) (hints:=[⟨4,[.t 6,.t 17]⟩]) (fn:=Tryz.f60) (t:=zj7) (by kernel_rfl) (by kernel_rfl) (by kernel_rfl) ?_ ?_
 ·exact (zr (L:=[(27,z84)]) ⟨z7 rfl zwi,trivial⟩)
 ·rintro ds rs hok h
  obtain ⟨⟨l,m⟩,-,rfl,rfl⟩:=zg h;clear h;have hll:=ok_l (hok (.l 6 (l.map zh)) (zY0j ..));refine ⟨⟨l.length+1,?_⟩,z04 rfl⟩
  show den _ _ zj7 [.l 6 (l.map zh),.l 6 (m.map zh)] []=ret (decide (l=m))
  rw [z0ln];unfold zj7
  repeat' (first|refine dq1 ?_|refine dqc ?_|refine dqm ?_|exact z5 rfl rfl|((first|refine tR ?_ ?_|refine tB ?_ ?_|refine tC ?_ ?_|refine tN ?_ ?_|refine tF ?_ ?_|refine tG ?_ ?_|refine tP ?_ ?_|refine tQ ?_ ?_|refine tA ?_ ?_|refine tO ?_ ?_|refine tU ?_ ?_|refine tV ?_ ?_) <;> intro h)|refine dqT ?_|refine dqF ?_|refine z0a rfl ?_|refine z0l rfl ?_|refine zau ?_|refine z64 ?_)
  have hlm:l.length=m.length:=by omega
  (refine zn (fun (_:Unit) k=>[.b false,I k]) (fun (_:Unit) k (r:List Coin)=>decide (r=m.drop k)) (fun _ _=>True) () l ?_ ?_ ?_ ?_ ?_;rfl;exact trivial;first|exact zY29 _|omega)
  ·rintro _ k x r hx hd hk - again hag
   have hy:m[k]? = some (m[k]'(by omega)):=zY03 (by omega);have hdy:m.drop k=m[k]'(by omega)::m.drop (k+1):=zY1y (by omega);rw [hdy];generalize m[k]'(by omega)=y at *;have e:decide (x::r=y::m.drop (k+1))=if decide (x=y)=true then decide (r=m.drop (k+1)) else false:=by
    by_cases h:x=y
    ·simp [h]
    ·simp [h]
   rw [e];have hkm:k<m.length:=by omega
   repeat' (first|refine dq1 ?_|refine dqc ?_|refine dqm ?_|refine dqK rfl (zkp x y) ?_|exact z5 rfl rfl|exact z6 rfl rfl (hag () trivial)|exact z6 rfl rfl (hag _ trivial)|exact z6 rfl rfl (hag _ (by omega))|exact z6 rfl rfl (hag _ (by assumption))|((first|refine tR ?_ ?_|refine tB ?_ ?_|refine tC ?_ ?_|refine tN ?_ ?_|refine tF ?_ ?_|refine tG ?_ ?_|refine tP ?_ ?_|refine tQ ?_ ?_|refine tA ?_ ?_|refine tO ?_ ?_|refine tU ?_ ?_|refine tV ?_ ?_) <;> intro h)|refine dqT ?_|refine dqF ?_|refine z0a rfl ?_|refine z0l rfl ?_|refine zau ?_|refine z64 ?_)
  ·rintro _ - again
   rw [hlm,List.drop_length]
   repeat' (first|refine dq1 ?_|refine dqc ?_|refine dqm ?_|exact z5 rfl rfl|((first|refine tR ?_ ?_|refine tB ?_ ?_|refine tC ?_ ?_|refine tN ?_ ?_|refine tF ?_ ?_|refine tG ?_ ?_|refine tP ?_ ?_|refine tQ ?_ ?_|refine tA ?_ ?_|refine tO ?_ ?_|refine tU ?_ ?_|refine tV ?_ ?_) <;> intro h)|refine dqT ?_|refine dqF ?_|refine z0a rfl ?_|refine z0l rfl ?_|refine zau ?_|refine z64 ?_)
theorem z05v:Meets Tryz.prog z5k 16 ⟨[.one,.one],[(false,[.scal])],true⟩:=by
 refine zf (sp:=(zy [(21,zcm)])) (sigs:=z05) (cut:=[]) (hints:=[]) (fn:=Tryz.f16) (t:=zdl) (by kernel_rfl) (by kernel_rfl) (by kernel_rfl) ?_ ?_
 ·exact (zr (L:=[(21,zcm)]) ⟨z7 rfl z0lo,trivial⟩)
 ·rintro ds rs - h
  obtain ⟨⟨l,m⟩,-,rfl,rfl⟩:=zg h;clear h;refine ⟨⟨1,?_⟩,z04 rfl⟩
  show den _ _ zdl [.l 6 (l.map zh),.l 6 (m.map zh)] []=ret (decide (l=m))
  unfold zdl
  repeat' (first|refine dq1 ?_|refine dqc ?_|refine dqm ?_|refine dqK rfl (zwj l m) ?_|exact z5 rfl rfl|((first|refine tR ?_ ?_|refine tB ?_ ?_|refine tC ?_ ?_|refine tN ?_ ?_|refine tF ?_ ?_|refine tG ?_ ?_|refine tP ?_ ?_|refine tQ ?_ ?_|refine tA ?_ ?_|refine tO ?_ ?_|refine tU ?_ ?_|refine tV ?_ ?_) <;> intro h)|refine dqT ?_|refine dqF ?_|refine z0a rfl ?_|refine z0l rfl ?_|refine zau ?_|refine z64 ?_)
end
section
open Go.RowKit
open Go.Lib (itoa)
set_option maxRecDepth 100000
set_option maxHeartbeats 4000000
noncomputable def z0s4:za:=spD (fun _:List In × List In=>True) fun x=>decide (x.1=x.2)
noncomputable def z0lp:za:=spD (fun _:Tx × Tx=>True) fun x=>decide (x.1=x.2)
attribute [local irreducible] z01 spD z1h z9 zm
attribute [local irreducible] den denX z0g z0o
attribute [local irreducible] zaw
attribute [local irreducible] z05u
attribute [local irreducible] z0s4
end
section
open Go.RowKit
def scOK:List CF→List Dt→Prop
 | .scal::fs,d::ds=>d.scal=true∧scOK fs ds
 | _::fs,_::ds=>scOK fs ds
 | _,_=>True
theorem z0g2:∀ {fs:List CF} {ds:List Dt},scOK fs ds→∀ (j:Nat) (d:Dt),fs[j]? = some .scal→ds[j]? = some d→d.scal=true
 | [],_,_,j,d,hf,_=>by cases hf
 | _::_,[],_,j,d,_,hd=>by cases hd
 | c::fs,x::ds,h,j,d,hf,hd=>by
  cases j with
  | zero =>
   simp only [zY05,zY00] at hf hd;subst hf;subst hd;exact h.1
  | succ j =>
   have h':scOK fs ds:=by
    cases c with
    | scal=>exact h.2
    | pure=>exact h
    | fresh e sz=>exact h
   exact z0g2 h' j d (by simpa using hf) (by simpa using hd)
theorem z1d {s:Sig} {rs:List Dt} (h:scOK (zu s) rs):z7i s rs:=fun i d h1 h2=>z0g2 h i d h1 h2
section
variable {W W':World} {F F':Nat→Prop} {pk:List PK} {b:Bool}
end
end
section
open Go.RowKit
end
section
open Go.RowKit
set_option maxRecDepth 100000
set_option maxHeartbeats 4000000
theorem zut:∀ l s:List (List UInt8),Er (z41 l s)
 | [],_=>z21 _ rfl
 | x::l,s=>z2e (z21 _ rfl) (z2e (z21 _ rfl) (zut l _))
theorem z0s5 (k:Book):Er (zj k):=z2e (z21 _ rfl) (zut _ _)
theorem z0lr (l:List (List UInt8)) (s:List UInt8):(z68 l s,z7c l s,z5o l s)=if 0≤idx l s then (l,idx l s+1,0) else if l.length=120 then ([],0,12) else (l++[s],(l.length:Int)+1,0):=by
 unfold z68 z7c z5o
 by_cases h1:0≤idx l s
 ·rw [if_pos h1,if_pos h1,if_pos h1,if_pos h1]
 rw [if_neg h1,if_neg h1,if_neg h1,if_neg h1]
 by_cases h2:l.length=120
 ·rw [if_pos h2,if_pos h2,if_pos h2,if_pos h2]
 ·rw [if_neg h2,if_neg h2,if_neg h2,if_neg h2]
noncomputable def z3e:za:=spD (fun _:Book=>True) fun k=>zj k
theorem zem (k:Book):z3e [.l 1 (k.texts.map z0c)]=some [I (zj k)]:=ze (f:=fun k:Book=>zj k) k trivial
theorem zl1:Meets Tryz.prog z3e 43 ⟨[.agg 1],[(false,[.scal])],true⟩ :=
 za0 rfl (z1x (fn:=Tryz.f43) (by kernel_rfl) (by kernel_rfl) (by kernel_rfl)) fun k _ W F us hF h=>by
  obtain ⟨cs,rfl,hr⟩:=zde h;exact ⟨(z0s5 k).i64,zvh k cs W F (she_book.of hr) hF.1⟩
noncomputable def z7r:za:=spD (fun l:List (List UInt8)=>l.length≤1000000) fun l=>l
theorem zl2 (l:List (List UInt8)) (h:l.length≤1000000):z7r [.l 1 (l.map z0c)]=some [.l 1 (l.map z0c)]:=ze (p:=fun l:List (List UInt8)=>l.length≤1000000) (f:=fun l:List (List UInt8)=>l) l h
theorem z0g3:Meets Tryz.prog z7r 46 ⟨[.one],[(false,[.fresh 9 1])],false⟩ :=
 z39 (e:=fun x:{ l:List (List UInt8) // l.length≤1000000 }=>Enc.e x.1) (xs:=fun x=>x.1) zcz rfl rfl (by decide) (z1x (fn:=Tryz.f46) (by kernel_rfl) (by kernel_rfl) (by kernel_rfl)) fun x W F us hF h=>by
  obtain ⟨v,us,rfl,h1,h⟩:=z1a h;obtain rfl:=z1s h;obtain ⟨A,n,c,rfl,k1⟩:=z2r zcz h1;have:=x.2;have:=k1.1;exact (z0kg x.1 A n c W F k1 hF (by omega)).mono fun r W' h=>⟨n,h⟩
attribute [local irreducible] z01 spD zj z68 z7c z5o idx
attribute [local irreducible] den denX z0g z0o
noncomputable def zen:za:=spD (fun x:List (List UInt8) × List UInt8=>x.1.length≤120) fun x=>(z68 x.1 x.2,z7c x.1 x.2,z5o x.1 x.2)
theorem z05z (l:List (List UInt8)) (s:List UInt8) (h:l.length≤120):zen [.l 1 (l.map z0c),.s s]=some [.l 1 ((z68 l s).map z0c),I (z7c l s),I (z5o l s)]:=ze (p:=fun x:List (List UInt8) × List UInt8=>x.1.length≤120) (f:=fun x:List (List UInt8) × List UInt8=>(z68 x.1 x.2,z7c x.1 x.2,z5o x.1 x.2)) (l,s) h
def z0hy:T :=
 .W [.mk 1 [[1]]] [] (.W [.app 1 6 7] [] (.W [.len 0] [] (.W [.B .add 9 (zI 1)] [] (.ret [8,10,zI 0]))))
def z0hz:T :=
 .W [.len 0] [] (.W [.B .eql 4 (zI 120)] [] (.ite 5 (.ret [.c (.nil 1),zI 0,zI 12]) (.W [.call 73 [0] 0] [] z0hy)))
def z0i0:T :=
 .W [.B .geq 2 (zI 0)] [] (.ite 3 (.W [.call 73 [0] 0] [] (.W [.B .add 2 (zI 1)] [] (.ret [4,5,zI 0])))
 z0hz)
def zma:T :=
 .W [.call 47 [0,1] 0] [] z0i0
attribute [local irreducible] z7r z6k
theorem z0p0:Meets Tryz.prog zen 115 ⟨[.one,.one],[(false,[.pure]),(false,[.scal]),(false,[.scal])],false⟩:=by
 refine zf (sp:=(zy [(47,z6k),(73,z7r)])) (sigs:=z05) (cut:=[]) (hints:=[]) (fn:=Tryz.f115) (t:=zma) (by kernel_rfl) (by kernel_rfl) (by kernel_rfl) ?_ ?_
 ·exact (zr (L:=[(47,z6k),(73,z7r)]) ⟨z7 rfl z05o,z7 rfl z0g3,trivial⟩)
 ·rintro ds rs - h
  obtain ⟨⟨l,s⟩,hl,rfl,rfl⟩:=zg h;clear h;simp only at hl;refine ⟨⟨1,?_⟩,z1d ⟨rfl,rfl,trivial⟩⟩
  show den _ _ zma [.l 1 (l.map z0c),.s s] []=ret (z68 l s,z7c l s,z5o l s)
  rw [z0lr];have a1:=zj6 l s;have a2:=zl2 l (by omega);have hb:=zfr l s;generalize idx l s=j at *;unfold zma
  by_cases h1:0≤j
  ·rw [if_pos h1]
   repeat' (first|refine dq1 ?_|refine dqk rfl (a1) ?_|refine dqk rfl (a2) ?_|exact z5 rfl rfl|refine dqT ?_|fail)
  rw [if_neg h1]
  by_cases h2:l.length=120
  ·rw [if_pos h2]
   repeat' (first|refine dq1 ?_|refine dqk rfl (a1) ?_|exact z5 rfl rfl|refine dqT ?_|refine dqF ?_|fail)
  rw [if_neg h2]
  repeat' (first|refine dq1 ?_|refine dqk rfl (a1) ?_|refine dqk rfl (a2) ?_|refine z4 (z1m (r:=([s].map z0c)) rfl rfl (by simp)) ?_|exact z5 rfl rfl|refine dqF ?_|fail)
noncomputable def z0da:za:=spD (fun _:Book × List UInt8=>True) fun x=>(z02g x.1 x.2,zfs x.1 x.2,zoy x.1 x.2)
attribute [local irreducible] z3e
noncomputable def za7:za:=spD (fun x:Book × List (List UInt8)=>x.2.length≤999999) fun x=>z2m x.1 x.2
theorem zwn (k:Book) (l:List (List UInt8)) (h:l.length≤999999):za7 [.l 1 (k.texts.map z0c),.l 1 (l.map z0c)]=some [.l 1 ((z2m k l).1.map z0c),.l 1 ((z2m k l).2.1.map zk),I (z2m k l).2.2]:=ze (p:=fun x:Book × List (List UInt8)=>x.2.length≤999999) (f:=fun x:Book × List (List UInt8)=>z2m x.1 x.2) (k,l) h
def z0db:T :=
 .ite 18 (.ret [.c (.nil 1),.c (.nil 1),17]) (.W [.mk 1 [[16]]] [] (.W [.app 1 9 19] [] (.W [.B .add 10 (zI 1)] [] (.again 0 [6,
 .v 7,15,20,21]))))
def z0dc:T :=
 .ite 14 (.ret [.c (.nil 1),.c (.nil 1),zI 2]) (.W [.call 137 [8,12] 0,.call 137 [8,12] 1,.call 137 [8,12] 2] [] (.W [.B .neq 17
 (zI 0)] [] z0db))
def z0dd:T :=
 .ite 11 (.W [] [.inr 1 1 10] (.W [.idx 1 10 0] [] (.W [.slen 12] [] (.W [.B .gtr 13 (zI 4000)] [] z0dc)))) (.ret
 [8,9,zI 0])
def z0de:T :=
 .W [.call 73 [0] 0] [] (.W [.len 1] [] (.loop [.c (.nil 1),zI 0,4,.c (.nil 1),zI 0] (.W [.B .lss 10 5] [] z0dd)))
def zj9:T :=
 .W [.call 62 [0] 0] [] (.W [.B .neq 2 (zI 0)] [] (.ite 3 (.ret [.c (.nil 1),.c (.nil 1),2]) z0de))
theorem z0ls:Meets Tryz.prog za7 72 ⟨[.agg 1,.one],[(true,[.pure]),(false,[.pure]),(false,[.scal])],false⟩:=by
 refine zf (sp:=(zy [(62,z3e),(73,z7r),(137,zen)])) (sigs:=z0vd) (cut:=[]) (hints:=[⟨7,[.r 5 3 1,.t 6,.t 8,.r 9 3 1,.t 26]⟩]) (fn:=Tryz.f72) (t:=zj9) (by kernel_rfl) (by kernel_rfl) (by kernel_rfl) ?_ ?_
 ·exact (zr (L:=[(62,z3e),(73,z7r),(137,zen)]) ⟨z7 rfl zl1,z7 rfl (z0kj rfl z0g3),z7 rfl z0p0,trivial⟩)
 ·rintro ds rs - h
  obtain ⟨⟨k,l⟩,hll,rfl,rfl⟩:=zg h;clear h;simp only at hll;refine ⟨⟨l.length+1,?_⟩,z1d ⟨rfl,trivial⟩⟩
  show den _ _ zj9 [.l 1 (k.texts.map z0c),.l 1 (l.map z0c)] []=ret (z2m k l)
  have a1:=zem k;unfold zj9 z2m
  by_cases h1:zj k=0
  rotate_left
  ·rw [if_pos h1]
   generalize zj k=e at *
   repeat' (first|refine dq1 ?_|refine dqk rfl (a1) ?_|exact z5 rfl rfl|refine dqT ?_|fail)
  have hl:=zhm h1;rw [if_neg (fun z=>z h1)];rw [h1] at a1;have a2:=zl2 k.texts (by omega)
  repeat' (first|refine dq1 ?_|refine dqk rfl (a1) ?_|refine dqk rfl (a2) ?_|refine dqF ?_|fail)
  (refine zn (fun (a:List (List UInt8) × List Int) k=>[.l 1 [],I 0,.l 1 (a.1.map z0c),.l 1 (a.2.map zk),I k]) (fun (a:List (List UInt8) × List Int) _ (r:List (List UInt8))=>z27 r a.1 a.2) (fun a k=>a.1.length≤120∧a.2.length=k) (k.texts,[]) l ?_ ?_ ?_ ?_ ?_;rfl;exact ⟨hl,rfl⟩;omega)
  ·rintro ⟨t,o⟩ i s r hx hd hk ⟨ht,ho⟩ again hag
   simp only at ht ho;rw [z27];simp only
   by_cases h2:4000<s.length
   ·rw [if_pos h2]
    repeat' (first|refine dq1 ?_|refine dqc ?_|exact z5 rfl rfl|refine dqT ?_|fail)
   rw [if_neg h2];have b1:=z05z t s ht;have hnl:=zuk (t:=t) (s:=s) ht;generalize z68 t s=p at *;generalize z7c t s=q at *;generalize z5o t s=e at *
   by_cases h3:e=0
   ·have hag:=hag (p,o++[q]) ⟨hnl h3,by simp;omega⟩
    rw [if_neg (fun z=>z h3)];simp only at hag
    repeat' (first|refine dq1 ?_|refine dqc ?_|refine dqK rfl (b1) ?_|exact z6 rfl rfl hag|refine dqT ?_|refine dqF ?_|fail)
   ·rw [if_pos h3]
    repeat' (first|refine dq1 ?_|refine dqc ?_|refine dqK rfl (b1) ?_|exact z5 rfl rfl|refine dqT ?_|refine dqF ?_|fail)
  ·rintro ⟨t,o⟩ ⟨ht,ho⟩ again
   rw [z27];simp only
   repeat' (first|refine dq1 ?_|exact z5 rfl rfl|refine dqF ?_|fail)
end
section
open Go.RowKit
set_option maxRecDepth 100000
set_option maxHeartbeats 4000000
theorem zja {n:Int} (h:0≤n∧n≤1000):I64 n:=⟨by have:=h.1;omega,by have:=h.2;omega⟩
noncomputable def z4u:za:=spD (fun _:Block=>True) fun k=>zb k
theorem zg6 (b:Block):z4u [I b.parent,I b.height,I b.work,I b.nonce,.l 3 (b.txs.map eTx)]=some [I (zb b)]:=ze (f:=fun k:Block=>zb k) b trivial
theorem zpo:Meets Tryz.prog z4u 65 ⟨[.agg 5],[(false,[.scal])],true⟩ :=
 za0 rfl (z1x (fn:=Tryz.f65) (by kernel_rfl) (by kernel_rfl) (by kernel_rfl)) fun k _ W F us hF h=>by
  obtain ⟨cs,rfl,hr⟩:=zde h;exact ⟨(z0l1 k).i64,zft k cs W F (she_block.of hr) hF.1⟩
theorem zep (n:Int):0≤z0i n∧z0i n≤1000:=by
  unfold z0i
  split
  ·exact ⟨by decide,by decide⟩
  ·rename_i h
   have h1:(0:Int)≤2 ^ (min ((n - 1) / 8) 30).toNat:=Int.pow_nonneg (by decide);have h2:=Int.ediv_nonneg (show (0:Int)≤64 by decide) h1;have h3:=Int.ediv_le_self (2 ^ (min ((n - 1) / 8) 30).toNat) (show (0:Int)≤64 by decide);exact ⟨h2,by omega⟩
theorem zuu (n:Int):I64 (z0i n)∧I64 (z4b n):=by
 have h1:=zep n;have h2:0≤z4b n∧z4b n≤1000:=by
  unfold z4b
  split <;> exact ⟨by decide,by decide⟩
 exact ⟨zja h1,zja h2⟩
noncomputable def z5l:za:=spD (fun _:Int=>True) fun n=>(z0i n,z4b n)
theorem zmb (n:Int):z5l [I n]=some [I (z0i n),I (z4b n)]:=ze (f:=fun n:Int=>(z0i n,z4b n)) n trivial
theorem z0s6 (n:Int) (w:World):Calls Tryz.prog 63 #[.int .i64 n] w fun e w'=>e = .returned (.tuple #[.int .i64 (z0i n),.int .i64 (z4b n)])∧w=w':=by
 by_cases h:n<1∨1000<n
 ·go_enter Tryz.func63,Tryz.ntmps63
  go_wp2
  all_goals (go_ret2;refine ⟨zd1 ?_ ?_,rfl⟩)
  all_goals simp [z0i,z4b,h]
 ·have h1:1≤n:=by omega
  have h2:n≤1000:=by omega
  go_enter Tryz.func63,Tryz.ntmps63;go_wp2
  all_goals (go_ret2;refine ⟨zd1 ?_ ?_,rfl⟩)
  all_goals first|(simp only [z0i];rw [if_neg (by omega)])|(simp [z4b];omega)
theorem z062:Meets Tryz.prog z5l 63 ⟨[.one],[(false,[.scal]),(false,[.scal])],true⟩ :=
 z9c rfl (z1x (fn:=Tryz.f63) (by kernel_rfl) (by kernel_rfl) (by kernel_rfl)) fun n _ W F us hF h=>by
  obtain ⟨v,us,rfl,h2,h⟩:=z1a (d:=I n) h;obtain rfl:=z1s h;obtain ⟨rfl,hn⟩:=zd0 h2;refine (z0s6 n W).mono ?_;rintro e w' ⟨rfl,rfl⟩;exact ⟨_,rfl,Below.refl _ _,zrw rfl rfl (.i _ _ (wrap_i64 (zuu n).1)) (.i _ _ (wrap_i64 (zuu n).2))⟩
theorem z0s7 {α:Type} [DecidableEq α] (l:List α) (x:α) (h:l.length≤9223372036854775807):I64 (idx l x):=by
 have:=zfr l x;exact ⟨by omega,by omega⟩
noncomputable def z1c:za:=spD (fun _:List Int × Int=>True) fun x=>idx x.1 x.2
theorem z3f (l:List Int) (n:Int):z1c [.l 1 (l.map zk),I n]=some [I (idx l n)]:=ze (f:=fun x:List Int × Int=>idx x.1 x.2) (l,n) trivial
theorem z7s:Meets Tryz.prog z1c 39 ⟨[.one,.one],[(false,[.scal])],true⟩ :=
 za0 rfl (z1x (fn:=Tryz.f39) (by kernel_rfl) (by kernel_rfl) (by kernel_rfl)) fun x _ W F us hF h=>by
  obtain ⟨l,n⟩:=x;obtain ⟨v,us,rfl,h1,h⟩:=z1a h;obtain ⟨v2,us,rfl,h2,h⟩:=z1a h;obtain rfl:=z1s h;obtain ⟨rfl,hn⟩:=zd0 h2;obtain ⟨A,m,c,rfl,hl⟩:=z2r z3o h1;have hlm:l.length=m:=hl.1;have:=hl.2.1;have:=hl.2.2.1;refine ⟨z0s7 l n (by omega),(z0ku l n A m c W F hl).mono ?_⟩;rintro e w' ⟨rfl,rfl⟩;exact ⟨rfl,Below.refl _ _⟩
noncomputable def zax:za:=spD (fun l:List Int=>l.length≤1000000) fun l=>l
theorem z0df (l:List Int) (h:l.length≤1000000):zax [.l 1 (l.map zk)]=some [.l 1 (l.map zk)]:=ze (p:=fun l:List Int=>l.length≤1000000) (f:=fun l:List Int=>l) l h
theorem z0s8:Meets Tryz.prog zax 87 ⟨[.one],[(false,[.fresh 3 1])],false⟩ :=
 z39 (e:=fun x:{ l:List Int // l.length≤1000000 }=>Enc.e x.1) (xs:=fun x=>x.1) z3o rfl rfl (by decide) (z1x (fn:=Tryz.f87) (by kernel_rfl) (by kernel_rfl) (by kernel_rfl)) fun x W F us hF h=>by
  obtain ⟨v,us,rfl,h1,h⟩:=z1a h;obtain rfl:=z1s h;obtain ⟨A,n,c,rfl,k1⟩:=z2r z3o h1;have:=x.2;have:=k1.1;exact (z0kf x.1 A n c W F k1 hF (by omega)).mono fun r W' h=>⟨n,h⟩
noncomputable def z9d:za:=spD (fun _:List Int=>True) fun l=>l.reverse
theorem z063 (l:List Int):z9d [.l 1 (l.map zk)]=some [.l 1 (l.reverse.map zk)]:=ze (f:=fun l:List Int=>l.reverse) l trivial
theorem zuv {W:World} {F:Nat→Prop}:∀ {l:List Int} {vs:List Value},Reps W F (l.map zk).flatten vs→vs=l.map (Value.int .i64)∧∀ x ∈ l,I64 x
 | [],[],_=>⟨rfl,by simp⟩
 | [],_::_,h=>absurd h id
 | x::l,vs,h=>by
  cases vs with
  | nil=>exact absurd h id
  | cons v vs =>
   have h':Rep W F (I x) v∧Reps W F (l.map zk).flatten vs:=h;obtain ⟨rfl,hx⟩:=zd0 h'.1;obtain ⟨rfl,hl⟩:=zuv h'.2;refine ⟨rfl,fun y hy=>?_⟩;rcases zY0g.1 hy with rfl|hy
   ·exact hx
   ·exact hl y hy
theorem zuw {W:World} {F:Nat→Prop}:∀ {l:List Int},(∀ x ∈ l,I64 x)→Reps W F (l.map zk).flatten (l.map (Value.int .i64))
 | [],_=>trivial
 | x::l,h=>⟨.i _ _ (wrap_i64 (h x (by simp))),zuw fun y hy=>h y (zY0i _ hy)⟩
theorem z0p1:Meets Tryz.prog z9d 88 ⟨[.mine 3 1],[],false⟩:=⟨fun h=>(by cases h),fun e sz ps he=>by
 cases he
 intro W F base v xs vs ds args rs hF hbase hno hlen hown hreps hpk hs;obtain ⟨l,-,h1,rfl⟩:=zg hs;have h1':xs=l.map zk∧ds=[]:=by
  injection h1 with ha hb
  injection ha with _ ha
  exact ⟨ha,hb⟩
 obtain ⟨rfl,rfl⟩:=h1';obtain rfl:=z1s hpk;obtain ⟨rfl,hI⟩:=zuv hreps;refine ⟨l.reverse.map zk,rfl,by simp [zk],.inl ⟨(z1x (fn:=Tryz.f88) (by kernel_rfl) (by kernel_rfl) (by kernel_rfl)).run _ _,?_⟩⟩;rw [zY0y] at hown;have hown':=hown;rcases hown.2 with ⟨rfl,hn⟩|⟨g,cap,cur,rfl,hg,hh,hnc,hcm,hcs,ht⟩
 ·obtain rfl:l=[]:=zY0c hn
  refine (zwm none 0 W).mono ?_;rintro e w' ⟨rfl,rfl⟩;exact ⟨_,rfl,.slice none 0 0,[],⟨fun _=>rfl,fun h=>absurd rfl h⟩,World.grownBy.refl _ _,hown',trivial,fun b hb=>.inl hb⟩
 ·unfold maxLen at hcm
  have hcell:∀ j,j<l.length→W.cell? ⟨g,0+j,none⟩=some (.int .i64 (l.getD j 0)):=by
   intro j hj;have e1:(cur.toList.take (l.length * 1))[j]? = some (.int .i64 l[j]):=by rw [ht];simp [hj]
   rw [zY18] at e1
   split at e1
   ·rw [cell_of_row W g _ cur _ (0,0) hh]
    simpa [List.getD,hj] using e1
   ·cases e1
  refine (zwl g 0 l.length cap l W (by omega) (by omega) hcell (fun j _=>zly hh)).mono ?_;rintro e w' ⟨rfl,q,rfl⟩;rw [zY0t (zY0k _)];obtain ⟨s1,s2,s3,s4⟩:=zwo (g:=g) (l.reverse.map (Value.int .i64)) 0 (W.drewN q);have hb0:=zf0 (Below.refl W.heap.size W) q;have hgr:W.grownBy ((W.drewN q).setCells g 0 (l.reverse.map (Value.int .i64))) (Value.slice (some ⟨g,0,none⟩) l.length cap).ownBlock :=
   ⟨s2.trans hb0.os,s3.trans hb0.tape,s4.trans hb0.output,by have:=hb0.size;omega,fun b hlt hb=>(z061 _ _ _ _ (fun e=>hb (by rw [e];rfl))).trans (hb0.block b hlt)⟩
  have hown2:(W.drewN q).ownsRow base 3 1 (.slice (some ⟨g,0,none⟩) l.length cap) l.length (l.map (Value.int .i64)):=zi7 hown' (fun b hb=>hb0.block b (by
   simp only [Value.ownBlock,zY00] at hb;subst hb;exact zil hh))
  have hset:=zj5 rfl (l.reverse.map (Value.int .i64)) 0 _ _ hown2;rw [z0ov _ _ (by simp)] at hset;exact ⟨_,rfl,_,l.reverse.map (Value.int .i64),⟨fun _=>rfl,fun h=>absurd rfl h⟩,hgr,by rw [zY0y,List.length_reverse];exact hset,zuw fun x hx=>hI x (List.mem_reverse.1 hx),fun b hb=>.inl hb⟩⟩
end
section
open Go.RowKit
open Go.Lib (itoa)
set_option maxRecDepth 100000
set_option maxHeartbeats 4000000
def zg7 (b:Block):List (List UInt8):=b.txs.map fun t=>(z0j t).1
def zdm (k:Book) (s:List UInt8) (l:List (List UInt8)):List (List UInt8) × Int × List Int × Int :=
 if (z2m k (l++[s])).2.2≠0 then ([],0,[],(z2m k (l++[s])).2.2) else
 ((z2m k (l++[s])).1,((z2m k (l++[s])).2.1).getD l.length 0,((z2m k (l++[s])).2.1).take l.length,0)
def z08 (k:Book) (b:Block):List (List UInt8) × Int × List Int × Int :=
 if (z0v b).2≠0 then ([],0,[],(z0v b).2) else zdm k (z0v b).1 (zg7 b)
theorem zeq:∀ (l t:List (List UInt8)) (o:List Int),(z27 l t o).2.2=0→(z27 l t o).2.1.length=o.length+l.length
 | [],t,o,_=>by simp [z27]
 | s::l,t,o,h=>by
  rw [z27] at h ⊢
  split at h
  ·cases h
  rename_i h1;rw [if_neg h1]
  split at h
  ·rename_i h2;exact absurd h h2
  rename_i h2;rw [if_neg h2];rw [zeq l _ _ h];simp;omega
theorem zl3 {k:Book} {l:List (List UInt8)} (h:(z2m k l).2.2=0):(z2m k l).2.1.length=l.length:=by
 unfold z2m at h ⊢
 split at h
 ·rename_i h1;exact absurd h h1
 rename_i h1;rw [if_neg h1];simpa using zeq l k.texts [] h
theorem zhs {b:Block} (h:(z0v b).2=0):zb b=0:=by
 unfold z0v at h
 by_cases hb:zb b=0
 ·exact hb
 ·rw [if_pos hb] at h;exact absurd h hb
attribute [local irreducible] z01 spD z2m z0v z0j
attribute [local irreducible] den denX z0g z0o
noncomputable def z3x:za:=spD (fun _:Book × Block=>True) fun x=>z08 x.1 x.2
theorem zay (k:Book) (b:Block):z3x [.l 1 (k.texts.map z0c),I b.parent,I b.height,I b.work,I b.nonce,.l 3 (b.txs.map eTx)]=some [.l 1 ((z08 k b).1.map z0c),I (z08 k b).2.1,.l 1 ((z08 k b).2.2.1.map zk),I (z08 k b).2.2.2]:=ze (f:=fun x:Book × Block=>z08 x.1 x.2) (k,b) trivial
theorem zpp (b:Block):z65 [I b.parent,I b.height,I b.work,I b.nonce,.l 3 (b.txs.map eTx)]=some [.s (z0v b).1,I (z0v b).2]:=zs4 b
theorem zs8 (t:Tx):z6q [I t.height,.l 3 (t.ins.map eIn),.l 2 (t.outs.map z3b)]=some [.s (z0j t).1,I (z0j t).2]:=zwh t
def z064:T :=
 .W [.call 56 [13,14,15] 0,.call 56 [13,14,15] 1] [] (.W [.mk 1 [[16]]] [] (.W [.app 1 10 18] [] (.W [.B .add 11 (.c (.i .i64
 1))] [] (.again 0 [19,20]))))
def z065:T :=
 .W [.len 10] [] (.W [.sub 1 16 none (some 21),.sub 1 16 (some 21) (some 22)] [] (.ret [15,20,23,zI 0]))
def z066:T :=
 .ite 18 (.ret [.c (.nil 1),zI 0,.c (.nil 1),17]) (.W [.len 10] [] (.W [] [.inr 1 16 19] (.W [.idx 16 19 0] [] (.W [.len (.v
 10)] [] z065))))
def z067:T :=
 .W [.app 1 10 13] [] (.W [.call 63 [0,14] 0,.call 63 [0,14] 1,.call 63 [0,14] 2] [] (.W [.B .neq 17 (zI 0)] []
 z066))
def z068:T :=
 .ite 12 (.W [] [.inr 3 5 11] (.W [.idx 5 11 0,.idx 5 11 1,.idx 5 11 2] [] z064)) (.W [.mk 1 [[6]]] []
 z067)
def z069:T :=
 .ite 8 (.ret [.c (.nil 1),zI 0,.c (.nil 1),7]) (.W [.len 5] [] (.loop [.c (.nil 1),zI 0] (.W [.B .lss 11 9] [] z068)))
def zh2:T :=
 .W [.call 57 [1,2,3,4,5] 0,.call 57 [1,2,3,4,5] 1] [] (.W [.B .neq 7 (zI 0)] [] z069)
attribute [local irreducible] z65 za7 z6q
theorem zpq:Meets Tryz.prog z3x 23 ⟨[.agg 1,.agg 5],[(true,[.pure]),(false,[.scal]),(false,[.pure]),(false,[.scal])],false⟩:=by
 refine zf (sp:=(zy [(56,z6q),(57,z65),(63,za7)])) (sigs:=z05) (cut:=[]) (hints:=[⟨6,[.r 9 9 1,.t 27]⟩]) (fn:=Tryz.f23) (t:=zh2) (by kernel_rfl) (by kernel_rfl) (by kernel_rfl) ?_ ?_
 ·exact (zr (L:=[(56,z6q),(57,z65),(63,za7)]) ⟨z7 rfl z0lh,z7 rfl z0hp,z7 rfl z0ls,trivial⟩)
 ·rintro ds rs hok h
  obtain ⟨⟨k,b⟩,-,rfl,rfl⟩:=zg h;clear h;refine ⟨⟨100,?_⟩,z1d ⟨rfl,rfl,trivial⟩⟩
  show den _ _ zh2 [.l 1 (k.texts.map z0c),I b.parent,I b.height,I b.work,I b.nonce,.l 3 (b.txs.map eTx)] []=ret (z08 k b)
  have a1:=zpp b;unfold zh2 z08;have hpz:=fun h=>(z1p (zhs (b:=b) h)).len
  generalize z0v b=pb at *;obtain ⟨s,e⟩:=pb;simp only at *
  repeat' (first|refine dq1 ?_|refine dqK rfl (a1) ?_|exact z5 rfl rfl|refine tR (fun h=>?_) fun h=>?_|fail)
  have hlen:b.txs.length≤4:=hpz (by omega)
  (refine zn (fun (a:List (List UInt8)) k=>[.l 1 (a.map z0c),I k]) (fun (a:List (List UInt8)) _ (r:List Tx)=>zdm k s (a++r.map fun t=>(z0j t).1)) (fun a k=>a.length=k) [] b.txs ?_ ?_ ?_ ?_ ?_;rfl;exact rfl;omega)
  ·rintro a i x r hx hd hk ha again hag
   have a2:=zs8 x;have e:a++((x::r).map fun t=>(z0j t).1)=(a++[(z0j x).1])++r.map fun t=>(z0j t).1:=by simp
   rw [e];have hag':=hag (a++[(z0j x).1]) (by simp;omega);generalize z0j x=px at *;obtain ⟨z,f⟩:=px;simp only at *
   repeat' (first|refine dq1 ?_|refine dqc ?_|refine dqm ?_|refine dqK rfl (a2) ?_|refine z4 (z1m rfl rfl (by simp)) ?_|refine dqT ?_|fail)
   exact z6 rfl rfl hag'
  ·rintro a ha again
   simp only [zY2u,zY1e];have a3:=zwn k (a++[s]) (by simp;omega);have hl:=fun h=>zl3 (k:=k) (l:=a++[s]) h
   unfold zdm;generalize z2m k (a++[s])=q at *;obtain ⟨tx,ns,e2⟩:=q;simp only at *
   repeat' (first|refine dq1 ?_|refine dqK rfl (a3) ?_|refine z4 (z1m rfl rfl (by simp)) ?_|exact z5 rfl rfl|refine tR (fun h=>?_) fun h=>?_|refine dqF ?_|fail)
   have hl:=hl (by omega);simp only [zY04,zY0a,zY0q] at hl;have hg:ns[((a.length:Int)).toNat]? = some (ns.getD a.length 0):=by
    rw [zY21,zY0w,zY03 (by omega)];rfl
   generalize ns.getD a.length 0=y at *;have ht:ns.take ((a.length:Int)).toNat=ns.take a.length:=by rw [zY21]
   repeat' (first|refine dq1 ?_|refine dqc ?_|fail)
   refine z3p (z0k (z0fu rfl rfl (by omega) (by omega) ht) (z0k (zfq (m:=(a.length:Int)) (n:=(a.length:Int)) rfl rfl rfl (by omega) (by omega) (by omega)) z4t)) ?_ rfl;exact z5 rfl rfl
end
section
open Go.RowKit
set_option maxRecDepth 100000
set_option maxHeartbeats 4000000
theorem z0dg (ns:List Int) (bs:List Block) (k f:Nat):z3m ns bs k (f+1)=if z10 ns k<1 then 3 else if z10 ns k > 120 then 3 else if zb (zx bs k)≠0 then zb (zx bs k) else if z1o (ns.take k) (z10 ns k)=true then 6 else if z1t ns bs (zx bs k) k≠0 then z1t ns bs (zx bs k) k else z3m ns bs (k+1) f:=by
 rw [z3m];have e0:z1r ns bs k (z10 ns k) (zx bs k)=if z10 ns k<1∨120<z10 ns k then 3 else if zb (zx bs k)≠0 then zb (zx bs k) else if z1o (ns.take k) (z10 ns k)=true then 6 else z1t ns bs (zx bs k) k:=rfl
 generalize z1r ns bs k (z10 ns k) (zx bs k)=st at *
 by_cases h1:z10 ns k<1
 ·rw [if_pos (Or.inl h1)] at e0
  rw [e0,if_pos (by decide),if_pos h1]
 by_cases h2:z10 ns k > 120
 ·rw [if_pos (Or.inr h2)] at e0
  rw [e0,if_pos (by decide),if_neg h1,if_pos h2]
 rw [if_neg (show ¬ (z10 ns k<1∨120<z10 ns k) by omega)] at e0;rw [if_neg h1,if_neg h2]
 by_cases h3:zb (zx bs k)≠0
 ·rw [if_pos h3] at e0
  rw [e0,if_pos h3,if_pos h3]
 rw [if_neg h3] at e0;rw [if_neg h3]
 by_cases h4:z1o (ns.take k) (z10 ns k)=true
 ·rw [if_pos h4] at e0
  rw [e0,if_pos (by decide),if_pos h4]
 ·rw [if_neg h4] at e0
  rw [e0,if_neg h4]
theorem z0s9 {ns:List Int} {bs:List Block} (ok:TreeOK ns bs) {m:Int} (h0:m≠0) (hm:0≤idx ns m):1≤ns.length∧up ns bs ns.length m=m::up ns bs ns.length (z0p ns bs m)∧(z0p ns bs m=0∨0≤idx ns (z0p ns bs m)):=by
 obtain ⟨_,_,j,hj,he,_,hp⟩:=ok.name hm;have hr:=ok.rem h0 hm;have hpi:z0p ns bs m=0∨0≤idx ns (z0p ns bs m):=hp.imp id fun h=>h.2.1
 have hrl:z43 ns m≤ns.length:=by unfold z43;rw [if_neg h0];omega
 refine ⟨by omega,?_,hpi⟩;obtain ⟨f,hf⟩:∃ f,ns.length=f+1:=⟨ns.length - 1,by omega⟩
 have:up ns bs ns.length m=m::up ns bs f (z0p ns bs m):=by rw [hf,up,if_neg h0]
 rw [this,zs7 ok f ns.length _ hpi (by omega) (by omega)]
section
variable {sp:Nat→za} {N:Nat} {E:Env} {ks:List (List Dt→Option (List Dt))}
theorem z0lt {σ ρ:Type} [Enc ρ] {ats:List Atom} {body:T} (enc:σ→List Dt) (val:σ→ρ) (rk:σ→Nat) (Inv:σ→Prop) (s0:σ) (h:vals E ats=some (enc s0)) (h0:Inv s0) (hN:rk s0<N)
  (step:∀ (s:σ),Inv s→∀ again:List Dt→Option (List Dt),(∀ s',Inv s'→rk s'<rk s→again (enc s')=ret (val s'))→den sp N body (E++enc s) (ks++[again])=ret (val s)):den sp N (.loop ats body) E ks=ret (val s0):=by
 refine z0t h ?_;have key:∀ (n:Nat) (s:σ),rk s≤n→Inv s→∀ M,n<M→z06 (fun again ds=>den sp N body (E++ds) (ks++[again])) M (enc s)=ret (val s):=by
  intro n
  induction n with
  | zero =>
   intro s hs hi M hM;obtain ⟨M,rfl⟩:∃ j,M=j+1:=⟨M - 1,by omega⟩
   rw [z06];exact step s hi _ fun s' _ hlt=>by omega
  | succ n ih =>
   intro s hs hi M hM;obtain ⟨M,rfl⟩:∃ j,M=j+1:=⟨M - 1,by omega⟩
   rw [z06];exact step s hi _ fun s' hi' hlt=>ih s' (by omega) hi' M (by omega)
 exact key (rk s0) s0 (zY0k _) h0 N hN
end
noncomputable def zg8:za:=spD (fun l:List In=>l.length≤3518437208780) fun l=>l
theorem z0i2 (l:List In) (h:l.length≤3518437208780):zg8 [.l 3 (l.map eIn)]=some [.l 3 (l.map eIn)]:=ze (p:=fun l:List In=>l.length≤3518437208780) (f:=fun l:List In=>l) l h
theorem z0ul:Meets Tryz.prog zg8 95 ⟨[.one],[(false,[.fresh 105 3])],false⟩ :=
 z39 (e:=fun x:{ l:List In // l.length≤3518437208780 }=>Enc.e x.1) (xs:=fun x=>x.1) z024 rfl rfl (by decide) (z1x (fn:=Tryz.f95) (by kernel_rfl) (by kernel_rfl) (by kernel_rfl)) fun x W F us hF h=>by
  obtain ⟨v,us,rfl,h1,h⟩:=z1a h;obtain rfl:=z1s h;obtain ⟨A,n,c,rfl,k1⟩:=z2r z024 h1;have:=x.2;have:=k1.1;exact (z0o5 x.1 A n c W F k1 hF (by omega)).mono fun r W' h=>⟨n,h⟩
noncomputable def zdn:za:=spD (fun l:List Out=>l.length≤4398046510976) fun l=>l
theorem z0dh (l:List Out) (h:l.length≤4398046510976):zdn [.l 2 (l.map z3b)]=some [.l 2 (l.map z3b)]:=ze (p:=fun l:List Out=>l.length≤4398046510976) (f:=fun l:List Out=>l) l h
theorem z0sa:Meets Tryz.prog zdn 96 ⟨[.one],[(false,[.fresh 99 2])],false⟩ :=
 z39 (e:=fun x:{ l:List Out // l.length≤4398046510976 }=>Enc.e x.1) (xs:=fun x=>x.1) zkh rfl rfl (by decide) (z1x (fn:=Tryz.f96) (by kernel_rfl) (by kernel_rfl) (by kernel_rfl)) fun x W F us hF h=>by
  obtain ⟨v,us,rfl,h1,h⟩:=z1a h;obtain rfl:=z1s h;obtain ⟨A,n,c,rfl,k1⟩:=z2r zkh h1;have:=x.2;have:=k1.1;exact (z0kh x.1 A n c W F k1 hF (by omega)).mono fun r W' h=>⟨n,h⟩
noncomputable def zg9:za:=spD (fun l:List Tx=>l.length≤2513169434843) fun l=>l
theorem z0di (l:List Tx) (h:l.length≤2513169434843):zg9 [.l 3 (l.map eTx)]=some [.l 3 (l.map eTx)]:=ze (p:=fun l:List Tx=>l.length≤2513169434843) (f:=fun l:List Tx=>l) l h
theorem z0um:Meets Tryz.prog zg9 62 ⟨[.one],[(false,[.fresh 30 3])],false⟩ :=
 z39 (e:=fun x:{ l:List Tx // l.length≤2513169434843 }=>Enc.e x.1) (xs:=fun x=>x.1) she_tx rfl rfl (by decide) (z1x (fn:=Tryz.f62) (by kernel_rfl) (by kernel_rfl) (by kernel_rfl)) fun x W F us hF h=>by
  obtain ⟨v,us,rfl,h1,h⟩:=z1a h;obtain rfl:=z1s h;obtain ⟨A,n,c,rfl,k1⟩:=z2r she_tx h1;have:=x.2;have:=k1.1;exact (z0o6 x.1 A n c W F k1 hF (by omega)).mono fun r W' h=>⟨n,h⟩
noncomputable def zdo:za:=spD (fun l:List Block=>l.length≤1000000) fun l=>l
theorem z0dj (l:List Block) (h:l.length≤1000000):zdo [.l 5 (l.map z09)]=some [.l 5 (l.map z09)]:=ze (p:=fun l:List Block=>l.length≤1000000) (f:=fun l:List Block=>l) l h
theorem z0sb:Meets Tryz.prog zdo 149 ⟨[.one],[(false,[.fresh 49 5])],false⟩ :=
 z39 (e:=fun x:{ l:List Block // l.length≤1000000 }=>Enc.e x.1) (xs:=fun x=>x.1) she_block rfl rfl (by decide) (z1x (fn:=Tryz.f149) (by kernel_rfl) (by kernel_rfl) (by kernel_rfl)) fun x W F us hF h=>by
  obtain ⟨v,us,rfl,h1,h⟩:=z1a h;obtain rfl:=z1s h;obtain ⟨A,n,c,rfl,k1⟩:=z2r she_block h1;have:=x.2;have:=k1.1;exact (z0bu x.1 A n c W F k1 hF (by omega)).mono fun r W' h=>⟨n,h⟩
attribute [local irreducible] z01 spD zb zl
attribute [local irreducible] den denX z0g z0o
def zpr (t:Tx):Prop:=(t.ins.length≤3518437208780∧∀ x ∈ t.ins,x.key.length≤8796093021952)∧(t.outs.length≤4398046510976∧∀ x ∈ t.outs,x.lock.length≤8796093021952)
def zps (b:Block):Prop:=b.txs.length≤2513169434843∧∀ t ∈ b.txs,zpr t
theorem TxSmall.fit {t:Tx} (h:TxSmall t):zpr t:=⟨⟨by have:=h.ins;omega,fun x hx=>by have:=h.key x hx;omega⟩,by have:=h.outs;omega,fun x hx=>by have:=h.lock x hx;omega⟩
theorem BlockSmall.fit {b:Block} (h:BlockSmall b):zps b:=⟨by have:=h.txs;omega,fun x hx=>(h.each x hx).fit⟩
noncomputable def z9e:za:=spD zpr fun t=>t
theorem zwp (t:Tx) (h:zpr t):z9e [I t.height,.l 3 (t.ins.map eIn),.l 2 (t.outs.map z3b)]=some (eTx t):=ze (p:=zpr) (f:=fun t:Tx=>t) t h
def z0i3:T :=
 .W [.call 10 [11] 0] [] (.W [] [.inr 3 7 6] (.W [.set 7 6 2 [12]] [] (.W [.B .add 6 (zI 1)] [] (.again 0 [14,13]))))
def z0i4:T :=
 .W [.call 10 [14] 0] [] (.W [] [.inr 2 11 10] (.W [.set 11 10 1 [15]] [] (.W [.B .add 10 (zI 1)] [] (.again 1 [17,.v
 16]))))
def z0i5:T :=
 .W [.B .lss 10 9] [] (.ite 12 (.W [] [.inr 2 11 10] (.W [.idx 11 10 0,.idx 11 10 1] [] z0i4)) (.ret [0,7,.v
 11]))
def z0i6:T :=
 .ite 8 (.W [] [.inr 3 7 6] (.W [.idx 7 6 0,.idx 7 6 1,.idx 7 6 2] [] z0i3)) (.W [.len 4] [] (.loop [.c (.i .i64
 0),4] z0i5))
def zmc:T :=
 .W [.call 107 [1] 0] [] (.W [.call 108 [2] 0] [] (.W [.len 3] [] (.loop [zI 0,3] (.W [.B .lss 6 5] [] z0i6))))
attribute [local irreducible] zg8 z6c zdn
theorem z0p2:Meets Tryz.prog z9e 48 ⟨[.agg 3],[(true,[.scal,.pure,.pure])],false⟩:=by
 refine zf (sp:=(zy [(10,z6c),(107,zg8),(108,zdn)])) (sigs:=z05) (cut:=[]) (hints:=[⟨3,[.t 18,.o 9]⟩,⟨8,[.t 35,.o 12]⟩]) (fn:=Tryz.f48) (t:=zmc) (by kernel_rfl) (by kernel_rfl) (by kernel_rfl) ?_ ?_
 ·exact (zr (L:=[(10,z6c),(107,zg8),(108,zdn)]) ⟨z7 rfl z02s,z7 rfl z0ul,z7 rfl z0sa,trivial⟩)
 ·rintro ds rs - h
  obtain ⟨t,ht,rfl,rfl⟩:=zg h;clear h;obtain ⟨⟨h1,h3⟩,h2,h4⟩:=ht;refine ⟨⟨t.ins.length+t.outs.length+1,?_⟩,z1d ⟨rfl,trivial⟩⟩
  show den _ _ zmc [I t.height,.l 3 (t.ins.map eIn),.l 2 (t.outs.map z3b)] []=ret t
  unfold zmc
  repeat' (first|refine dq1 ?_|refine dqk rfl (z0i2 _ (by omega)) ?_|refine dqk rfl (z0dh _ (by omega)) ?_|fail)
  (refine zn (fun (_:Unit) k=>[I k,.l 3 (t.ins.map eIn)]) (fun _ _ _=>t) (fun _ _=>True) () t.ins ?_ ?_ ?_ ?_ ?_;rfl;exact trivial;omega)
  ·rintro _ k c r hx hd hkl - again hag
   repeat' (first|refine dq1 ?_|refine dqc ?_|refine dqm ?_|refine dqk rfl (z9x _ (by have:=h3 c (zY07 hx);omega)) ?_|refine dqT ?_|fail)
   refine z4 (z9v rfl rfl rfl (by omega) (by simp) (by exact hx) rfl) ?_
   repeat' (first|refine dq1 ?_|exact z6 rfl rfl (hag () trivial)|fail)
  ·intro _ _ again
   repeat' (first|refine dq1 ?_|refine dqF ?_|fail)
   (refine zn (fun (_:Unit) k=>[I k,.l 2 (t.outs.map z3b)]) (fun _ _ _=>t) (fun _ _=>True) () t.outs ?_ ?_ ?_ ?_ ?_;rfl;exact trivial;omega)
   ·rintro _ k c r hx hd hkl - again hag
    repeat' (first|refine dq1 ?_|refine dqc ?_|refine dqm ?_|refine dqk rfl (z9x _ (by have:=h4 c (zY07 hx);omega)) ?_|refine dqT ?_|fail)
    refine z4 (z9v rfl rfl rfl (by omega) (by simp) (by exact hx) rfl) ?_
    repeat' (first|refine dq1 ?_|exact z6 rfl rfl (hag () trivial)|fail)
   ·intro _ _ again
    repeat' (first|refine dq1 ?_|exact z5 rfl rfl|refine dqF ?_|fail)
noncomputable def z4p:za:=spD zps fun t=>t
theorem zs9 (b:Block) (h:zps b):z4p [I b.parent,I b.height,I b.work,I b.nonce,.l 3 (b.txs.map eTx)]=some (z09 b):=ze (p:=zps) (f:=fun t:Block=>t) b h
theorem zc2 (b:Block) (h:BlockSmall b):z4p [I b.parent,I b.height,I b.work,I b.nonce,.l 3 (b.txs.map eTx)]=some (z09 b):=zs9 b h.fit
def z0dk:T :=
 .W [.call 81 [10,11,12] 0,.call 81 [10,11,12] 1,.call 81 [10,11,12] 2] [] (.W [] [.inr 3 8 7] (.W [.set 8 7 0 [13,
 .v 14,15]] [] (.W [.B .add 7 (zI 1)] [] (.again 0 [17,16]))))
def z0dl:T :=
 .ite 9 (.W [] [.inr 3 8 7] (.W [.idx 8 7 0,.idx 8 7 1,.idx 8 7 2] [] z0dk)) (.ret [0,1,2,3,8])
def zjb:T :=
 .W [.call 100 [4] 0] [] (.W [.len 5] [] (.loop [zI 0,5] (.W [.B .lss 7 6] [] z0dl)))
attribute [local irreducible] zg9
theorem zjc:Meets Tryz.prog z4p 125 ⟨[.agg 5],[(true,[.scal,.scal,.scal,.scal,.pure])],false⟩:=by
 refine zf (sp:=(zy [(81,z9e),(100,zg9)])) (sigs:=z05) (cut:=[]) (hints:=[⟨3,[.t 12,.o 7]⟩]) (fn:=Tryz.f125) (t:=zjb) (by kernel_rfl) (by kernel_rfl) (by kernel_rfl) ?_ ?_
 ·exact (zr (L:=[(81,z9e),(100,zg9)]) ⟨z7 rfl z0p2,z7 rfl z0um,trivial⟩)
 ·rintro ds rs - h
  obtain ⟨b,hb,rfl,rfl⟩:=zg h;clear h;obtain ⟨h1,h2⟩:=hb;refine ⟨⟨b.txs.length+1,?_⟩,z1d ⟨rfl,rfl,rfl,rfl,trivial⟩⟩
  show den _ _ zjb [I b.parent,I b.height,I b.work,I b.nonce,.l 3 (b.txs.map eTx)] []=ret b
  unfold zjb
  repeat' (first|refine dq1 ?_|refine dqk rfl (z0di _ (by omega)) ?_|fail)
  (refine zn (fun (_:Unit) k=>[I k,.l 3 (b.txs.map eTx)]) (fun _ _ _=>b) (fun _ _=>True) () b.txs ?_ ?_ ?_ ?_ ?_;rfl;exact trivial;omega)
  ·rintro _ k c r hx hd hkl - again hag
   repeat' (first|refine dq1 ?_|refine dqc ?_|refine dqm ?_|refine dqK rfl (zwp c (h2 c (zY07 hx))) ?_|refine dqT ?_|fail)
   refine z4 (z9v rfl rfl rfl (by omega) (by simp) (by exact hx) rfl) ?_
   repeat' (first|refine dq1 ?_|exact z6 rfl rfl (hag () trivial)|fail)
  ·intro _ _ again
   repeat' (first|refine dq1 ?_|exact z5 rfl rfl|refine dqF ?_|fail)
noncomputable def zbg:za:=spD TreeSmall fun t=>t
theorem zsa (t:Tree) (h:TreeSmall t):zbg [.l 1 (t.names.map zk),.l 5 (t.blocks.map z09)]=some (zb8 t):=ze (p:=TreeSmall) (f:=fun t:Tree=>t) t h
def z06a:T :=
 .W [] [.inr 5 6 5] (.W [.set 6 5 0 [13,14,15,16,17]] [] (.W [.B .add 5 (zI 1)] [] (.again 0 [19,18])))
def z06b:T :=
 .W [.call 106 [8,9,10,11,12] 0,.call 106 [8,9,10,11,12] 1,.call 106 [8,9,10,11,12] 2,.call 106 [8,9,10,.v
 11,12] 3,.call 106 [8,9,10,11,12] 4] [] z06a
def z06c:T :=
 .W [] [.inr 5 6 5] (.W [.idx 6 5 0,.idx 6 5 1,.idx 6 5 2,.idx 6 5 3,.idx 6 5 4] [] z06b)
def z06d:T :=
 .W [.call 105 [1] 0] [] (.W [.len 3] [] (.loop [zI 0,3] (.W [.B .lss 5 4] [] (.ite 7 z06c (.ret [2,6])))))
def zh3:T :=
 .W [.call 75 [0] 0] [] z06d
attribute [local irreducible] zdo zax
theorem z0i7:Meets Tryz.prog zbg 124 ⟨[.agg 2],[(true,[.fresh 3 1,.fresh 49 5])],false⟩:=by
 refine zf (sp:=(zy [(75,zax),(105,zdo),(106,z4p)])) (sigs:=z05) (cut:=[]) (hints:=[⟨3,[.t 16,.o 10]⟩]) (fn:=Tryz.f124) (t:=zh3) (by kernel_rfl) (by kernel_rfl) (by kernel_rfl) ?_ ?_
 ·exact (zr (L:=[(75,zax),(105,zdo),(106,z4p)]) ⟨z7 rfl z0s8,z7 rfl z0sb,z7 rfl zjc,trivial⟩)
 ·rintro ds rs - h
  obtain ⟨t,ht,rfl,rfl⟩:=zg h;clear h;have h1:=ht.names;have h2:=ht.blocks;refine ⟨⟨t.blocks.length+1,?_⟩,z1d trivial⟩
  show den _ _ zh3 [.l 1 (t.names.map zk),.l 5 (t.blocks.map z09)] []=ret t
  unfold zh3
  repeat' (first|refine dq1 ?_|refine dqk rfl (z0df _ (by omega)) ?_|refine dqk rfl (z0dj _ (by omega)) ?_|fail)
  (refine zn (fun (_:Unit) k=>[I k,.l 5 (t.blocks.map z09)]) (fun _ _ _=>t) (fun _ _=>True) () t.blocks ?_ ?_ ?_ ?_ ?_;rfl;exact trivial;omega)
  ·rintro _ k c r hx hd hkl - again hag
   repeat' (first|refine dq1 ?_|refine dqc ?_|refine dqm ?_|refine dqK rfl (zc2 c (ht.each c (zY07 hx))) ?_|refine dqT ?_|fail)
   refine z4 (z9v rfl rfl rfl (by omega) (by simp) (by exact hx) rfl) ?_
   repeat' (first|refine dq1 ?_|exact z6 rfl rfl (hag () trivial)|fail)
  ·intro _ _ again
   repeat' (first|refine dq1 ?_|exact z5 rfl rfl|refine dqF ?_|fail)
noncomputable def z56:za:=spD (fun _:List Int × Int=>True) fun x=>z1o x.1 x.2
theorem z8k (l:List Int) (n:Int):z56 [.l 1 (l.map zk),I n]=some [.b (z1o l n)]:=ze (f:=fun x:List Int × Int=>z1o x.1 x.2) (l,n) trivial
def zsb:T :=
 .W [.call 77 [0,1] 0] [] (.W [.B .geq 2 (zI 0)] [] (.ret [3]))
attribute [local irreducible] z1c
theorem zkm:Meets Tryz.prog z56 38 ⟨[.one,.one],[(false,[.scal])],true⟩:=by
 refine zf (sp:=(zy [(77,z1c)])) (sigs:=z05) (cut:=[]) (hints:=[]) (fn:=Tryz.f38) (t:=zsb) (by kernel_rfl) (by kernel_rfl) (by kernel_rfl) ?_ ?_
 ·exact (zr (L:=[(77,z1c)]) ⟨z7 rfl z7s,trivial⟩)
 ·rintro ds rs - h
  obtain ⟨⟨l,n⟩,-,rfl,rfl⟩:=zg h;clear h;refine ⟨⟨1,?_⟩,z04 rfl⟩
  show den _ _ zsb [.l 1 (l.map zk),I n] []=ret (z1o l n)
  have e:z1o l n=decide (idx l n ≥ 0):=by
   unfold z1o
   by_cases h:n ∈ l
   ·rw [decide_eq_true h,decide_eq_true ((zav l n).2 h)]
   ·rw [decide_eq_false h,decide_eq_false fun k=>h ((zav l n).1 k)]
  rw [e];unfold zsb
  repeat' (first|refine dq1 ?_|refine dqk rfl (z3f l n) ?_|exact z5 rfl rfl|fail)
def zux (x:Tree × Block × Int):Prop:=0≤x.2.2∧x.2.2≤x.1.names.length∧x.1.names.length=x.1.blocks.length∧∀ b ∈ x.1.blocks.take x.2.2.toNat,0≤b.height∧b.height≤1000
noncomputable def z66:za:=spD zux fun x=>z1t x.1.names x.1.blocks x.2.1 x.2.2.toNat
theorem zga (t:Tree) (b:Block) (m:Nat) (h1:m≤t.names.length) (h2:t.names.length=t.blocks.length) (h3:∀ b ∈ t.blocks.take m,0≤b.height∧b.height≤1000):z66 [.l 1 (t.names.map zk),.l 5 (t.blocks.map z09),I b.parent,I b.height,I b.work,I b.nonce,.l 3 (b.txs.map eTx),I m]=some [I (z1t t.names t.blocks b m)] :=
 ze (p:=zux) (f:=fun x:Tree × Block × Int=>z1t x.1.names x.1.blocks x.2.1 x.2.2.toNat) (t,b,(m:Int)) ⟨by simp only;omega,by simp only;omega,h2,by simpa using h3⟩
def z06e:T :=
 .W [.idx 1 10 1] [] (.W [.B .add 12 (zI 1)] [] (.W [.B .neq 3 13] [] (.ite 14 (.ret [zI 4]) (.ret [zI 0]))))
def z06f:T :=
 .W [.call 77 [9,2] 0] [] (.W [.B .lss 10 (zI 0)] [] (.ite 11 (.ret [zI 5]) (.W [] [.inr 5 1 10] z06e)))
def z06g:T :=
 .ite 8 (.W [.sub 1 0 none (some 7)] [] z06f) (.W [.B .add (zI 0) (zI 1)] [] (.W [.B .neq 3 9] [] (.ite 10
 (.ret [zI 4]) (.ret [zI 0]))))
def zh4:T :=
 .W [.B .neq 2 (zI 0)] [] z06g
theorem zpt:Meets Tryz.prog z66 123 ⟨[.agg 2,.agg 5,.one],[(false,[.scal])],true⟩:=by
 refine zf (sp:=(zy [(77,z1c)])) (sigs:=z05) (cut:=[]) (hints:=[]) (fn:=Tryz.f123) (t:=zh4) (by kernel_rfl) (by kernel_rfl) (by kernel_rfl) ?_ ?_
 ·exact (zr (L:=[(77,z1c)]) ⟨z7 rfl z7s,trivial⟩)
 ·rintro ds rs - h
  obtain ⟨⟨t,b,m⟩,⟨h1,h2,h3,h4⟩,rfl,rfl⟩:=zg h;clear h;simp only at h1 h2 h3 h4;refine ⟨⟨1,?_⟩,z04 rfl⟩
  show den _ _ zh4 [.l 1 (t.names.map zk),.l 5 (t.blocks.map z09),I b.parent,I b.height,I b.work,I b.nonce,.l 3 (b.txs.map eTx),I m] []=ret (z1t t.names t.blocks b m.toNat)
  have e:z1t t.names t.blocks b m.toNat=if b.parent≠0 then (if idx (t.names.take m.toNat) b.parent<0 then 5 else if b.height≠(zx t.blocks (idx (t.names.take m.toNat) b.parent)).height+1 then 4 else 0) else (if b.height≠0+1 then 4 else 0):=by
   unfold z1t
   by_cases h:b.parent=0
   ·rw [if_pos h,if_neg (show ¬ b.parent≠0 from fun k=>k h)];rfl
   ·rw [if_neg h,if_pos (show b.parent≠0 from h)]
  rw [e];clear e;unfold zh4;have a1:=z3f (t.names.take m.toNat) b.parent;have hb:=zfr (t.names.take m.toNat) b.parent;rw [zY0f] at hb;have hat:¬ idx (t.names.take m.toNat) b.parent<0→t.blocks[(idx (t.names.take m.toNat) b.parent).toNat]? = some (zx t.blocks (idx (t.names.take m.toNat) b.parent))∧0≤(zx t.blocks (idx (t.names.take m.toNat) b.parent)).height∧(zx t.blocks (idx (t.names.take m.toNat) b.parent)).height≤1000∧idx (t.names.take m.toNat) b.parent<t.blocks.length:=by
   intro hn;obtain ⟨i,hi,his⟩:=zg3 (show 0≤idx (t.names.take m.toNat) b.parent by omega);have hil:=(zY02.1 his).1;rw [zY0f] at hil;have hlt:(idx (t.names.take m.toNat) b.parent).toNat<t.blocks.length:=by omega
   have e1:t.blocks[(idx (t.names.take m.toNat) b.parent).toNat]? = some (zx t.blocks (idx (t.names.take m.toNat) b.parent)):=by
    unfold zx;rw [zY03 hlt,zY1o]
   suffices hm:zx t.blocks (idx (t.names.take m.toNat) b.parent) ∈ t.blocks.take m.toNat from ⟨e1,(h4 _ hm).1,(h4 _ hm).2,by omega⟩
   refine zY07 (i:=(idx (t.names.take m.toNat) b.parent).toNat) ?_;rw [zY18,if_pos (by omega)];exact e1
  generalize idx (t.names.take m.toNat) b.parent=j at *;have hl:(t.names.take m.toNat).map zk=(t.names.map zk).take m.toNat:=zY3t;generalize zx t.blocks j=x at *;rw [hl] at a1;refine z4 (zbp rfl rfl) ?_;refine tR (fun h=>?_) (fun h=>?_)
  rotate_left
  ·repeat' (first|refine dq1 ?_|exact z5 rfl rfl|refine tR (fun h=>?_) fun h=>?_|fail)
  ·refine z4 (d:=.l 1 ((t.names.map zk).take m.toNat)) ?_ ?_
   ·simp [denX,Atom.val,bndI,asI,h1,h2]
   refine dqk rfl a1 ?_;refine z4 (z02f rfl rfl) ?_;refine tR (fun h=>?_) (fun h=>?_)
   ·repeat' (first|exact z5 rfl rfl|fail)
   ·obtain ⟨hx,g1,g2,g3⟩:=hat h
    repeat' (first|refine dq1 ?_|refine dqc ?_|exact z5 rfl rfl|refine tR (fun h=>?_) fun h=>?_|fail)
noncomputable def z44:za:=spD (fun _:Tree=>True) fun t=>zl t
theorem za8 (t:Tree):z44 [.l 1 (t.names.map zk),.l 5 (t.blocks.map z09)]=some [I (zl t)]:=ze (f:=fun t:Tree=>zl t) t trivial
theorem z06h (t:Tree):zl t=if (t.names.length:Int)≠t.blocks.length then 4 else if (t.names.length:Int) > 24 then 2 else z3m t.names t.blocks 0 t.blocks.length:=by
 have e:zl t=if t.names.length≠t.blocks.length then 4 else if 24<t.names.length then 2 else z3m t.names t.blocks 0 t.names.length:=by with_unfolding_all rfl
 by_cases h:t.names.length=t.blocks.length
 ·have e2:zl t=if 24<t.names.length then 2 else z3m t.names t.blocks 0 t.names.length:=by rw [e];exact if_neg (fun k=>k h)
  by_cases h2:24<t.names.length
  ·rw [e2,if_pos h2,if_neg (show ¬ (t.names.length:Int)≠t.blocks.length by omega),if_pos (by omega)]
  ·rw [e2,if_neg h2,if_neg (show ¬ (t.names.length:Int)≠t.blocks.length by omega),if_neg (by omega),h]
 ·rw [e,if_pos h,if_pos (by omega)]
def zwq:T :=
 .W [.call 102 [0,1,11,12,13,14,15,9] 0] [] (.W [.B .neq 23 (zI 0)] [] (.ite 24 (.ret [23]) (.W [.B .add 9 (.c
 (.i .i64 1))] [] (.again 0 [8,25]))))
def zwr:T :=
 .ite 20 (.ret [19]) (.W [.sub 1 0 none (some 9)] [] (.W [.call 101 [21,16] 0] [] (.ite 22 (.ret [zI 6]) zwq)))
def zws:T :=
 .W [.B .gtr 16 (zI 120)] [] (.ite 18 (.ret [zI 3]) (.W [.call 64 [11,12,13,14,15] 0] [] (.W [.B .neq 19 (.c (.i
 .i64 0))] [] zwr)))
def zwt:T :=
 .W [] [.inr 1 0 9] (.W [.idx 0 9 0] [] (.W [.B .lss 16 (zI 1)] [] (.ite 17 (.ret [zI 3]) zws)))
def zwu:T :=
 .W [] [.inr 5 1 9] (.W [.idx 1 9 0,.idx 1 9 1,.idx 1 9 2,.idx 1 9 3,.idx 1 9 4] [] zwt)
def zwv:T :=
 .ite 6 (.ret [zI 2]) (.W [.len 1] [] (.loop [zI 0,zI 0] (.W [.B .lss 9 7] [] (.ite 10 zwu (.ret [.c (.i
 .i64 0)])))))
def zww:T :=
 .W [.len 1] [] (.W [.B .neq 2 3] [] (.ite 4 (.ret [zI 4]) (.W [.len 0] [] (.W [.B .gtr 5 (zI 24)] []
 zwv))))
def zf8:T :=
 .W [.len 0] [] zww
attribute [local irreducible] z4u z66
theorem zf9:Meets Tryz.prog z44 121 ⟨[.agg 2],[(false,[.scal])],true⟩:=by
 refine zf (sp:=(zy [(64,z4u),(101,z56),(102,z66)])) (sigs:=z05) (cut:=[]) (hints:=[⟨6,[.t 2,.t 22]⟩]) (fn:=Tryz.f121) (t:=zf8) (by kernel_rfl) (by kernel_rfl) (by kernel_rfl) ?_ ?_
 ·exact (zr (L:=[(64,z4u),(101,z56),(102,z66)]) ⟨z7 rfl zpo,z7 rfl zkm,z7 rfl zpt,trivial⟩)
 ·rintro ds rs - h
  obtain ⟨t,-,rfl,rfl⟩:=zg h;clear h;refine ⟨⟨t.blocks.length+1,?_⟩,z04 rfl⟩
  show den _ _ zf8 [.l 1 (t.names.map zk),.l 5 (t.blocks.map z09)] []=ret (zl t)
  rw [z06h];unfold zf8
  repeat' (first|refine dq1 ?_|exact z5 rfl rfl|refine tR (fun h=>?_) fun h=>?_|fail)
  (refine zn (fun (_:Unit) k=>[I 0,I k]) (fun _ k (r:List Block)=>z3m t.names t.blocks k r.length) (fun _ k=>∀ x ∈ t.blocks.take k,0≤x.height∧x.height≤1000) () t.blocks ?_ ?_ ?_ ?_ ?_;rfl;exact (fun x hx=>by simp at hx);exact zY29 _)
  ·rintro _ k b r hx hd hkl hI again hag
   have hb:zx t.blocks (k:Int)=b:=by unfold zx;rw [zY21,hx];rfl
   have hnl:k<t.names.length:=by omega
   obtain ⟨nm,hn⟩:∃ nm,t.names[k]? = some nm:=⟨_,zY03 hnl⟩
   have hna:z10 t.names k=nm:=by unfold z10;rw [hn];rfl
   rw [zY0a,z0dg,hb,hna];have a1:=zg6 b;have a2:=z8k (t.names.take k) nm;have a3:=zga t b k (by omega) (by omega) hI;rw [zY3t] at a2;have hn2:t.names[((k:Nat):Int).toNat]? = some nm:=by rw [zY21];exact hn
   have hx2:t.blocks[((k:Nat):Int).toNat]? = some b:=by rw [zY21];exact hx
   have hcut:∀ E:Env,E[0]? = some (.l 1 (t.names.map zk))→E[9]? = some (I (k:Int))→denX (fun _ _=>none) E (.sub 1 (.v 0) none (some (.v 9)))=some (.l 1 ((t.names.map zk).take k)):=by
    intro E h0 h9;simp [denX,Atom.val,bndI,asI,h0,h9];omega
   repeat' (first|refine dq1 ?_|refine dqc ?_|refine dqm ?_|refine dqk rfl (a1) ?_|exact z5 rfl rfl|refine tR (fun h=>?_) fun h=>?_|refine dqT ?_|fail)
   refine z4 (d:=.l 1 ((t.names.map zk).take k)) (by simp [denX,Atom.val,bndI,asI];omega) ?_
   repeat' (first|refine dq1 ?_|refine dqk rfl (a2) ?_|refine dqk rfl (a3) ?_|exact z5 rfl rfl|((first|refine tR ?_ ?_|refine tB ?_ ?_) <;> intro h)|fail)
   refine z6 rfl rfl (hag () ?_);have hok:zb b=0:=zY0u.1 (by assumption);intro x hxm;rw [List.take_add_one,hx] at hxm;rcases zY12.1 hxm with hm|hm
   ·exact hI x hm
   ·simp only [Option.toList,zY13] at hm
    subst hm;exact za6 hok
  ·intro _ _ again
   repeat' (first|refine dq1 ?_|exact z5 rfl rfl|refine dqF ?_|fail)
noncomputable def zer:za:=spD (fun x:Tree × Int=>TreeOK x.1.names x.1.blocks∧(x.2=0∨0≤idx x.1.names x.2)) fun x=>z19 x.1.names x.1.blocks x.2
theorem z06i (t:Tree) (m:Int) (ok:TreeOK t.names t.blocks) (hm:m=0∨0≤idx t.names m):zer [.l 1 (t.names.map zk),.l 5 (t.blocks.map z09),I m]=some [.l 1 ((z19 t.names t.blocks m).map zk)]:=ze (p:=fun x:Tree × Int=>TreeOK x.1.names x.1.blocks∧(x.2=0∨0≤idx x.1.names x.2)) (f:=fun x:Tree × Int=>z19 x.1.names x.1.blocks x.2) (t,m) ⟨ok,hm⟩
theorem zmd {t:Tree} (ok:TreeOK t.names t.blocks) {m:Int} (hm:0≤idx t.names m):t.blocks[(idx t.names m).toNat]? = some (zx t.blocks (idx t.names m))∧idx t.names m<t.blocks.length:=by
 obtain ⟨j,hj,hjs⟩:=zg3 hm;have hlt:=(zY02.1 hjs).1;have hl:=ok.len;refine ⟨?_,by omega⟩;unfold zx;rw [zY03 (by omega),zY1o]
def z0i8:T :=
 .W [.mk 1 [[4]]] [] (.W [.app 1 3 6] [] (.W [.call 77 [0,4] 0] [] (.W [] [.inr 5 1 8] (.W [.idx 1 8 0] [] (.again 0 [7,.v
 9])))))
def zme:T :=
 .loop [.c (.nil 1),2] (.W [.B .neq 4 (zI 0)] [] (.ite 5 z0i8 (.W [.call 76 [3] 0] [] (.ret [6]))))
attribute [local irreducible] z9d
theorem z0p3:Meets Tryz.prog zer 122 ⟨[.agg 2,.one],[(false,[.fresh 3 1])],false⟩:=by
 refine zf (sp:=(zy [(76,z9d),(77,z1c)])) (sigs:=z05) (cut:=[]) (hints:=[⟨2,[.r 5 3 1,.t 1]⟩]) (fn:=Tryz.f122) (t:=zme) (by kernel_rfl) (by kernel_rfl) (by kernel_rfl) ?_ ?_
 ·exact (zr (L:=[(76,z9d),(77,z1c)]) ⟨z7 rfl z0p1,z7 rfl z7s,trivial⟩)
 ·rintro ds rs - h
  obtain ⟨⟨t,m⟩,⟨ok,hm⟩,rfl,rfl⟩:=zg h;clear h;simp only at ok hm;refine ⟨⟨t.names.length+1,?_⟩,z1d trivial⟩
  show den _ _ zme [.l 1 (t.names.map zk),.l 5 (t.blocks.map z09),I m] []=ret (z19 t.names t.blocks m)
  unfold zme;have hz:∀ n,up t.names t.blocks n 0=[]:=fun n=>by cases n with
   | zero=>rfl
   | succ n=>rw [up,if_pos rfl]
  have hle:=ok.le;have hrl:z43 t.names m≤t.names.length:=by
   rcases hm with h|h
   ·unfold z43;rw [if_pos h];omega
   ·have:=(zmd ok h).2
    have:=ok.len;unfold z43;split <;> omega
  refine z0lt (fun s:List Int × Int=>[.l 1 (s.1.map zk),I s.2]) (fun s=>(s.1++up t.names t.blocks t.names.length s.2).reverse) (fun s=>z43 t.names s.2) (fun s=>(s.2=0∨0≤idx t.names s.2)∧s.1.length+z43 t.names s.2≤24) ([],m) rfl ⟨hm,by simp only [zY0q];omega⟩ (by simp only;omega) ?_;rintro ⟨acc,m⟩ ⟨hm,hl⟩ again hag;simp only at hm hl hag ⊢
  by_cases h:m=0
  ·subst h
   rw [hz,zY1e];have a1:=z063 acc;refine z4 (zbp rfl rfl) ?_;refine dqF ?_ rfl (fun k=>k rfl)
   repeat' (first|refine dqk rfl (a1) ?_|exact z5 rfl rfl|fail)
  ·have hi:0≤idx t.names m:=hm.resolve_left h
   obtain ⟨u1,u2,u3⟩:=z0s9 ok h hi;obtain ⟨b1,b2⟩:=zmd ok hi;have hr:=ok.rem h hi;have a1:=z3f t.names m;rw [u2];refine z4 (zbp rfl rfl) ?_;refine dqT ?_ rfl h
   repeat' (first|refine dq1 ?_|refine dqc ?_|refine dqk rfl (a1) ?_|fail)
   have:=hag (acc++[m],z0p t.names t.blocks m) ⟨u3,by simp only [zY04,zY1i];omega⟩ hr;simp only [zY1b,zY2x] at this;exact z6 rfl rfl this
noncomputable def z67:za:=spD (fun _:Tree × Int=>True) fun x=>z31 x.1 x.2
theorem zgb (t:Tree) (m:Int):z67 [.l 1 (t.names.map zk),.l 5 (t.blocks.map z09),I m]=some [.l 1 ((z31 t m).1.map zk),I (z31 t m).2]:=ze (f:=fun x:Tree × Int=>z31 x.1 x.2) (t,m) trivial
theorem z0lu (t:Tree) (m:Int):z31 t m=if zl t≠0 then ([],zl t) else if m≠0 then (if z1o t.names m=false then ([],5) else (z19 t.names t.blocks m,0)) else (z19 t.names t.blocks m,0):=by
 with_unfolding_all unfold z31
 by_cases h:zl t≠0
 ·rw [if_pos h,if_pos h]
 rw [if_neg h,if_neg h]
 by_cases h2:m=0
 ·rw [if_neg (by omega),if_neg (fun k=>k h2)]
 rw [if_pos h2];have hi:=zav t.names m
 by_cases h3:m ∈ t.names
 ·rw [if_neg (by have:=hi.2 h3;omega),if_neg (by unfold z1o;simp [h3])]
 ·rw [if_pos ⟨h2,by apply Classical.byContradiction;intro hc;exact h3 (hi.1 (by omega))⟩,if_pos (by unfold z1o;simp [h3])]
def z06j:T :=
 .W [.call 101 [0,2] 0] [] (.W [.not 6] [] (.ite 7 (.ret [.c (.nil 1),zI 5]) (.W [.call 104 [0,1,2] 0] [] (.ret [8,.c (.i .i64
 0)]))))
def z06k:T :=
 .ite 4 (.ret [.c (.nil 1),3]) (.W [.B .neq 2 (zI 0)] [] (.ite 5 z06j (.W [.call 104 [0,1,2] 0] [] (.ret [6,.c (.i .i64
 0)]))))
def zh5:T :=
 .W [.call 103 [0,1] 0] [] (.W [.B .neq 3 (zI 0)] [] z06k)
theorem zpu:Meets Tryz.prog z67 84 ⟨[.agg 2,.one],[(false,[.pure]),(false,[.scal])],false⟩:=by
 refine zf (sp:=(zy [(101,z56),(103,z44),(104,zer)])) (sigs:=z05) (cut:=[]) (hints:=[]) (fn:=Tryz.f84) (t:=zh5) (by kernel_rfl) (by kernel_rfl) (by kernel_rfl) ?_ ?_
 ·exact (zr (L:=[(101,z56),(103,z44),(104,zer)]) ⟨z7 rfl zkm,z7 rfl zf9,z7 rfl z0p3,trivial⟩)
 ·rintro ds rs - h
  obtain ⟨⟨t,m⟩,-,rfl,rfl⟩:=zg h;clear h;refine ⟨⟨1,?_⟩,z1d ⟨rfl,trivial⟩⟩
  show den _ _ zh5 [.l 1 (t.names.map zk),.l 5 (t.blocks.map z09),I m] []=ret (z31 t m)
  rw [z0lu];unfold zh5;have a1:=za8 t;have a2:=z8k t.names m;have a3:=z06i t m;have hok:=(z2j t.names t.blocks).1;have hin:z1o t.names m=true→0≤idx t.names m:=(zh1 _ _).1;generalize z1o t.names m=d at *;refine dqk rfl a1 ?_;refine z4 (zbp rfl rfl) ?_;refine tR (fun h=>?_) (fun h=>?_)
  ·repeat' (first|exact z5 rfl rfl|fail)
  have h:=zY0u.1 h;have ok:=hok h;refine z4 (zbp rfl rfl) ?_;refine tR (fun h=>?_) (fun h=>?_)
  rotate_left
  ·have a3:=a3 ok (.inl (zY0u.1 h))
   repeat' (first|refine dqk rfl (a3) ?_|exact z5 rfl rfl|fail)
  ·refine dqk rfl a2 ?_
   refine z4 (z0kr rfl) ?_
   cases d with
   | true =>
    have a3:=a3 ok (.inr (hin rfl));rw [if_neg (by decide)]
    repeat' (first|refine dqk rfl (a3) ?_|exact z5 rfl rfl|refine z0l rfl ?_|fail)
   | false =>
    rw [if_pos rfl]
    repeat' (first|exact z5 rfl rfl|refine z0a rfl ?_|fail)
noncomputable def z7t:za:=spD (fun _:Tree × Int=>True) fun x=>(z3n x.1 x.2,z76 x.1 x.2)
theorem zpv (t:Tree) (m:Int):z7t [.l 1 (t.names.map zk),.l 5 (t.blocks.map z09),I m]=some (z09 (z3n t m)++[I (z76 t m)]):=ze (f:=fun x:Tree × Int=>(z3n x.1 x.2,z76 x.1 x.2)) (t,m) trivial
theorem zuy {t:Tree} (ok:TreeOK t.names t.blocks) {b:Block} (hb:b ∈ t.blocks):BlockSmall b:=by
 have bk:=z1p (zhr (t:=t) ((z2j t.names t.blocks).2 ok) b hb);exact ⟨by have:=bk.len;omega,fun x hx=>zhq (bk.each x hx)⟩
theorem z0i9 {t:Tree} (ok:TreeOK t.names t.blocks):TreeSmall t:=by
 have:=ok.len;have:=ok.le;exact ⟨by omega,by omega,fun b hb=>zuy ok hb⟩
def zwx:T :=
 .W [.call 106 [7,8,9,10,11] 0,.call 106 [7,8,9,10,11] 1,.call 106 [7,8,9,10,11] 2,.call 106 [7,8,9,10,
 .v 11] 3,.call 106 [7,8,9,10,11] 4] [] (.ret [12,13,14,15,16,zI 0])
def zwy:T :=
 .W [] [.inr 5 1 5] (.W [.idx 1 5 0,.idx 1 5 1,.idx 1 5 2,.idx 1 5 3,.idx 1 5 4] [] zwx)
def zwz:T :=
 .W [.B .lss 5 (zI 0)] [] (.ite 6 (.ret [zI 0,zI 0,zI 0,zI 0,.c (.nil 3),zI 5]) zwy)
def zx0:T :=
 .W [.B .neq 3 (zI 0)] [] (.ite 4 (.ret [zI 0,zI 0,zI 0,zI 0,.c (.nil 3),3]) (.W [.call 77 [0,2] 0]
 [] zwz))
def zfa:T :=
 .W [.call 103 [0,1] 0] [] zx0
theorem z0dm:Meets Tryz.prog z7t 89 ⟨[.agg 2,.one],[(true,[.scal,.scal,.scal,.scal,.pure]),(false,[.scal])],false⟩:=by
 refine zf (sp:=(zy [(77,z1c),(103,z44),(106,z4p)])) (sigs:=z05) (cut:=[]) (hints:=[]) (fn:=Tryz.f89) (t:=zfa) (by kernel_rfl) (by kernel_rfl) (by kernel_rfl) ?_ ?_
 ·exact (zr (L:=[(77,z1c),(103,z44),(106,z4p)]) ⟨z7 rfl z7s,z7 rfl zf9,z7 rfl zjc,trivial⟩)
 ·rintro ds rs - h
  obtain ⟨⟨t,m⟩,-,rfl,rfl⟩:=zg h;clear h;refine ⟨⟨1,?_⟩,z1d ⟨rfl,rfl,rfl,rfl,rfl,trivial⟩⟩
  show den _ _ zfa [.l 1 (t.names.map zk),.l 5 (t.blocks.map z09),I m] []=ret (z3n t m,z76 t m)
  have a1:=za8 t;have a2:=z3f t.names m;have hok:=(z2j t.names t.blocks).1;have hat:=fun ok h=>@zmd t ok m h
  have e:(z3n t m,z76 t m)=if zl t≠0 then (zbt,zl t) else if idx t.names m<0 then (zbt,5) else (zx t.blocks (idx t.names m),0):=by
   with_unfolding_all unfold z3n z76
   by_cases h:zl t≠0
   ·rw [if_pos h,if_neg h,if_pos h]
   ·rw [if_neg h]
    by_cases h2:idx t.names m<0
    ·rw [if_pos h2,if_neg (by decide),if_neg h,if_pos h2]
    ·rw [if_neg h2,if_pos rfl,if_neg h,if_neg h2]
  rw [e];clear e;unfold zfa;generalize idx t.names m=j at *;refine dqk rfl a1 ?_;refine z4 (zbp rfl rfl) ?_;refine tR (fun h=>?_) (fun h=>?_)
  ·repeat' (first|exact z5 rfl rfl|fail)
  have h:=zY0u.1 h;have ok:=hok h;refine dqk rfl a2 ?_;refine z4 (z02f rfl rfl) ?_;refine tR (fun h=>?_) (fun h=>?_)
  ·repeat' (first|exact z5 rfl rfl|fail)
  obtain ⟨b1,b2⟩:=hat ok (by omega);have hle:=ok.le;have a3:=zc2 _ (zuy ok (zY07 b1));generalize zx t.blocks j=b at *
  repeat' (first|refine dqc ?_|refine dqm ?_|refine dqK rfl (a3) ?_|exact z5 rfl rfl|fail)
noncomputable def za9:za:=spD (fun _:Tree × Int × Block=>True) fun x=>(z4g x.1 x.2.1 x.2.2,z4f x.1 x.2.1 x.2.2)
theorem zht (t:Tree) (m:Int) (b:Block):za9 [.l 1 (t.names.map zk),.l 5 (t.blocks.map z09),I m,I b.parent,I b.height,I b.work,I b.nonce,.l 3 (b.txs.map eTx)]=some [.l 1 ((z4g t m b).names.map zk),.l 5 ((z4g t m b).blocks.map z09),I (z4f t m b)]:=ze (f:=fun x:Tree × Int × Block=>(z4g x.1 x.2.1 x.2.2,z4f x.1 x.2.1 x.2.2)) (t,m,b) trivial
theorem z0dn (t:Tree) (name:Int) (b:Block):(z4g t name b,z4f t name b)=if zl t≠0 then ((⟨[],[]⟩:Tree),zl t) else if name<1 then (⟨[],[]⟩,3) else if name > 120 then (⟨[],[]⟩,3) else if zb b≠0 then (⟨[],[]⟩,zb b) else if z1o t.names name=true then (⟨[],[]⟩,6) else if z1t t.names t.blocks b t.names.length≠0 then (⟨[],[]⟩,z1t t.names t.blocks b t.names.length) else if (t.names.length:Int)=24 then (⟨[],[]⟩,12) else (⟨t.names++[name],t.blocks++[b]⟩,0):=by
 have key:∀ e,z4f t name b=e→e≠0→(z4g t name b,z4f t name b)=(⟨[],[]⟩,e):=by
  intro e h h0
  with_unfolding_all unfold z4g
  rw [h,if_neg h0]
 by_cases h1:zl t≠0
 ·rw [if_pos h1]
  exact key _ (by with_unfolding_all exact if_pos h1) h1
 have e1:z4f t name b=if zg5 name=true then 3 else if zb b≠0 then zb b else if z1o t.names name=true then 6 else if z1t t.names t.blocks b t.names.length≠0 then z1t t.names t.blocks b t.names.length else if (t.names.length:Int)=24 then 12 else 0:=by with_unfolding_all exact if_neg h1
 rw [if_neg h1]
 by_cases h2:name<1
 ·rw [if_pos h2]
  exact key _ (by rw [e1,if_pos (by unfold zg5;exact decide_eq_true (.inl h2))]) (by decide)
 rw [if_neg h2]
 by_cases h3:name > 120
 ·rw [if_pos h3]
  exact key _ (by rw [e1,if_pos (by unfold zg5;exact decide_eq_true (.inr h3))]) (by decide)
 rw [if_neg h3];rw [if_neg (by unfold zg5;rw [decide_eq_true_iff];omega)] at e1
 by_cases h4:zb b≠0
 ·rw [if_pos h4]
  exact key _ (by rw [e1,if_pos h4]) h4
 rw [if_neg h4];rw [if_neg h4] at e1
 by_cases h5:z1o t.names name=true
 ·rw [if_pos h5]
  exact key _ (by rw [e1,if_pos h5]) (by decide)
 rw [if_neg h5];rw [if_neg h5] at e1
 by_cases h6:z1t t.names t.blocks b t.names.length≠0
 ·rw [if_pos h6]
  exact key _ (by rw [e1,if_pos h6]) h6
 rw [if_neg h6];rw [if_neg h6] at e1
 by_cases h7:(t.names.length:Int)=24
 ·rw [if_pos h7]
  exact key _ (by rw [e1,if_pos h7]) (by decide)
 rw [if_neg h7];rw [if_neg h7] at e1;rw [e1]
 with_unfolding_all unfold z4g
 rw [e1,if_pos rfl]
def z0do:T :=
 .W [.call 106 [3,4,5,6,7] 0,.call 106 [3,4,5,6,7] 1,.call 106 [3,4,5,6,7] 2,.call 106 [3,4,5,6,7]
 3,.call 106 [3,4,5,6,7] 4] [] (.W [.mk 5 [[24,25,26,27,28]]] [] (.W [.app 5 21 29] [] (.ret [23,30,zI 0])))
def z0dp:T :=
 .ite 19 (.ret [.c (.nil 1),.c (.nil 5),zI 12]) (.W [.call 99 [0,1] 0,.call 99 [0,1] 1] [] (.W [.mk 1 [[2]]] [] (.W [.app 1 20 (.v
 22)] [] z0do)))
def z0dq:T :=
 .W [.B .neq 16 (zI 0)] [] (.ite 17 (.ret [.c (.nil 1),.c (.nil 5),16]) (.W [.len 0] [] (.W [.B .eql 18 (zI 24)] []
 z0dp)))
def z0dr:T :=
 .ite 14 (.ret [.c (.nil 1),.c (.nil 5),zI 6]) (.W [.len 0] [] (.W [.call 102 [0,1,3,4,5,6,7,15] 0] [] z0dq))
def z0ds:T :=
 .W [.call 64 [3,4,5,6,7] 0] [] (.W [.B .neq 12 (zI 0)] [] (.ite 13 (.ret [.c (.nil 1),.c (.nil 5),12]) (.W [.call 101 [0,
 .v 2] 0] [] z0dr)))
def z0dt:T :=
 .ite 10 (.ret [.c (.nil 1),.c (.nil 5),zI 3]) (.W [.B .gtr 2 (zI 120)] [] (.ite 11 (.ret [.c (.nil 1),.c (.nil 5),zI 3])
 z0ds))
def zjd:T :=
 .W [.call 103 [0,1] 0] [] (.W [.B .neq 8 (zI 0)] [] (.ite 9 (.ret [.c (.nil 1),.c (.nil 5),8]) (.W [.B .lss 2 (zI 1)] []
 z0dt)))
theorem z0lv:Meets Tryz.prog za9 86 ⟨[.agg 2,.one,.agg 5],[(true,[.pure,.pure]),(false,[.scal])],false⟩:=by
 refine zf (sp:=(zy [(64,z4u),(99,zbg),(101,z56),(102,z66),(103,z44),(106,z4p)])) (sigs:=z05) (cut:=[]) (hints:=[]) (fn:=Tryz.f86) (t:=zjd) (by kernel_rfl) (by kernel_rfl) (by kernel_rfl) ?_ ?_
 ·exact (zr (L:=[(64,z4u),(99,zbg),(101,z56),(102,z66),(103,z44),(106,z4p)]) ⟨z7 rfl zpo,z7 rfl z0i7,z7 rfl zkm,z7 rfl zpt,z7 rfl zf9,z7 rfl zjc,trivial⟩)
 ·rintro ds rs - h
  obtain ⟨⟨t,m,b⟩,-,rfl,rfl⟩:=zg h;clear h;refine ⟨⟨1,?_⟩,z1d ⟨rfl,trivial⟩⟩
  show den _ _ zjd [.l 1 (t.names.map zk),.l 5 (t.blocks.map z09),I m,I b.parent,I b.height,I b.work,I b.nonce,.l 3 (b.txs.map eTx)] []=ret (z4g t m b,z4f t m b)
  have a1:=za8 t;have a2:=zg6 b;have a3:=z8k t.names m;have hok:=(z2j t.names t.blocks).1;have hbk:=@z1p b;rw [z0dn];unfold zjd;generalize z1o t.names m=d at *;refine dqk rfl a1 ?_;refine z4 (zbp rfl rfl) ?_;refine tR (fun h=>?_) (fun h=>?_)
  ·repeat' (first|exact z5 rfl rfl|fail)
  have h:=zY0u.1 h;have ok:=hok h;have hle:=ok.le;have hll:=ok.len;have a4:=zga t b t.names.length (zY0k _) hll (fun x hx=>za6 (zhr (t:=t) h x (zY2d hx)));have a5:=zsa t (z0i9 ok)
  by_cases hb:zb b=0
  ·have bk:=hbk hb
   have a6:=zc2 b ⟨by have:=bk.len;omega,fun x hx=>zhq (bk.each x hx)⟩;clear hbk;generalize z1t t.names t.blocks b t.names.length=st at *
   repeat' (first|refine dq1 ?_|refine dqk rfl (a2) ?_|refine dqk rfl (a3) ?_|refine dqk rfl (a4) ?_|refine dqK rfl (a5) ?_|refine dqK rfl (a6) ?_|refine z4 (z1m (r:=[z09 b]) rfl rfl (by simp)) ?_|exact z5 rfl rfl|((first|refine tR ?_ ?_|refine tB ?_ ?_) <;> intro h)|fail)
  ·clear hbk
   repeat' (first|refine dq1 ?_|refine dqk rfl (a2) ?_|exact z5 rfl rfl|refine tR (fun h=>?_) fun h=>?_|fail)
   all_goals omega
end
section
open Go.RowKit
set_option maxRecDepth 100000
set_option maxHeartbeats 4000000
section
variable {ρ:Type}
def z36 (h:Int) (bad:Int→ρ) (K:List Coin→List Coin→ρ):List Coin→List Coin→List In→ρ
 | r,s,[]=>K r s
 | r,s,x::xs=>if z1n r x.p=true then
   if ((r[zq r x.p]?).getD z6r).reward=true then
    if h<((r[zq r x.p]?).getD z6r).height+2 then bad 10
    else if (z22 ((r[zq r x.p]?).getD z6r).o.lock x.key h).1=true then z36 h bad K (r.take (zq r x.p)++r.drop (zq r x.p+1)) (s++[(r[zq r x.p]?).getD z6r]) xs else bad 8
   else if (z22 ((r[zq r x.p]?).getD z6r).o.lock x.key h).1=true then z36 h bad K (r.take (zq r x.p)++r.drop (zq r x.p+1)) (s++[(r[zq r x.p]?).getD z6r]) xs else bad 8
  else bad 7
def z2z (nm h:Int) (rw:Bool) (bad:Int→ρ) (K:List Coin→ρ):List Coin→Nat→List Out→ρ
 | r,_,[]=>K r
 | r,i,o::os=>if z1n r ⟨nm,i⟩=true then bad 6 else z2z nm h rw bad K (r.take (zq r ⟨nm,i⟩)++[⟨⟨nm,i⟩,o,h,rw⟩]++r.drop (zq r ⟨nm,i⟩)) (i+1) os
end
def z1j (e:Int):List Coin × List Coin × Int:=([],[],e)
def z5f (s r:List Coin):List Coin × List Coin × Int:=if zd r≠0 then z1j (zd r) else (r,s,0)
def zw (l:List Coin) (t:Tx) (nm h:Int):List Coin × List Coin × Int :=
 if zd l≠0 then z1j (zd l) else if zm t≠0 then z1j (zm t) else
 if nm<1∨120<nm∨h<1∨1000<h then z1j 3 else
 if (t.ins.length:Int)=0 then
  if t.height≠h then z1j 4 else z36 h z1j (fun r s=>z2z nm h (decide ((t.ins.length:Int)=0)) z1j (z5f s) r 0 t.outs) l [] t.ins
 else z36 h z1j (fun r s=>if z0z t s<0 then z1j 9 else z2z nm h (decide ((t.ins.length:Int)=0)) z1j (z5f s) r 0 t.outs) l [] t.ins
section
variable {ρ:Type}
def z018 (nm:Int) (bad:Int→ρ) (K:List Coin→ρ):List Coin→Nat→List Out→ρ
 | r,_,[]=>K r
 | r,i,o::os=>if z1n r ⟨nm,i⟩=true then (if decide (((r[zq r ⟨nm,i⟩]?).getD z6r).o=o)=true then z018 nm bad K (r.take (zq r ⟨nm,i⟩)++r.drop (zq r ⟨nm,i⟩+1)) (i+1) os else bad 7) else bad 7
def z019 (ins:List In) (bad:Int→ρ) (K:List Coin→ρ):List Coin→Nat→List Coin→ρ
 | r,_,[]=>K r
 | r,i,c::cs=>if z1n r c.p=true then bad 6 else if ((ins[i]?).getD ⟨⟨0,0⟩,[]⟩).p≠c.p then bad 6 else z019 ins bad K (r.take (zq r c.p)++[c]++r.drop (zq r c.p)) (i+1) cs
end
def zc3 (e:Int):List Coin × Int:=([],e)
def endR (r:List Coin):List Coin × Int:=if zd r≠0 then zc3 (zd r) else (r,0)
def z57 (l:List Coin) (t:Tx) (nm:Int) (u:List Coin):List Coin × Int :=
 if zd l≠0 then zc3 (zd l) else if zm t≠0 then zc3 (zm t) else if (u.length:Int)≠t.ins.length then zc3 4 else
  z018 nm zc3 (fun r=>z019 t.ins zc3 endR r 0 u) l 0 t.outs
theorem z85 {r:List Coin} (h:z03 r) (k:Nat):z03 (r.take k++r.drop (k+1)):=by
 have:(r.take k++r.drop (k+1))=r.eraseIdx k:=(List.eraseIdx_eq_take_drop_succ r k).symm;rw [this];exact h.sublist (List.eraseIdx_sublist r k)
theorem z6s {r:List Coin} (h:z03 r) {c:Coin} (hc:z1n r c.p=false):z03 (r.take (zq r c.p)++[c]++r.drop (zq r c.p)):=by
 obtain ⟨i1,i2⟩:=zkx h c.p;have hle:=zm5 r c.p;have hne:∀ t (ht:t<r.length),r[t].p≠c.p:=fun t ht he=>by
  have:z1n r c.p=true:=zY34.2 ⟨_,zY1w ht,by simpa using he⟩;rw [this] at hc;cases hc
 unfold z03;rw [zY1b,zY2l];refine ⟨List.Pairwise.sublist (List.take_sublist _ _) h,?_,?_⟩
 ·rw [zY2x,zY1d]
  refine ⟨fun d hd=>?_,List.Pairwise.sublist (List.drop_sublist _ _) h⟩;obtain ⟨t,ht,rfl⟩:=zY2g hd;rw [zY11] at ht;rw [List.getElem_drop];have:=i2 (zq r c.p+t) (by omega) (by omega);rcases zrq c.p r[zq r c.p+t].p with h|h|h
  ·exact h
  ·exact absurd h.symm (hne _ (by omega))
  ·exact absurd h this
 ·intro a ha b hb
  obtain ⟨t,ht,rfl⟩:=zY2g ha;rw [zY0f] at ht;rw [List.getElem_take];have hat:=i1 t (by omega) (by omega);rw [zY2x,zY0g] at hb;rcases hb with rfl|hb
  ·exact hat
  ·obtain ⟨u,hu,rfl⟩:=zY2g hb
   rw [zY11] at hu;rw [List.getElem_drop];have:=i2 (zq r c.p+u) (by omega) (by omega);rcases zrq r[t].p r[zq r c.p+u].p with h|h|h
   ·exact h
   ·exact absurd (h ▸ hat) this
   ·exact absurd (z7m h hat) this
structure SpI (l:List Coin) (st:List Coin × List Coin) (k:Nat):Prop where
 sorted:z03 st.1
 len:st.1.length≤l.length
 good:∀ c ∈ st.1,z4w c=0
 cnt:st.2.length=k
 spent:∀ c ∈ st.2,z4w c=0
theorem SpI.cut {l:List Coin} {r s:List Coin} {k:Nat} {c:Coin} {j:Nat} (h:SpI l (r,s) k) (hc:r[j]? = some c):SpI l (r.take j++r.drop (j+1),s++[c]) (k+1):=by
 refine ⟨z85 h.sorted j,?_,fun d hd=>?_,?_,fun d hd=>?_⟩
 ·have:=h.len
  simp only [zY04,zY0f,zY11] at this ⊢;omega
 ·rcases zY12.1 hd with hd|hd
  ·exact h.good d (zY2d hd)
  ·exact h.good d (zY2e hd)
 ·have:=h.cnt
  simp only [zY04,zY1i] at this ⊢;omega
 ·rcases zY12.1 hd with hd|hd
  ·exact h.spent d hd
  ·simp only [zY13] at hd
   subst hd;exact h.good d (zY07 hc)
theorem SpI.fee {l:List Coin} {r s:List Coin} {t:Tx} (h:SpI l (r,s) t.ins.length) (ht:TxOK t):z8i (t,s) :=
 ⟨by have:=h.cnt;have:=ht.ins;simp only at *;omega,fun c hc=>by have:=z3v (h.spent c hc);omega,by have:=ht.outs;simp only;omega,fun o ho=>by have:=ht.good o ho;omega⟩
end
section
open Go.RowKit
section
variable {P:Program} {W:World}
theorem zgc {g o t:Nat} {vs cs:List Value} (hg:W.heap[g]? = some (.cells vs.toArray t (0,0))) (hn:o+cs.length≤vs.length) (h1:∀ v ∈ cs,v.oneCell'=true):(storeCells ⟨g,o,none⟩ cs 0).run P W = .ok () (W.setCells g o cs):=by
 have h:=zi8 (fr:=(0,0)) hg (o:=o) (n:=cs.length) hn;have:=run_storeCells_cells (P:=P) g o cs 0 W (fun j hj=>by rw [zY2c];exact (h j hj).1) (fun j hj=>by rw [zY2c];exact (h j hj).2) h1;simpa using this
theorem z0lw {t e ty sz:Nat} {z:Value} (ht:P.underlying t=some (.slice e)) (hv:∀ w,(zeroValue e).run P w = .ok z w) (hz:z.cells.size=sz) (h1:∀ v ∈ z.cells.toList,v.oneCell'=true) {g o n c tt:Nat} {vs:List Value} (hg:W.heap[g]? = some (.cells vs.toArray tt (0,0))) (hn:o+n * sz≤vs.length) :
  (Builtin.clear_ #[t] ty #[.slice (some ⟨g,o,none⟩) n c]).run P W = .ok (.tuple #[]) (W.setCells g o (Builtin.zeroCells z.cells n).toList):=by
 have hzl:(Builtin.zeroCells z.cells n).toList.length=n * sz:=by simp [Builtin.zeroCells,hz]
 cases n with
 | zero =>
  have:(Builtin.zeroCells z.cells 0).toList=[]:=zY0c (by rw [hzl];simp);rw [this];simp [Builtin.clear_,run_underlying ht,World.setCells]
 | succ n =>
  have hs:=zgc (P:=P) (cs:=(Builtin.zeroCells z.cells (n+1)).toList) hg (by rw [hzl];exact hn) (fun v hv=>by
   rw [Array.mem_toList_iff] at hv;simp only [Builtin.zeroCells,Array.mem_map] at hv;obtain ⟨i,hi,rfl⟩:=hv;have hpos:0<z.cells.size:=by
    rcases zY1s z.cells.size with h|h
    ·rw [h] at hi;simp at hi
    ·exact h
   have hlt:i % z.cells.size<z.cells.size:=Nat.mod_lt _ hpos;rw [getElem!_pos z.cells _ hlt];exact h1 _ (by simp))
  simp [Builtin.clear_,run_underlying ht,hv,hs]
theorem zh6 {t t' e ty sz:Nat} (ht:P.underlying t=some (.slice e)) (hsz:(P.info? e).map (·.size)=some sz) {g o dLen dCap sLen sCap tt:Nat} {a:Addr} {vs cs:List Value} (hg:W.heap[g]? = some (.cells vs.toArray tt (0,0))) (hl:cs.length=Nat.min sLen dLen * sz) (hsrc:∀ j v,cs[j]? = some v→W.cell? (a.add j)=some v) (hn:o+cs.length≤vs.length) (h1:∀ v ∈ cs,v.oneCell'=true) :
  (Builtin.copy_ #[t,t'] ty #[.slice (some ⟨g,o,none⟩) dLen dCap,.slice (some a) sLen sCap]).run P W = .ok (goInt (Nat.min sLen dLen)) (W.setCells g o cs):=by
 have hs:=zgc (P:=P) hg hn h1;have hlc:=run_loadCells_list (P:=P) W a cs hsrc
 cases hq:P.info? e with
 | none=>simp [hq] at hsz
 | some i =>
  have hi:i.size=sz:=by simpa [hq] using hsz
  simp [Builtin.copy_,run_underlying ht,Builtin.lenOf,Builtin.firstCells,sizeOf,typeInfo,hq,hi,← hl,hlc,hs]
end
theorem z0p4 {pre mid post us:List Value} {o:Nat} (ho:o=pre.length) (h:us.length=mid.length):z1z (pre++mid++post) o us=pre++us++post:=by subst ho;exact zlq us pre mid post h
theorem z9f {vs us:List Value} {o:Nat} (h:o+us.length≤vs.length):z1z vs o us=vs.take o++us++vs.drop (o+us.length):=by
 have e:vs=vs.take o++(vs.drop o).take us.length++vs.drop (o+us.length):=by
  rw [zY1b,← List.drop_drop,zY10,zY10]
 have h1:o=(vs.take o).length:=by rw [zY0f];omega
 have h2:us.length=((vs.drop o).take us.length).length:=by rw [zY0f,zY11];omega
 conv=>lhs;rw [e]
 exact z0p4 h1 h2
theorem zje {sz:Nat}:∀ {xs:List (List Dt)},(∀ x ∈ xs,x.length=sz)→xs.flatten.length=xs.length * sz
 | [],_=>by simp
 | x::xs,h=>by rw [zY1n,zY04,h x (zY0j ..),zje fun y hy=>h y (zY0i _ hy),zY0a,zY20,Nat.add_comm]
theorem zh7 {sz:Nat}:∀ {xs:List (List Dt)} (i:Nat),(∀ x ∈ xs,x.length=sz)→(xs.take i).flatten=xs.flatten.take (i * sz)
 | [],i,_=>by simp
 | x::xs,0,_=>by simp
 | x::xs,i+1,h=>by
  have hx:=h x (zY0j ..);rw [zY3m,zY1n,zY1n,zh7 i fun y hy=>h y (zY0i _ hy),List.take_append,hx,zY0t (show x.length≤(i+1) * sz by rw [hx,zY20];omega),zY20,zY2z]
theorem zpw {sz:Nat} {xs:List (List Dt)} (i:Nat) (h:∀ x ∈ xs,x.length=sz):(xs.drop i).flatten=xs.flatten.drop (i * sz):=by
 have e:xs.flatten=(xs.take i).flatten++(xs.drop i).flatten:=by rw [← zY2p,zY10]
 by_cases hi:i≤xs.length
 ·have h1:(xs.take i).flatten.length=i * sz:=by rw [zje fun y hy=>h y (zY2d hy),zY0f,zY27 hi]
  rw [e,← h1,List.drop_left]
 ·rw [zY26 (by omega),zY26]
  ·rfl
  ·rw [zje h];exact zY1u _ (by omega)
section
variable {P:Program}
theorem z0lx {α:Type} [Enc α] {f e sz:Nat} (hn:Enc.n α=sz) (hpos:0<sz) (hen:En P f) (zc:Array Value) (hzc:zc.size=sz)
  (h0:∀ (W:World) (A:Option Addr) (n cap i:Nat),i≤n→n≤cap→cap≤maxLen→Calls P f #[.slice A n cap,.int .i64 i,.int .i64 i] W fun r W'=>r = .returned (.slice A n cap)∧W'=W)
  (hw:∀ (W:World) (g n cap i j:Nat) (vs:List Value),W.heap[g]? = some (.cells vs.toArray e (0,0))→n≤cap→cap≤maxLen→vs.length=cap * sz→(∀ u ∈ vs.take (n * sz),u.oneCell'=true)→i<j→j≤n →
   Calls P f #[.slice (some ⟨g,0,none⟩) n cap,.int .i64 i,.int .i64 j] W fun r W'=>r = .returned (.slice (some ⟨g,0,none⟩) (n - (j - i)) cap)∧W'=((W.drewN 1).setCells g (i * sz) ((vs.take (n * sz)).drop (j * sz))).setCells g ((i+(n - j)) * sz) (Builtin.zeroCells zc (j - i)).toList) :
  Meets P (spD (fun x:List α × Int × Int=>0≤x.2.1∧x.2.1≤x.2.2∧x.2.2≤x.1.length) fun x=>x.1.take x.2.1.toNat++x.1.drop x.2.2.toNat) f ⟨[.mine e sz,.one,.one],[(false,[.fresh e sz])],false⟩:=by
 refine ⟨fun h=>(by cases h),?_⟩;intro e' sz' ps hps;injection hps with h1 h2
 injection h1 with h1 h1'
 subst h1;subst h1';subst h2;intro W F base v xs cells ds args rs hF hbase hvF hxs hown hreps hargs hsp;obtain ⟨⟨l,i,j⟩,⟨hi0,hij,hjl⟩,he,rfl⟩:=zg hsp;have he':Dt.l sz xs::ds=Dt.l (Enc.n α) (l.map Enc.e)::[I i,I j]:=he;injection he' with g1 g2
 injection g1 with g3 g1
 subst g2;subst g1;simp only at hi0 hij hjl;obtain ⟨va,vas,rfl,ha,hargs⟩:=z1a hargs;obtain ⟨vb,vbs,rfl,hb,hargs⟩:=z1a hargs;obtain rfl:=z1s hargs;obtain ⟨rfl,_⟩:=z38 ha;obtain ⟨rfl,_⟩:=z38 hb;obtain ⟨a,rfl⟩:∃ a:Nat,i=a:=⟨i.toNat,by omega⟩
 obtain ⟨b,rfl⟩:∃ b:Nat,j=b:=⟨j.toNat,by omega⟩
 have hlen:(l.map Enc.e).length=l.length:=zY0y _;rw [hlen] at hown;refine ⟨(l.take a++l.drop b).map Enc.e,?_,fun x hx=>hxs x ?_,?_⟩
 ·show [Dt.l (Enc.n α) _]=_
  rw [hn];rfl
 ·rw [zY23,zY3t,List.map_drop] at hx
  rcases zY12.1 hx with hx|hx
  ·exact zY2d hx
  ·exact zY2e hx
 by_cases hab:a=b
 ·subst hab
  have hsame:l.take a++l.drop a=l:=zY10 ..;simp only [zY21,hsame];have hv:∃ A cap,v = .slice A l.length cap∧l.length≤cap∧cap≤maxLen:=by
   rcases hown.2 with ⟨rfl,h0⟩|⟨g,cap,cur,rfl,_,_,h1,h2,_⟩
   ·exact ⟨none,0,by rw [h0],by omega,by unfold maxLen;omega⟩
   ·exact ⟨_,cap,rfl,h1,h2⟩
  obtain ⟨A,cap,rfl,h1,h2⟩:=hv;refine .inl ⟨hen.run _ _,(h0 W A l.length cap a (by omega) h1 h2).mono ?_⟩;rintro r W' ⟨rfl,rfl⟩;exact ⟨_,rfl,_,cells,⟨fun h=>(by cases h),fun _=>rfl⟩,World.grownBy.refl _ _,by rw [hlen];exact hown,hreps,fun _ h=>.inl h⟩
 ·rcases hown.2 with ⟨rfl,h0⟩|⟨g,cap,cur,rfl,hbg,hg,h1,h2,hcs,htk⟩
  ·omega
  ·have hkeep:=hown
   have hml:cells.length=l.length * sz:=hown.1;have hcs':cur.toList.length=cap * sz:=by simpa using hcs
   have hones:∀ u ∈ cur.toList.take (l.length * sz),u.oneCell'=true:=by rw [htk];exact hreps.one
   refine .inl ⟨hen.run _ _,(hw W g l.length cap a b cur.toList (by simpa using hg) h1 h2 hcs' hones (by omega) (by omega)).mono ?_⟩;rintro r W' ⟨rfl,rfl⟩;have hgF:¬ F g:=hvF g rfl;generalize hW1:(W.drewN 1).setCells g (a * sz) ((cur.toList.take (l.length * sz)).drop (b * sz))=W1;have hg0:(W.drewN 1).heap[g]? = some (.cells cur.toList.toArray e (0,0)):=by simpa using hg
   have hnl:((cur.toList.take (l.length * sz)).drop (b * sz)).length=(l.length - b) * sz:=by
    rw [htk,zY11,hml,Nat.sub_mul]
   have hzl:(Builtin.zeroCells zc (b - a)).toList.length=(b - a) * sz:=by simp [Builtin.zeroCells,hzc]
   have hg1:=z2a ((cur.toList.take (l.length * sz)).drop (b * sz)) (a * sz) (W.drewN 1) cur.toList hg0;rw [hW1] at hg1;have hg2:=z2a (Builtin.zeroCells zc (b - a)).toList ((a+(l.length - b)) * sz) W1 _ hg1;have hmul1:a * sz+(l.length - b) * sz=(a+(l.length - b)) * sz:=(Nat.add_mul ..).symm;have hle1:(a+(l.length - b)) * sz≤cap * sz:=zY1u _ (by omega);have hle2:(a+(l.length - b)) * sz+(b - a) * sz≤cap * sz:=by rw [← Nat.add_mul];exact zY1u _ (by omega)
   have hle3:a * sz≤l.length * sz:=zY1u _ (by omega);have hle4:l.length * sz≤cap * sz:=zY1u _ h1;have hfar:∀ k,k≠g→(W1.setCells g ((a+(l.length - b)) * sz) (Builtin.zeroCells zc (b - a)).toList).heap[k]? = W.heap[k]?:=by
    intro k hk;rw [z2l g _ _ _ k hk,← hW1,z2l g _ _ _ k hk];rfl
   refine ⟨_,rfl,_,cells.take (a * sz)++cells.drop (b * sz),⟨fun h=>(by cases h),fun _=>rfl⟩,?_,?_,?_,fun _ h=>.inl h⟩
   ·obtain ⟨k1,k2,k3,k4⟩:=z40 g (Builtin.zeroCells zc (b - a)).toList ((a+(l.length - b)) * sz) W1
    obtain ⟨q1,q2,q3,q4⟩:=z40 g ((cur.toList.take (l.length * sz)).drop (b * sz)) (a * sz) (W.drewN 1);rw [hW1] at q1 q2 q3 q4;refine ⟨k1.trans q1,k2.trans q2,k3.trans q3,?_,fun k hk hne=>hfar k fun h=>hne (by rw [h];rfl)⟩;rw [k4,q4];exact zY0k _
   ·have hl2:((l.take a++l.drop b).map (Enc.e (α:=α))).length=a+(l.length - b):=by
     rw [zY0y,zY04,zY0f,zY11];omega
    rw [hl2];refine ⟨?_,.inr ⟨g,cap,_,by rw [show l.length - (b - a)=a+(l.length - b) by omega],hbg,hg2,by omega,h2,?_,?_⟩⟩
    ·rw [zY04,zY0f,zY11,hml,zY27 hle3,← Nat.sub_mul,hmul1]
    ·rw [zY2j,z25,z25];exact hcs'
    ·rw [zY33,z9f (by rw [z25,hzl];omega),zY1b,zY1k (by rw [zY0f,z25];omega),zY39,Nat.min_self,z9f (by rw [hnl];omega),zY1k (by rw [zY04,zY0f,hnl];omega),zY0t (by rw [zY04,zY0f,hnl];omega),htk]
     congr 1;rw [← htk,zY39,zY27 hle3]
   ·rw [zY23,zY3t,List.map_drop,zY2p,zh7 a hxs,zpw b hxs]
    have hag:Agree F W (W1.setCells g ((a+(l.length - b)) * sz) (Builtin.zeroCells zc (b - a)).toList):=fun k hk=>hfar k fun h=>hgF (h ▸ hk)
    exact ((hreps.take (a * sz)).append (hreps.drop (b * sz))).mono hag (fun _ h=>h)
theorem z06l {tS tR e sz:Nat} {W:World} (ht:P.underlying tS=some (.slice e)) (hz:∀ w,(sizeOf e).run P w = .ok sz w) {g o b off la ca lb cb t:Nat} {vs:List Value} (hg:W.heap[g]? = some (.cells vs.toArray t (0,0))) (hvs:0<vs.length) (hne:b≠g) {u:Value} (hb:W.cell? ⟨b,off,none⟩=some u) :
  (Extern.SlicesOverlaps.overlaps #[tS,tS] #[tR] #[.slice (some ⟨b,off,none⟩) la ca,.slice (some ⟨g,o,none⟩) lb cb]).run P W = .ok (.bool false) W:=by
 have hnb:(b != g)=true:=by simpa using hne
 have hnb':(b == g)=false:=by simpa using hne
 obtain ⟨arr,tb,fr,hbh,hsz⟩:∃ arr tb fr,W.heap[b]? = some (.cells arr tb fr)∧0<arr.size:=by
  unfold World.cell? at hb
  split at hb
  ·rename_i arr tb fr h
   simp at hb;obtain ⟨hlt,_⟩:=zY15.1 hb;exact ⟨arr,tb,fr,h,by omega⟩
  ·cases hb
 have hsa:W.shape? b=some (tb,arr.size):=by simp [World.shape?,hbh]
 have hsb:W.shape? g=some (t,vs.length):=by simp [World.shape?,hg]
 have hfg:∀ k,W.frozen? ⟨g,k,none⟩=false:=fun k=>by simp [World.frozen?,hg]
 obtain ⟨n1,hn1⟩:∃ n,arr.size=n+1:=⟨arr.size - 1,by omega⟩
 obtain ⟨n2,hn2⟩:∃ n,vs.length=n+1:=⟨vs.length - 1,by omega⟩
 rw [hn1] at hsa;rw [hn2] at hsb;change Sem.run P (α:=Value) (do
  let some t:=(#[tS,tS]:Array TypeId)[0]? | stuck "slices.overlaps: no parameter types"
  let .slice elem ← underlying t|stuck "slices.overlaps: slice type expected"
  let size ← sizeOf elem
  match (some ⟨b,off,none⟩:Option Addr),(some ⟨g,o,none⟩:Option Addr) with
  | some a,some b =>
   if la=0∨lb=0∨size=0 then pure (Value.bool false)
   else if a.block != b.block && (← frozen a) && (← frozen b) then unsupported .addressObserved
   else do
    if a.block != b.block then do
     noView a;noView b
     if ← mayBeOne a b then return Value.bool ((← choose (.extern "sameAddr.stringBytes" 2)) == 1)
    pure (Value.bool (a.block == b.block && a.off<b.off+lb * size && b.off<a.off+la * size))
  | _,_=>pure (Value.bool false)) W=_
 by_cases h0:la=0∨lb=0∨sz=0
 ·simp [run_underlying ht,hz,h0]
 ·cases hf1:W.frozen? ⟨b,off,none⟩ <;> cases hf2:W.frozen? ⟨b,n1+1,none⟩ <;>
   simp [run_underlying ht,hz,h0,hnb,hnb',frozen,noView,viewAt,mayBeOne,stringish,shape,Sem.run,hsa,hsb,hfg,hf1,hf2]
theorem zl4 {W:World} {b k:Nat} {v:Value} (o:Obj) (h:W.cell? ⟨b,k,none⟩=some v):(W.alloc o).cell? ⟨b,k,none⟩=some v:=by
 have hlt:b<W.heap.size:=by
  rcases zY1x b W.heap.size with h'|h'
  ·exact h'
  ·simp [World.cell?,zY19 h'] at h
 rw [← h];simp only [World.cell?,World.alloc,zY3n,Nat.ne_of_lt hlt,if_false]
theorem z0ly {W:World} {g o b k:Nat} {us:List Value} (h:b≠g):(W.setCells g o us).cell? ⟨b,k,none⟩=W.cell? ⟨b,k,none⟩:=by
 simp only [World.cell?,z2l g us o W b h]
theorem z0lz {W:World} {o:Oper} {a:Act} {K:Act→World→Prop} {Q:Exit→Act→World→Prop} (d s:Operand) (t t':TypeId)
  (ho:o.op = .call { callee:=.builtin .copy,args:=#[d,s],argTypes:=#[t,t'] }) (v u:Value) (hd:a.eval d=v) (hs:a.eval s=u) {v':Value} {w':World}
  (hr:(Builtin.copy_ #[t,t'] o.type #[v,u]).run P W = .ok v' w') (h:K (a.put o.dst v') w'):o.wp P a W K Q:=by
 unfold Oper.wp execOp;simp only [ho,resolve,invoke,builtin,Sem.run_bind,Sem.run_pure,Result.andThen_ok,zY3d,zY1q,zY2u,hd,hs,hr];exact h
theorem zx1 {W:World} {ops:Array Oper} {rest:List Oper} {o:Oper} {a:Act} {Q:Exit→Act→World→Prop} (hgd:o.guard=none) (d s:Operand) (t t':TypeId)
  (ho:o.op = .call { callee:=.builtin .copy,args:=#[d,s],argTypes:=#[t,t'] }) (v u:Value) (hd:a.eval d=v) (hs:a.eval s=u) {v':Value} {w':World}
  (hr:(Builtin.copy_ #[t,t'] o.type #[v,u]).run P W = .ok v' w') (h:wpList P ops Q rest (a.put o.dst v') w'):wpList P ops Q (o::rest) a W :=
 wpList_plain hgd fun _ hK=>z0lz d s t t' ho v u hd hs hr (hK _ _ h)
theorem zl5 {ops:Array Oper} {o:Oper} {a:Act} {W:World} {K:Act→World→Prop} {Q:Exit→Act→World→Prop} {E:Prop}
  (hg:o.guard=none) (d x:Operand) (dT sT:TypeId) (hop:o.op=Op.call { callee:=Callee.builtin Builtin.copy,args:=#[d,x],argTypes:=#[dT,sT] })
  (v u:Value) (hd:a.eval d=v) (hx:a.eval x=u) {v':Value} {w':World} (hr:(Builtin.copy_ #[dT,sT] o.type #[v,u]).run P W = .ok v' w') (hK:K (a.put o.dst v') w') :
  if Region.wanted o (yielded ops a.tmps)=true then Oper.wp P o a W K Q else E:=by
 have hw:Region.wanted o (yielded ops a.tmps)=true:=by simp [Region.wanted,hg]
 rw [if_pos hw];unfold Oper.wp;simp [execOp,hop,resolve,invoke,builtin,hd,hx,hr,Result.andThen];exact hK
theorem z0m0 {α:Type} [Enc α] {f e sz:Nat} (hn:Enc.n α=sz) (hpos:0<sz) (hen:En P f)
  (hroom:∀ (W:World) (g n cap i b off c:Nat) (vs cs:List Value),W.heap[g]? = some (.cells vs.toArray e (0,0))→n<cap→cap≤maxLen→vs.length=cap * sz→(∀ u ∈ vs.take (n * sz),u.oneCell'=true)→i<n→b≠g→cs.length=sz→(∀ j v,cs[j]? = some v→W.cell? ⟨b,off+j,none⟩=some v)→(∀ v ∈ cs,v.oneCell'=true) →
   Calls P f #[.slice (some ⟨g,0,none⟩) n cap,.int .i64 i,.slice (some ⟨b,off,none⟩) 1 c] W fun r W'=>r = .returned (.slice (some ⟨g,0,none⟩) (n+1) cap)∧W'=((W.drewN 1).setCells g ((i+1) * sz) ((vs.take (n * sz)).drop (i * sz))).setCells g (i * sz) cs)
  (hend:∀ (W:World) (base:Nat) (v:Value) (n b off c:Nat) (olds cs:List Value),W.ownsRow base e sz v n olds→base≤W.heap.size→n≤1000000→cs.length=sz→(∀ j v,cs[j]? = some v→W.cell? ⟨b,off+j,none⟩=some v)→(∀ v ∈ cs,v.oneCell'=true) →
   Calls P f #[v,.int .i64 n,.slice (some ⟨b,off,none⟩) 1 c] W fun r W'=>∃ v',r = .returned v'∧W'.ownsRow base e sz v' (n+1) (olds++cs)∧W.grownBy W' v.ownBlock∧(v'.ownBlock=v.ownBlock∨v'.ownBlock=some W.heap.size))
  (hgrow:∀ (W:World) (g n cap i b off c:Nat) (vs cs:List Value),W.heap[g]? = some (.cells vs.toArray e (0,0))→n=cap→n≤1000000→vs.length=cap * sz→(∀ u ∈ vs.take (n * sz),u.oneCell'=true)→i<n→cs.length=sz→(∀ j v,cs[j]? = some v→W.cell? ⟨b,off+j,none⟩=some v)→(∀ v ∈ cs,v.oneCell'=true) →
   Calls P f #[.slice (some ⟨g,0,none⟩) n cap,.int .i64 i,.slice (some ⟨b,off,none⟩) 1 c] W fun r W'=>∃ G,∃ row:List Value,n+1≤G∧G≤maxLen∧row.length=G * sz∧r = .returned (.slice (some ⟨W.heap.size,0,none⟩) (n+1) G)∧(∀ u ∈ row.take (i * sz),u.oneCell'=true)∧row.take (i * sz)=vs.take (i * sz) ∧
    W'=(((W.alloc (.cells row.toArray e)).drew.setCells W.heap.size (i * sz) cs).drew).setCells W.heap.size ((i+1) * sz) ((vs.take (n * sz)).drop (i * sz))) :
  Meets P (spD (fun x:List α × Int × List α=>0≤x.2.1∧x.2.1≤x.1.length∧x.1.length≤1000000∧x.2.2.length=1) fun x=>x.1.take x.2.1.toNat++x.2.2++x.1.drop x.2.1.toNat) f ⟨[.mine e sz,.one,.one],[(false,[.fresh e sz])],false⟩:=by
 refine ⟨fun h=>(by cases h),?_⟩;intro e' sz' ps hps;injection hps with h1 h2
 injection h1 with h1 h1'
 subst h1;subst h1';subst h2;intro W F base v xs cells ds args rs hF hbase hvF hxs hown hreps hargs hsp;obtain ⟨⟨l,i,ys⟩,⟨hi0,hil,hlm,hy1⟩,he,rfl⟩:=zg hsp;have he':Dt.l sz xs::ds=Dt.l (Enc.n α) (l.map Enc.e)::[I i,.l (Enc.n α) (ys.map Enc.e)]:=he;injection he' with g1 g2
 injection g1 with g3 g1
 subst g2;subst g1;simp only at hi0 hil hlm hy1;obtain ⟨y,rfl⟩:=List.length_eq_one_iff.1 hy1;obtain ⟨va,vas,rfl,ha,hargs⟩:=z1a hargs;obtain ⟨vb,vbs,rfl,hb,hargs⟩:=z1a hargs;obtain rfl:=z1s hargs;obtain ⟨rfl,_⟩:=z38 ha;obtain ⟨a,rfl⟩:∃ a:Nat,i=a:=⟨i.toNat,by omega⟩
 have hlen:(l.map Enc.e).length=l.length:=zY0y _;have hyl:(Enc.e y).length=sz:=by rw [Enc.len,hn]
 rw [hlen] at hown;have hml:cells.length=l.length * sz:=hown.1;obtain ⟨b,off,c,cs,rfl,hFb,hcl,hcell,hcr⟩:∃ b off c,∃ cs:List Value,vb = .slice (some ⟨b,off,none⟩) 1 c∧F b∧cs.length=sz∧(∀ j v,cs[j]? = some v→W.cell? ⟨b,off+j,none⟩=some v)∧Reps W F (Enc.e y) cs:=by
  generalize hd:Dt.l (Enc.n α) ([y].map Enc.e)=d at hb
  cases hb with
  | l sz0 zs A n c b o vs k0 k1 k2 k3 k4 k5 k6 =>
   injection hd with e1 e2
   subst e2;obtain ⟨rfl,hFb⟩:=k4 (by simp);refine ⟨b,o,c,(List.range sz).map (vs 0),by rw [k0];rfl,hFb,by simp,fun j v hv=>?_,Reps.of (by simp [hyl]) fun j d v hd hv=>?_⟩
   ·obtain ⟨hj,rfl⟩:=z2w hv
    have h:=k5 0 j (Enc.e y) _ rfl (zY03 (by omega))
    rwa [zY3o,zY2c] at h
   ·obtain ⟨hj,rfl⟩:=z2w hv
    exact k6 0 j (Enc.e y) d rfl hd
  | _=>cases hd
 have hc1:∀ v ∈ cs,v.oneCell'=true:=hcr.one;refine ⟨(l.take a++[y]++l.drop a).map Enc.e,?_,fun x hx=>?_,?_⟩
 ·show [Dt.l (Enc.n α) _]=_
  rw [hn];rfl
 ·obtain ⟨z,_,rfl⟩:=zY2w.1 hx
  rw [Enc.len,hn]
 have hl2:((l.take a++[y]++l.drop a).map (Enc.e (α:=α))).length=l.length+1:=by
  rw [zY0y,zY04,zY04,zY0f,zY11,zY1i];omega
 have hflat:((l.take a++[y]++l.drop a).map (Enc.e (α:=α))).flatten=(l.map Enc.e).flatten.take (a * sz)++Enc.e y++(l.map Enc.e).flatten.drop (a * sz):=by
  rw [zY23,zY23,zY3t,List.map_drop,zY2p,zY2p,zh7 a hxs,zpw a hxs];simp
 rw [hl2,hflat];have hle3:a * sz≤l.length * sz:=zY1u _ (by omega);have hnew:∀ {W':World},Agree F W W'→Reps W' F ((l.map Enc.e).flatten.take (a * sz)++Enc.e y++(l.map Enc.e).flatten.drop (a * sz)) (cells.take (a * sz)++cs++cells.drop (a * sz)):=fun hag=>(((hreps.take (a * sz)).append hcr).append (hreps.drop (a * sz))).mono hag (fun _ h=>h)
 have hnl:(cells.take (a * sz)++cs++cells.drop (a * sz)).length=(l.length+1) * sz:=by
  rw [zY04,zY04,zY0f,zY11,hcl,hml,zY27 hle3,zY20];omega
 by_cases hend':a=l.length
 ·subst hend'
  refine .inl ⟨hen.run _ _,(hend W base v l.length b off c cells cs hown hbase (by omega) hcl hcell hc1).mono ?_⟩;rintro r W' ⟨v',rfl,q1,q2,q3⟩;have hag:Agree F W W':=fun k hk=>q2.block k (hF.1 k hk) fun h=>hvF k h.symm hk
  refine ⟨_,rfl,v',_,⟨fun h=>(by cases h),fun _=>rfl⟩,q2,?_,hnew hag,fun k hk=>?_⟩
  ·rw [zY0t (by omega),zY26 (by omega),zY1e];exact q1
  ·rcases q3 with q3|q3
   ·exact .inl (q3 ▸ hk)
   ·rw [q3] at hk;injection hk with hk;exact .inr (Nat.le_of_eq hk)
 ·rcases hown.2 with ⟨rfl,h0⟩|⟨g,cap,cur,rfl,hbg,hg,h1,h2,hcs,htk⟩
  ·omega
  ·have hcs':cur.toList.length=cap * sz:=by simpa using hcs
   have hones:∀ u ∈ cur.toList.take (l.length * sz),u.oneCell'=true:=by rw [htk];exact hreps.one
   have hgF:¬ F g:=hvF g rfl;have hbg':b≠g:=fun h=>hgF (h ▸ hFb)
   have hg':W.heap[g]? = some (.cells cur.toList.toArray e (0,0)):=by simpa using hg
   have hal:a<l.length:=by omega
   have hmvl:((cur.toList.take (l.length * sz)).drop (a * sz)).length=(l.length - a) * sz:=by rw [htk,zY11,hml,Nat.sub_mul]
   have e1:(a+1) * sz=a * sz+sz:=zY20 ..;have e2:(a+1) * sz+(l.length - a) * sz=(l.length+1) * sz:=by rw [← Nat.add_mul];congr 1;omega
   have hsplit:∀ vs':List Value,(l.length+1) * sz≤vs'.length→vs'.take (a * sz)=cells.take (a * sz)→(z1z (z1z vs' ((a+1) * sz) ((cur.toList.take (l.length * sz)).drop (a * sz))) (a * sz) cs).take ((l.length+1) * sz)=cells.take (a * sz)++cs++cells.drop (a * sz):=by
    intro vs' hl' ht';have k1:a * sz+cs.length≤(z1z vs' ((a+1) * sz) ((cur.toList.take (l.length * sz)).drop (a * sz))).length:=by rw [z25];omega
    rw [z9f k1,z9f (by rw [hmvl];omega),hcl,hmvl,e2,htk];have k2:(vs'.take ((a+1) * sz)++cells.drop (a * sz)++vs'.drop ((l.length+1) * sz)).take (a * sz)=cells.take (a * sz):=by
     rw [zY1b,zY1k (by rw [zY0f];omega),zY39,zY27 (by omega),ht']
    have k3:(vs'.take ((a+1) * sz)++cells.drop (a * sz)++vs'.drop ((l.length+1) * sz)).drop (a * sz+sz)=cells.drop (a * sz)++vs'.drop ((l.length+1) * sz):=by
     rw [zY1b,List.drop_append,zY26 (by rw [zY0f];omega),zY0f,zY27 (by omega),e1,Nat.sub_self,zY17,zY3f]
    rw [k2,k3,← zY1b,zY1k (by rw [hnl];omega),zY0t (by rw [hnl];omega)]
   rcases zY1x l.length cap with hr|hr
   ·have hcapm:(l.length+1) * sz≤cap * sz:=zY1u _ hr
    refine .inl ⟨hen.run _ _,(hroom W g l.length cap a b off c cur.toList cs hg' hr h2 hcs' hones hal hbg' hcl hcell hc1).mono ?_⟩;rintro r W' ⟨rfl,rfl⟩;have hfar:∀ k,k≠g→(((W.drewN 1).setCells g ((a+1) * sz) ((cur.toList.take (l.length * sz)).drop (a * sz))).setCells g (a * sz) cs).heap[k]? = W.heap[k]?:=by
     intro k hk;rw [z2l g _ _ _ k hk,z2l g _ _ _ k hk];rfl
    have hag:Agree F W (((W.drewN 1).setCells g ((a+1) * sz) ((cur.toList.take (l.length * sz)).drop (a * sz))).setCells g (a * sz) cs):=fun k hk=>hfar k fun h=>hgF (h ▸ hk)
    refine ⟨_,rfl,_,_,⟨fun h=>(by cases h),fun _=>rfl⟩,?_,⟨hnl,.inr ⟨g,cap,_,rfl,hbg,z2a cs (a * sz) _ _ (z2a _ ((a+1) * sz) (W.drewN 1) _ hg'),hr,h2,by rw [zY2j,z25,z25];exact hcs',?_⟩⟩,hnew hag,fun _ h=>.inl h⟩
    ·obtain ⟨k1,k2,k3,k4⟩:=z40 g cs (a * sz) ((W.drewN 1).setCells g ((a+1) * sz) ((cur.toList.take (l.length * sz)).drop (a * sz)))
     obtain ⟨q1,q2,q3,q4⟩:=z40 g ((cur.toList.take (l.length * sz)).drop (a * sz)) ((a+1) * sz) (W.drewN 1);exact ⟨k1.trans q1,k2.trans q2,k3.trans q3,by rw [k4,q4];exact zY0k _,fun k hk hne=>hfar k fun h=>hne (by rw [h];rfl)⟩
    ·rw [zY33]
     refine hsplit _ (by omega) ?_;rw [← htk,zY39,zY27 hle3]
   ·have hcap:l.length=cap:=by omega
    refine .inl ⟨hen.run _ _,(hgrow W g l.length cap a b off c cur.toList cs hg' hcap (by omega) hcs' hones hal hcl hcell hc1).mono ?_⟩;rintro r W' ⟨G,row,r1,r2,r3,rfl,r4,r5,rfl⟩;have hGm:(l.length+1) * sz≤G * sz:=zY1u _ r1;generalize hW0:(W.alloc (.cells row.toArray e)).drew=W0;have hs0:W0.heap.size=W.heap.size+1:=by rw [← hW0];show (W.heap.push _).size=_;simp
    have hn0:W0.heap[W.heap.size]? = some (.cells row.toArray e (0,0)):=by rw [← hW0];exact heap_alloc_new W _
    have ho0:∀ k,k<W.heap.size→W0.heap[k]? = W.heap[k]?:=fun k hk=>by
     rw [← hW0]
     show (W.alloc (.cells row.toArray e)).heap[k]? = _
     simp only [World.alloc,zY3n,Nat.ne_of_lt hk,if_false]
    have hfar:∀ k,k<W.heap.size→(((W0.setCells W.heap.size (a * sz) cs).drew).setCells W.heap.size ((a+1) * sz) ((cur.toList.take (l.length * sz)).drop (a * sz))).heap[k]? = W.heap[k]?:=by
     intro k hk;rw [z2l _ _ _ _ k (by omega)]
     show (W0.setCells W.heap.size (a * sz) cs).heap[k]? = _
     rw [z2l _ _ _ _ k (by omega),ho0 k hk]
    obtain ⟨z1,z2,z3⟩:W0.os=W.os∧W0.tape=W.tape∧W0.output=W.output:=by rw [← hW0];exact ⟨rfl,rfl,rfl⟩
    have hag:Agree F W (((W0.setCells W.heap.size (a * sz) cs).drew).setCells W.heap.size ((a+1) * sz) ((cur.toList.take (l.length * sz)).drop (a * sz))):=fun k hk=>hfar k (hF.1 k hk)
    have hheap:=z2a ((cur.toList.take (l.length * sz)).drop (a * sz)) ((a+1) * sz) ((W0.setCells W.heap.size (a * sz) cs).drew) _ (z2a cs (a * sz) W0 _ hn0);refine ⟨_,rfl,_,_,⟨fun h=>(by cases h),fun _=>rfl⟩,?_,⟨hnl,.inr ⟨W.heap.size,G,_,rfl,hbase,hheap,r1,r2,by rw [zY2j,z25,z25];exact r3,?_⟩⟩,hnew hag,fun k hk=>?_⟩
    ·obtain ⟨k1,k2,k3,k4⟩:=z40 W.heap.size ((cur.toList.take (l.length * sz)).drop (a * sz)) ((a+1) * sz) ((W0.setCells W.heap.size (a * sz) cs).drew)
     obtain ⟨q1,q2,q3,q4⟩:=z40 W.heap.size cs (a * sz) W0;refine ⟨k1.trans (q1.trans z1),k2.trans (q2.trans z2),k3.trans (q3.trans z3),?_,fun k hk hne=>hfar k hk⟩;rw [k4]
     show W.heap.size≤(W0.setCells W.heap.size (a * sz) cs).heap.size
     rw [q4,hs0];omega
    ·rw [zY33]
     have hswap:z1z (z1z row (a * sz) cs) ((a+1) * sz) ((cur.toList.take (l.length * sz)).drop (a * sz))=z1z (z1z row ((a+1) * sz) ((cur.toList.take (l.length * sz)).drop (a * sz))) (a * sz) cs:=by
      have hL:a * sz+cs.length≤row.length:=by omega
      have hR:(a+1) * sz+((cur.toList.take (l.length * sz)).drop (a * sz)).length≤row.length:=by rw [hmvl];omega
      rw [z9f (vs:=z1z row (a * sz) cs) (by rw [z25];exact hR),z9f hL,z9f (vs:=z1z row ((a+1) * sz) _) (by rw [z25];exact hL),z9f hR];have t1:(row.take (a * sz)++cs++row.drop (a * sz+cs.length)).take ((a+1) * sz)=row.take (a * sz)++cs:=by
       rw [zY1k (by rw [zY04,zY0f];omega),zY0t (by rw [zY04,zY0f];omega)]
      have t2:(row.take (a * sz)++cs++row.drop (a * sz+cs.length)).drop ((a+1) * sz+((cur.toList.take (l.length * sz)).drop (a * sz)).length)=row.drop ((a+1) * sz+((cur.toList.take (l.length * sz)).drop (a * sz)).length):=by
       rw [List.drop_append,zY26 (by rw [zY04,zY0f];omega),zY17,List.drop_drop];congr 1;rw [zY04,zY0f];omega
      have t3:(row.take ((a+1) * sz)++((cur.toList.take (l.length * sz)).drop (a * sz))++row.drop ((a+1) * sz+((cur.toList.take (l.length * sz)).drop (a * sz)).length)).take (a * sz)=row.take (a * sz):=by
       rw [zY1b,zY1k (by rw [zY0f];omega),zY39,zY27 (by omega)]
      have t4:(row.take ((a+1) * sz)++((cur.toList.take (l.length * sz)).drop (a * sz))++row.drop ((a+1) * sz+((cur.toList.take (l.length * sz)).drop (a * sz)).length)).drop (a * sz+cs.length)=((cur.toList.take (l.length * sz)).drop (a * sz))++row.drop ((a+1) * sz+((cur.toList.take (l.length * sz)).drop (a * sz)).length):=by
       rw [zY1b,List.drop_append,zY26 (by rw [zY0f];omega),zY17,zY0f,zY27 (by omega),hcl,e1,Nat.sub_self,zY3f]
      rw [t1,t2,t3,t4,zY1b,zY1b]
     rw [hswap];refine hsplit _ (by omega) ?_;rw [r5,← htk,zY39,zY27 hle3]
    ·simp only [Value.ownBlock,zY00] at hk
     exact .inr (Nat.le_of_eq hk)
end
end
section
open Go.RowKit
set_option maxRecDepth 100000
set_option maxHeartbeats 4000000
theorem z0p5 {W:World} {g n cap i j:Nat} {vs:List Value} (hg:W.heap[g]? = some (.cells vs.toArray 101 (0,0))) (hn:n≤cap) (hm:cap≤maxLen) (hcs:vs.length=cap * 6) (h1:∀ u ∈ vs.take (n * 6),u.oneCell'=true) (hij:i<j) (hj:j≤n) :
  Calls Tryz.prog 120 #[.slice (some ⟨g,0,none⟩) n cap,.int .i64 i,.int .i64 j] W fun e w'=>e = .returned (.slice (some ⟨g,0,none⟩) (n - (j - i)) cap) ∧
   w'=((W.drewN 1).setCells g (i * 6) ((vs.take (n * 6)).drop (j * 6))).setCells g ((i+(n - j)) * 6) (Builtin.zeroCells #[.int .i64 0,.int .i64 0,.int .i64 0,.slice none 0 0,.int .i64 0,.bool false] (j - i)).toList:=by
 have hm':cap≤9223372036854775807:=hm;obtain ⟨news,hnews⟩:∃ news,news=(vs.take (n * 6)).drop (j * 6):=⟨_,rfl⟩
 have hlen:news.length=(n - j) * 6:=by rw [hnews,zY11,zY0f];omega
 have hg1:W.drew.heap[g]? = some (.cells vs.toArray 101 (0,0)):=hg;obtain ⟨A,hA,hsrc⟩:∃ A:Addr,(if cap=j then some (⟨g,0,none⟩:Addr) else some ⟨g,j * 6,none⟩)=some A∧Hid (∀ t u,news[t]? = some u→W.drew.cell? (A.add t)=some u):=by
  by_cases h:cap=j
  ·refine ⟨⟨g,0,none⟩,by simp [h],fun t u hu=>?_⟩
   have:=(zY02.1 hu).1;omega
  ·refine ⟨⟨g,j * 6,none⟩,by simp [h],fun t u hu=>?_⟩
   have ht:=(zY02.1 hu).1;rw [hnews,zY1m,zY18,if_pos (by omega)] at hu;rw [z9t,cell_of_row _ g _ _ 101 (0,0) hg1];simpa using hu
 have s1:Hid (news.length=(n - j) * 6):=hlen;have s2:Hid (∀ u ∈ news,u.oneCell'=true):=by
  intro u hu;rw [hnews] at hu;exact h1 u (zY2e hu)
 have s3:Hid (∀ t,t<news.length→(W.drew.cell? ⟨g,0+i * 6+t,none⟩).isSome=true∧W.drew.frozen? ⟨g,0+i * 6+t,none⟩=false):=by
  intro t ht;have:=zi8 (fr:=(0,0)) hg1 (o:=0+i * 6) (n:=news.length) (by omega);exact this t ht
 obtain ⟨W1,hW1⟩:∃ W1,W1=W.drew.setCells g (0+i * 6) news:=⟨_,rfl⟩
 have hg2:W1.heap[g]? = some (.cells (z1z vs (0+i * 6) news).toArray 101 (0,0)):=by rw [hW1];exact z2a _ _ _ _ hg1
 have hcl:∀ ty,(Builtin.clear_ #[25] ty #[.slice (some ⟨g,(i+(n - j)) * 6,none⟩) (n - (i+(n - j))) (cap - (i+(n - j)))]).run Tryz.prog W1 = .ok (.tuple #[]) (W1.setCells g ((i+(n - j)) * 6) (Builtin.zeroCells #[.int .i64 0,.int .i64 0,.int .i64 0,.slice none 0 0,.int .i64 0,.bool false] (n - (i+(n - j)))).toList) :=
  fun ty=>z0lw (sz:=6) Tryz.underlying25 Tryz.zeroValue101 rfl (by simp [Value.cells,Value.oneCell']) hg2 (by rw [z25];omega)
 have hW:Hid (W1=W.drew.setCells g (0+i * 6) news):=hW1;have hic:i≤cap:=by omega
 have hjc:j≤cap:=by omega
 have hnews:=Lib.hid hnews;clear hW1 hg2 hg hg1 hlen;go_enter Tryz.func120,Tryz.ntmps120;go_wp2_with fail;obtain ⟨ht,ie,zv,he,hz0,hsz,hbz,hzs⟩:=zs1;go_region_law (refine step_append_room rfl (.tmp 22) (.tmp 25) 25 rfl 101 ie 6 ht he hsz g 0 i cap (by simp [Act.eval,Act.put]) A (n - j) (cap - j) news (by simp [Act.eval,Act.put,hA]) s1.out hsrc.out s2.out (by omega) s3.out ?_;rw [← hW.out]);go_wp2;go_ret;refine ⟨by rw [show n - (j - i)=i+(n - j) by omega];rfl,?_⟩;rw [hW.out,zY0x,hnews.out,show n - (i+(n - j))=j - i by omega];rfl
theorem z0p6 {W:World} {A:Option Addr} {n cap i:Nat} (hi:i≤n) (hn:n≤cap) (hm:cap≤maxLen):Calls Tryz.prog 120 #[.slice A n cap,.int .i64 i,.int .i64 i] W fun r W'=>r = .returned (.slice A n cap)∧W'=W:=by
 have hm':cap≤9223372036854775807:=hm;have hic:i≤cap:=by omega
 go_enter Tryz.func120,Tryz.ntmps120;go_wp2_with fail
 all_goals (go_ret;exact ⟨rfl,rfl⟩)
noncomputable def zaa:za:=spD (fun x:List Coin × Int × Int=>0≤x.2.1∧x.2.1≤x.2.2∧x.2.2≤x.1.length) fun x=>x.1.take x.2.1.toNat++x.1.drop x.2.2.toNat
theorem z0m1:Meets Tryz.prog zaa 120 ⟨[.mine 101 6,.one,.one],[(false,[.fresh 101 6])],false⟩ :=
 z0lx rfl (by decide) (z1x (fn:=Tryz.f120) (by kernel_rfl) (by kernel_rfl) (by kernel_rfl)) #[.int .i64 0,.int .i64 0,.int .i64 0,.slice none 0 0,.int .i64 0,.bool false] rfl (fun W A n cap i h1 h2 h3=>z0p6 h1 h2 h3) (fun W g n cap i j vs h1 h2 h3 h4 h5 h6 h7=>z0p5 h1 h2 h3 h4 h5 h6 h7)
end
section
open Go.RowKit
set_option maxRecDepth 100000
set_option maxHeartbeats 4000000
theorem z0p7 {W:World} {g o b off la ca lb cb:Nat} {vs:List Value} (hg:W.heap[g]? = some (.cells vs.toArray 101 (0,0))) (hvs:0<vs.length) (hne:b≠g) {u:Value} (hb:W.cell? ⟨b,off,none⟩=some u) :
  (callFunc 147 #[.slice (some ⟨b,off,none⟩) la ca,.slice (some ⟨g,o,none⟩) lb cb]).run Tryz.prog W = .ok (.value (.bool false)) W:=by
 rw [run_callFunc_extern Tryz.func147 (by kernel_rfl) (by kernel_rfl) (by kernel_rfl) (e:=Extern.SlicesOverlaps.overlaps #[25,25] #[4]) (by kernel_rfl),
  z06l (e:=101) (sz:=6) Tryz.underlying25 Tryz.sizeOf101 hg hvs hne hb]
 rfl
theorem z0p8 {W:World} {g n cap i b off c:Nat} {vs cs:List Value} (hg:W.heap[g]? = some (.cells vs.toArray 101 (0,0))) (hn:n<cap) (hm:cap≤maxLen) (hcs:vs.length=cap * 6) (h1:∀ u ∈ vs.take (n * 6),u.oneCell'=true) (hi:i<n) (hne:b≠g) (hcl:cs.length=6) (hb:∀ j v,cs[j]? = some v→W.cell? ⟨b,off+j,none⟩=some v) (h1c:∀ v ∈ cs,v.oneCell'=true) :
  Calls Tryz.prog 119 #[.slice (some ⟨g,0,none⟩) n cap,.int .i64 i,.slice (some ⟨b,off,none⟩) 1 c] W fun r W'=>r = .returned (.slice (some ⟨g,0,none⟩) (n+1) cap)∧W'=((W.drewN 1).setCells g ((i+1) * 6) ((vs.take (n * 6)).drop (i * 6))).setCells g (i * 6) cs:=by
 have hm':cap≤9223372036854775807:=hm;obtain ⟨mv,hmv⟩:∃ mv,mv=(vs.take (n * 6)).drop (i * 6):=⟨_,rfl⟩
 have hlen:mv.length=(n - i) * 6:=by rw [hmv,zY11,zY0f];omega
 have hg1:W.drew.heap[g]? = some (.cells vs.toArray 101 (0,0)):=hg;obtain ⟨u0,hu0⟩:∃ u,W.cell? ⟨b,off,none⟩=some u:=by
  have h:=hb 0 (cs[0]'(by omega)) (zY03 (by omega));exact ⟨_,h⟩
 have hov:∀ lb cb,(callFunc 147 #[.slice (some ⟨b,off,none⟩) 1 c,.slice (some ⟨g,(i+1) * 6,none⟩) lb cb]).run Tryz.prog W = .ok (.value (.bool false)) W:=fun lb cb=>z0p7 hg (by omega) hne hu0
 have hsz:(Tryz.prog.info? 101).map (·.size)=some 6:=by kernel_rfl
 have hcp1:∀ ty dc sc,(Builtin.copy_ #[25,25] ty #[.slice (some ⟨g,(i+1) * 6,none⟩) (n - i) dc,.slice (some ⟨g,i * 6,none⟩) (n+1 - i) sc]).run Tryz.prog W.drew = .ok (goInt (Nat.min (n+1 - i) (n - i):Nat)) (W.drew.setCells g ((i+1) * 6) mv):=fun ty dc sc =>
  zh6 Tryz.underlying25 hsz hg1 (by rw [hlen];show _=min _ _ * 6;rw [Nat.min_def];split <;> omega) (fun j v hj=>by
   rw [z9t,cell_of_row _ g _ _ 101 (0,0) hg1];have hlt:=(zY02.1 hj).1;rw [hmv,zY1m,zY18,if_pos (by omega)] at hj;simpa using hj) (by omega) (fun v hv=>h1 v (by rw [hmv] at hv;exact zY2e hv))
 obtain ⟨W1,hW1⟩:∃ W1,W1=W.drew.setCells g ((i+1) * 6) mv:=⟨_,rfl⟩
 have hg2:W1.heap[g]? = some (.cells (z1z vs ((i+1) * 6) mv).toArray 101 (0,0)):=by rw [hW1];exact z2a _ _ _ _ hg1
 have hcp2:∀ ty dc,(Builtin.copy_ #[25,25] ty #[.slice (some ⟨g,i * 6,none⟩) (n+1 - i) dc,.slice (some ⟨b,off,none⟩) 1 c]).run Tryz.prog W1 = .ok (goInt (Nat.min 1 (n+1 - i):Nat)) (W1.setCells g (i * 6) cs):=fun ty dc =>
  zh6 Tryz.underlying25 hsz hg2 (by rw [hcl];show _=min _ _ * 6;rw [Nat.min_def];split <;> omega) (fun j v hj=>by
   rw [z9t,hW1,z0ly hne];exact hb j v hj) (by rw [z25];omega) h1c
 rw [← hW1] at hcp1;have hw1:IntKind.i64.wrap ((i:Int)+1)=(i:Int)+1:=by rw [IntKind.wrap_i64];omega
 have hw2:IntKind.i64.wrap ((n:Int)+1)=(n:Int)+1:=by rw [IntKind.wrap_i64];omega
 have hz2:¬ ((i:Int)=(n:Int)):=by omega
 have hp1:(i:Int)≤(n:Int)+1:=by omega
 have hp0:(0:Int)≤(i:Int)+1:=by omega
 have hb1:¬ (cap=i+1):=by omega
 have hb4:¬ (cap=i):=by omega
 have hin:i≤n:=by omega
 have hic:i≤cap:=by omega
 have hW:=Lib.hid hW1;have hmv':=Lib.hid hmv;clear hmv hlen hg hg1 hg2 hW1 hcs h1 hb h1c hcl hu0;go_enter Tryz.func119,Tryz.ntmps119;go_wp2_with (simp only [hov]);go_region_law (refine zl5 rfl _ _ 25 25 rfl _ _ (by simp [Act.eval,Act.put]) (by simp [Act.eval,Act.put]) (hcp1 _ _ _) ?_);go_wp2_with (at_builtin;refine zx1 rfl _ _ 25 25 rfl _ _ rfl rfl (hcp2 _ _) ?_);go_ret;refine ⟨rfl,?_⟩;rw [hW.out,hmv'.out];rfl
theorem z0sc {W:World} {base:Nat} {v:Value} {n b off c:Nat} {olds cs:List Value} (hown:W.ownsRow base 101 6 v n olds) (hbase:base≤W.heap.size) (hn:n≤1000000) (hcl:cs.length=6) (hb:∀ j v,cs[j]? = some v→W.cell? ⟨b,off+j,none⟩=some v) (h1c:∀ v ∈ cs,v.oneCell'=true) :
  Calls Tryz.prog 119 #[v,.int .i64 n,.slice (some ⟨b,off,none⟩) 1 c] W fun r W'=>∃ v',r = .returned v'∧W'.ownsRow base 101 6 v' (n+1) (olds++cs)∧W.grownBy W' v.ownBlock∧(v'.ownBlock=v.ownBlock∨v'.ownBlock=some W.heap.size):=by
 obtain ⟨ht,ie,zv,he,hz0,hsz,hbz,hzs⟩:=zs1;have hrun:∀ ty,∃ v' W',(Builtin.append_ #[25,25] ty #[v,.slice (some ⟨b,off,none⟩) 1 c]).run Tryz.prog W = .ok v' W'∧W'.ownsRow base 101 6 v' (n+1) (olds++cs)∧W.grownBy W' v.ownBlock∧(v'.ownBlock=v.ownBlock∨v'.ownBlock=some W.heap.size):=fun ty=>by
  obtain ⟨v',W',hr,h2,h3,_,h5⟩:=run_append_own_at (P:=Tryz.prog) W base 25 ty 101 ie zv 6 64 ht he hz0 hsz hbz hzs (by decide) v n olds hown ⟨b,off,none⟩ 1 c cs (by omega) (fun j u hj=>by rw [z9t];exact hb j u hj) h1c (by unfold maxLen;omega) (by omega) hbase;exact ⟨v',W',hr,h2,h3,h5⟩
 obtain ⟨v',W',hr,h2,h3,h4⟩:=hrun 25;have hv:∃ A cap,v = .slice A n cap∧n≤cap∧cap≤maxLen:=by
  rcases hown.2 with ⟨rfl,h0⟩|⟨g,cap,cur,rfl,_,_,h1,h2,_⟩
  ·exact ⟨none,0,by rw [h0],by omega,by unfold maxLen;omega⟩
  ·exact ⟨_,cap,rfl,h1,h2⟩
 obtain ⟨A,cap,rfl,hc1,hc2⟩:=hv;have hc3:cap≤9223372036854775807:=hc2;have R:=Lib.hid (And.intro h2 (And.intro h3 h4));clear h2 h3 h4 hown hrun hb h1c hcl hbase;go_enter Tryz.func119,Tryz.ntmps119;go_wp2_with (at_builtin;refine Lib.wpList_append_run _ rfl _ _ _ _ rfl _ _ rfl rfl _ _ hr ?_)
 all_goals (go_ret;have R':=R.out;first|exact ⟨v',rfl,R'⟩|(subst_vars;exact ⟨v',rfl,R'⟩))
theorem z0p9 {W:World} {g n cap i b off c:Nat} {vs cs:List Value} (hg:W.heap[g]? = some (.cells vs.toArray 101 (0,0))) (hn:n=cap) (hm:n≤1000000) (hcs:vs.length=cap * 6) (h1:∀ u ∈ vs.take (n * 6),u.oneCell'=true) (hi:i<n) (hcl:cs.length=6) (hb:∀ j v,cs[j]? = some v→W.cell? ⟨b,off+j,none⟩=some v) (h1c:∀ v ∈ cs,v.oneCell'=true) :
  Calls Tryz.prog 119 #[.slice (some ⟨g,0,none⟩) n cap,.int .i64 i,.slice (some ⟨b,off,none⟩) 1 c] W fun r W'=>∃ G,∃ row:List Value,n+1≤G∧G≤maxLen∧row.length=G * 6∧r = .returned (.slice (some ⟨W.heap.size,0,none⟩) (n+1) G)∧(∀ u ∈ row.take (i * 6),u.oneCell'=true)∧row.take (i * 6)=vs.take (i * 6) ∧
   W'=(((W.alloc (.cells row.toArray 101)).drew.setCells W.heap.size (i * 6) cs).drew).setCells W.heap.size ((i+1) * 6) ((vs.take (n * 6)).drop (i * 6)):=by
 obtain ⟨ht,ie,zv,he,hz0,hszI,hbz,hzs⟩:=zs1;have hz1:¬ ((1:Int)=0):=by decide
 have hz2:¬ ((i:Int)=(n:Int)):=by omega
 have hz3:(cap:Int)<(n:Int)+1:=by omega
 have hsz:(Tryz.prog.info? 101).map (·.size)=some 6:=by kernel_rfl
 have hgl:g<W.heap.size:=by
  rcases zY1x g W.heap.size with h|h
  ·exact h
  ·rw [zY19 h] at hg;cases hg
 have hbl:b<W.heap.size:=block_lt_of_cell (hb 0 _ (zY03 (by omega)));have hkk:(n:Int)+1 - (i:Int)=((n+1 - i:Nat):Int):=by omega
 have hik:i+(n+1 - i)=n+1:=by omega
 have hg1:W.drew.heap[g]? = some (.cells vs.toArray 101 (0,0)):=hg;have hold:(Builtin.firstCells ie.size i (.slice (some ⟨g,0,none⟩) i cap)).run Tryz.prog W.drew = .ok (vs.take (i * 6)).toArray W.drew:=by
  rw [hszI];exact run_firstCells_some W.drew 6 i ⟨g,0,none⟩ i cap (vs.take (i * 6)) (by rw [zY0f];omega) (fun j v hj=>by
   rw [z9t,cell_of_row _ g _ _ 101 (0,0) hg1];rw [zY18] at hj
   split at hj
   ·simpa using hj
   ·cases hj)
 have hrz:∀ ty,(Builtin.append_ #[25,3] ty #[.slice (some ⟨g,0,none⟩) i cap,.int .i64 ((n:Int)+1 - (i:Int))]).run Tryz.prog W =
   .ok (.slice (some ⟨W.heap.size,0,none⟩) (n+1) (grownCap W (n+1) cap 101)) (W.drew.alloc (.cells ((vs.take (i * 6)).toArray++Builtin.zeroCells zv.cells (n+1 - i)++Builtin.zeroCells zv.cells (grownCap W (n+1) cap 101 - (n+1))) 101)):=fun ty=>by
  have h:=Lib.run_append_grow_zeros W 25 3 ty 101 ie zv .i64 .i64 ht Tryz.underlying3 he hz0 (some ⟨g,0,none⟩) i cap (vs.take (i * 6)) hold (n+1 - i) (by omega) (by omega) (by omega) (by omega) (by rw [hbz];omega) (by rw [hbz,hik];exact growslice_fits (by omega) (by omega));rw [hik] at h;rw [hkk];exact h
 obtain ⟨G,hG⟩:∃ G,G=grownCap W (n+1) cap 101:=⟨_,rfl⟩
 obtain ⟨row,hrow⟩:∃ row:List Value,row=vs.take (i * 6)++(Builtin.zeroCells zv.cells (n+1 - i)).toList++(Builtin.zeroCells zv.cells (G - (n+1))).toList:=⟨_,rfl⟩
 have hrowA:row.toArray=(vs.take (i * 6)).toArray++Builtin.zeroCells zv.cells (n+1 - i)++Builtin.zeroCells zv.cells (G - (n+1)):=by rw [hrow];simp
 rw [← hG,← hrowA] at hrz;have hGn:n+1≤G:=by rw [hG];exact grownCap_ge W _ _ _
 have hGm:G≤maxLen:=by rw [hG];exact grownCap_le_maxLen W (n+1) cap 101 (by unfold maxLen;omega)
 have hG63:G≤9223372036854775807:=hGm;have hrl:row.length=G * 6:=by
  rw [hrow];simp only [zY04,zY0f,zY2f,Builtin.zeroCells,Array.size_map,Array.size_range,hzs];omega
 have hrt:row.take (i * 6)=vs.take (i * 6):=by
  rw [hrow,zY1b,zY1k (by rw [zY0f];omega),zY39,Nat.min_self]
 obtain ⟨mv,hmv⟩:∃ mv,mv=(vs.take (n * 6)).drop (i * 6):=⟨_,rfl⟩
 have hlen:mv.length=(n - i) * 6:=by rw [hmv,zY11,zY0f];omega
 have hcpA:∀ (W':World),W'.heap[W.heap.size]? = some (.cells row.toArray 101 (0,0))→(∀ k v,W.cell? ⟨b,k,none⟩=some v→W'.cell? ⟨b,k,none⟩=some v)→∀ ty dc,(Builtin.copy_ #[25,25] ty #[.slice (some ⟨W.heap.size,i * 6,none⟩) (n+1 - i) dc,.slice (some ⟨b,off,none⟩) 1 c]).run Tryz.prog W' = .ok (goInt (Nat.min 1 (n+1 - i):Nat)) (W'.setCells W.heap.size (i * 6) cs):=fun W' h1' h2' ty dc =>
  zh6 ht hsz h1' (by rw [hcl];show _=min _ _ * 6;rw [Nat.min_def];split <;> omega) (fun j v hj=>by rw [z9t];exact h2' _ v (hb j v hj)) (by omega) h1c
 have hcpB:∀ (W':World) (vs':List Value),vs'.length=G * 6→W'.heap[W.heap.size]? = some (.cells vs'.toArray 101 (0,0))→W'.heap[g]? = some (.cells vs.toArray 101 (0,0))→∀ ty dc sc,(Builtin.copy_ #[25,25] ty #[.slice (some ⟨W.heap.size,(i+1) * 6,none⟩) (n - i) dc,.slice (some ⟨g,i * 6,none⟩) (n - i) sc]).run Tryz.prog W' = .ok (goInt (Nat.min (n - i) (n - i):Nat)) (W'.setCells W.heap.size ((i+1) * 6) mv):=fun W' vs' hl' h1' h2' ty dc sc =>
  zh6 ht hsz h1' (by rw [hlen];show _=min _ _ * 6;rw [Nat.min_def];split <;> omega) (fun j v hj=>by
   rw [z9t,cell_of_row _ g _ _ 101 (0,0) h2'];have hlt:=(zY02.1 hj).1;rw [hmv,zY1m,zY18,if_pos (by omega)] at hj;simpa using hj) (by omega) (fun v hv=>h1 v (by rw [hmv] at hv;exact zY2e hv))
 have hA:=hcpA ((W.alloc (.cells row.toArray 101)).drew) (heap_alloc_new W _) (fun k v h=>zl4 _ h);have hA':=hcpA (W.drew.alloc (.cells row.toArray 101)) (heap_alloc_new W.drew _) (fun k v h=>zl4 (W:=W.drew) _ h);have hgold:(W.alloc (.cells row.toArray 101)).heap[g]? = some (.cells vs.toArray 101 (0,0)):=by
  have:(W.alloc (.cells row.toArray 101)).heap[g]? = W.heap[g]?:=by simp only [World.alloc,zY3n,Nat.ne_of_lt hgl,if_false]
  rw [this];exact hg
 have hB:=hcpB (((W.alloc (.cells row.toArray 101)).drew.setCells W.heap.size (i * 6) cs).drew) (z1z row (i * 6) cs) (by rw [z25,hrl]) (z2a _ _ (W.alloc (.cells row.toArray 101)).drew _ (heap_alloc_new W _)) (by
  show ((W.alloc (.cells row.toArray 101)).drew.setCells W.heap.size (i * 6) cs).heap[g]? = _
  rw [z2l _ _ _ _ _ (by omega)];exact hgold)
 have hw1:IntKind.i64.wrap ((i:Int)+1)=(i:Int)+1:=by rw [IntKind.wrap_i64];omega
 have hw2:IntKind.i64.wrap ((n:Int)+1)=(n:Int)+1:=by rw [IntKind.wrap_i64];omega
 have hp1:(i:Int)≤(n:Int)+1:=by omega
 have hp0:(0:Int)≤(i:Int)+1:=by omega
 have hGi:¬ (G=i):=by omega
 have hGi1:¬ (G=i+1):=by omega
 have hci:¬ (cap=i):=by omega
 have hin:i≤n:=by omega
 have R:Hid (n+1≤G∧G≤maxLen∧row.length=G * 6∧(∀ u ∈ row.take (i * 6),u.oneCell'=true)∧row.take (i * 6)=vs.take (i * 6)∧mv=(vs.take (n * 6)).drop (i * 6)):=Lib.hid ⟨hGn,hGm,hrl,fun u hu=>h1 u (by rw [hrt] at hu;exact (List.take_sublist_take_left (by omega)).subset hu),hrt,hmv⟩;have hic:i≤cap:=by omega
 have hn':=Lib.hid hn;clear hn hmv hlen hg hg1 hgold hcs h1 hb h1c hcl hcpA hcpB hrt hrl hrow hrowA hG hGm hold hkk hik;go_enter Tryz.func119,Tryz.ntmps119;go_wp2_with ((at_builtin;refine Lib.wpList_append_run _ rfl _ _ _ _ rfl _ _ rfl rfl _ _ (hrz _) ?_));go_region_law (refine zl5 rfl _ _ 25 25 rfl _ _ (by simp [Act.eval,Act.put]) (by simp [Act.eval,Act.put]) (hB _ _ _) ?_);go_wp2;go_ret;obtain ⟨r1,r2,r3,r4,r5,r6⟩:=R.out;exact ⟨G,row,r1,r2,r3,rfl,r4,r5,by rw [r6]⟩
noncomputable def zco:za:=spD (fun x:List Coin × Int × List Coin=>0≤x.2.1∧x.2.1≤x.1.length∧x.1.length≤1000000∧x.2.2.length=1) fun x=>x.1.take x.2.1.toNat++x.2.2++x.1.drop x.2.1.toNat
theorem z0m2:Meets Tryz.prog zco 119 ⟨[.mine 101 6,.one,.one],[(false,[.fresh 101 6])],false⟩ :=
 z0m0 rfl (by decide) (z1x (fn:=Tryz.f119) (by kernel_rfl) (by kernel_rfl) (by kernel_rfl)) (fun W g n cap i b off c vs cs h1 h2 h3 h4 h5 h6 h7 h8 h9 h10=>z0p8 h1 h2 h3 h4 h5 h6 h7 h8 h9 h10) (fun W base v n b off c olds cs h1 h2 h3 h4 h5 h6=>z0sc h1 h2 h3 h4 h5 h6) (fun W g n cap i b off c vs cs h1 h2 h3 h4 h5 h6 h7 h8 h9=>z0p9 h1 h2 h3 h4 h5 h6 h7 h8 h9)
end
section
open Go.RowKit
set_option maxRecDepth 100000
set_option maxHeartbeats 4000000
theorem zx2 (l:List Coin) (i j:Int) (h:0≤i∧i≤j∧j≤l.length):zaa [.l 6 (l.map zh),I i,I j]=some [.l 6 ((l.take i.toNat++l.drop j.toNat).map zh)]:=ze (p:=fun x:List Coin × Int × Int=>0≤x.2.1∧x.2.1≤x.2.2∧x.2.2≤x.1.length) (f:=fun x:List Coin × Int × Int=>x.1.take x.2.1.toNat++x.1.drop x.2.2.toNat) (l,i,j) h
theorem zhu (l:List Coin) (i:Int) (c:Coin) (h:0≤i∧i≤l.length∧l.length≤1000000):zco [.l 6 (l.map zh),I i,.l 6 ([c].map zh)]=some [.l 6 ((l.take i.toNat++[c]++l.drop i.toNat).map zh)]:=ze (p:=fun x:List Coin × Int × List Coin=>0≤x.2.1∧x.2.1≤x.1.length∧x.1.length≤1000000∧x.2.2.length=1) (f:=fun x:List Coin × Int × List Coin=>x.1.take x.2.1.toNat++x.2.2++x.1.drop x.2.1.toNat) (l,i,[c]) ⟨h.1,h.2.1,h.2.2,rfl⟩
noncomputable def z86:za:=spD (fun _:List Coin × Tx × Int × Int=>True) fun x=>zw x.1 x.2.1 x.2.2.1 x.2.2.2
theorem zhv (l:List Coin) (t:Tx) (nm h:Int):z86 [.l 6 (l.map zh),I t.height,.l 3 (t.ins.map eIn),.l 2 (t.outs.map z3b),I nm,I h]=some [.l 6 ((zw l t nm h).1.map zh),.l 6 ((zw l t nm h).2.1.map zh),I (zw l t nm h).2.2]:=ze (f:=fun x:List Coin × Tx × Int × Int=>zw x.1 x.2.1 x.2.2.1 x.2.2.2) (l,t,nm,h) trivial
theorem zpx {a b:Dt} {n:Int} {pk:List PK} {l:Bool} {g:Bool}:z7i ⟨pk,[(false,[.pure]),(g,[.pure]),(false,[.scal])],l⟩ [a,b,I n]:=by
 intro i d hi hd
 match i,hi,hd with
 | 0,hi,_=>simp [zu] at hi
 | 1,hi,_=>simp [zu] at hi
 | 2,_,hd=>simp only [zY2k,zY05,zY00] at hd;subst hd;rfl
 | i+3,hi,_=>simp [zu] at hi
attribute [local irreducible] z01 spD z1h zd zm z22 z0z z4c z9
theorem zx3 (t:Tx):zcf [I t.height,.l 3 (t.ins.map eIn),.l 2 (t.outs.map z3b)]=some [I (zm t)]:=ze (f:=fun t:Tx=>zm t) t trivial
def z0du:T :=
 .W [.B .add 28 (zI 1)] [] (.W [.call 13 [22,28,44] 0] [] (.W [.B .add 23 (zI 1)] [] (.again 0 [19,20,43,45,.v
 46])))
def z0dv:T :=
 .ite 41 (.ret [.c (.nil 6),.c (.nil 6),zI 8]) (.W [.mk 6 [[31,32,33,34,35,36]]] [] (.W [.app 6 21 42] [] z0du))
def z0dw:T :=
 .ite 38 (.ret [.c (.nil 6),.c (.nil 6),zI 10]) (.W [.call 15 [34,27,5] 0,.call 15 [34,27,5] 1] [] (.W [.not 39] [] z0dv))
def z0dx:T :=
 .W [.B .add 28 (zI 1)] [] (.W [.call 13 [22,28,42] 0] [] (.W [.B .add 23 (zI 1)] [] (.again 0 [19,20,41,43,.v
 44])))
def z0dy:T :=
 .ite 39 (.ret [.c (.nil 6),.c (.nil 6),zI 8]) (.W [.mk 6 [[31,32,33,34,35,36]]] [] (.W [.app 6 21 40] [] z0dx))
def z0dz:T :=
 .ite 36 (.W [.B .add 35 (zI 2)] [] (.W [.B .lss 5 37] [] z0dw)) (.W [.call 15 [34,27,5] 0,.call 15 [34,27,5]
 1] [] (.W [.not 37] [] z0dy))
def z0e0:T :=
 .W [.idx 22 28 0,.idx 22 28 1,.idx 22 28 2,.idx 22 28 3,.idx 22 28 4,.idx 22 28 5] [] z0dz
def z0e1:T :=
 .W [.call 6 [22,25,26] 0,.call 6 [22,25,26] 1] [] (.W [.not 29] [] (.ite 30 (.ret [.c (.nil 6),.c (.nil 6),zI 7]) (.W [] [.inr
 6 22 28] z0e0)))
def z0e2:T :=
 .W [.mk 6 [[4,29,31,35,5,15]]] [] (.W [.call 14 [28,33,36] 0] [] (.W [.B .add 29 (zI 1)] [] (.again 1 [26,27,.v
 37,38])))
def z0e3:T :=
 .W [.call 6 [28,4,29] 0,.call 6 [28,4,29] 1] [] (.ite 34 (.ret [.c (.nil 6),.c (.nil 6),zI 6]) (.W [.call 10 [32] 0] []
 z0e2))
def z06m:T :=
 .W [.call 8 [28] 0] [] (.W [.B .neq 31 (zI 0)] [] (.ite 32 (.ret [.c (.nil 6),.c (.nil 6),31]) (.ret [28,21,zI 0])))
def z06n:T :=
 .W [.B .lss 29 25] [] (.ite 30 (.W [] [.inr 2 3 29] (.W [.idx 3 29 0,.idx 3 29 1] [] z0e3)) z06m)
def z06o:T :=
 .ite 24 (.W [] [.inr 3 2 23] (.W [.idx 2 23 0,.idx 2 23 1,.idx 2 23 2] [] z0e1)) (.W [.len 3] [] (.loop [.c (.nil
 6),zI 0,22,zI 0] z06n))
def z06p:T :=
 .W [.call 11 [0] 0] [] (.W [.len 2] [] (.loop [.c (.nil 6),zI 0,.c (.nil 6),17,zI 0] (.W [.B .lss 23 18] [] z06o)))
def z06q:T :=
 .W [.B .add 27 (zI 1)] [] (.W [.call 13 [21,27,43] 0] [] (.W [.B .add 22 (zI 1)] [] (.again 0 [18,19,42,44,.v
 45])))
def z06r:T :=
 .ite 40 (.ret [.c (.nil 6),.c (.nil 6),zI 8]) (.W [.mk 6 [[30,31,32,33,34,35]]] [] (.W [.app 6 20 41] [] z06q))
def z06s:T :=
 .ite 37 (.ret [.c (.nil 6),.c (.nil 6),zI 10]) (.W [.call 15 [33,26,5] 0,.call 15 [33,26,5] 1] [] (.W [.not 38] [] z06r))
def z06t:T :=
 .W [.B .add 27 (zI 1)] [] (.W [.call 13 [21,27,41] 0] [] (.W [.B .add 22 (zI 1)] [] (.again 0 [18,19,40,42,.v
 43])))
def z06u:T :=
 .ite 38 (.ret [.c (.nil 6),.c (.nil 6),zI 8]) (.W [.mk 6 [[30,31,32,33,34,35]]] [] (.W [.app 6 20 39] [] z06t))
def z06v:T :=
 .ite 35 (.W [.B .add 34 (zI 2)] [] (.W [.B .lss 5 36] [] z06s)) (.W [.call 15 [33,26,5] 0,.call 15 [33,26,.v
 5] 1] [] (.W [.not 36] [] z06u))
def z06w:T :=
 .W [.idx 21 27 0,.idx 21 27 1,.idx 21 27 2,.idx 21 27 3,.idx 21 27 4,.idx 21 27 5] [] z06v
def z06x:T :=
 .W [.call 6 [21,24,25] 0,.call 6 [21,24,25] 1] [] (.W [.not 28] [] (.ite 29 (.ret [.c (.nil 6),.c (.nil 6),zI 7]) (.W [] [.inr
 6 21 27] z06w)))
def z06y:T :=
 .W [.mk 6 [[4,30,32,36,5,15]]] [] (.W [.call 14 [29,34,37] 0] [] (.W [.B .add 30 (zI 1)] [] (.again 1 [27,28,.v
 38,39])))
def z06z:T :=
 .W [.call 6 [29,4,30] 0,.call 6 [29,4,30] 1] [] (.ite 35 (.ret [.c (.nil 6),.c (.nil 6),zI 6]) (.W [.call 10 [33] 0] []
 z06y))
def z070:T :=
 .W [.call 8 [29] 0] [] (.W [.B .neq 32 (zI 0)] [] (.ite 33 (.ret [.c (.nil 6),.c (.nil 6),32]) (.ret [29,20,zI 0])))
def z071:T :=
 .W [.B .lss 30 26] [] (.ite 31 (.W [] [.inr 2 3 30] (.W [.idx 3 30 0,.idx 3 30 1] [] z06z)) z070)
def z072:T :=
 .ite 25 (.ret [.c (.nil 6),.c (.nil 6),zI 9]) (.W [.len 3] [] (.loop [.c (.nil 6),zI 0,21,zI 0] z071))
def z073:T :=
 .ite 23 (.W [] [.inr 3 2 22] (.W [.idx 2 22 0,.idx 2 22 1,.idx 2 22 2] [] z06x)) (.W [.call 12 [1,2,3,.v
 20] 0] [] (.W [.B .lss 24 (zI 0)] [] z072))
def z074:T :=
 .W [.call 11 [0] 0] [] (.W [.len 2] [] (.loop [.c (.nil 6),zI 0,.c (.nil 6),16,zI 0] (.W [.B .lss 22 17] [] z073)))
def z075:T :=
 .W [.B .eql 14 (zI 0)] [] (.ite 15 (.W [.B .neq 1 5] [] (.ite 16 (.ret [.c (.nil 6),.c (.nil 6),zI 4]) z06p))
 z074)
def z076:T :=
 .ite 12 (.ret [.c (.nil 6),.c (.nil 6),zI 3]) (.W [.B .gtr 5 (zI 1000)] [] (.ite 13 (.ret [.c (.nil 6),.c (.nil 6),zI 3])
 (.W [.len 2] [] z075)))
def z077:T :=
 .W [.B .gtr 4 (zI 120)] [] (.ite 11 (.ret [.c (.nil 6),.c (.nil 6),zI 3]) (.W [.B .lss 5 (zI 1)] [] z076))
def z078:T :=
 .ite 9 (.ret [.c (.nil 6),.c (.nil 6),8]) (.W [.B .lss 4 (zI 1)] [] (.ite 10 (.ret [.c (.nil 6),.c (.nil 6),zI 3]) z077))
def z079:T :=
 .W [.B .neq 6 (zI 0)] [] (.ite 7 (.ret [.c (.nil 6),.c (.nil 6),6]) (.W [.call 16 [1,2,3] 0] [] (.W [.B .neq 8 (.c (.i .i64
 0))] [] z078)))
def zjf:T :=
 .W [.call 8 [0] 0] [] z079
theorem z0m3:Meets Tryz.prog z86 73 ⟨[.one,.agg 3,.one,.one],[(false,[.pure]),(true,[.pure]),(false,[.scal])],false⟩:=by
 refine z6i (sp:=(zy [(6,zch),(8,z5q),(10,z6c),(11,zbs),(12,z7q),(13,zaa),(14,zco),(15,za4),(16,zcf)])) (sigs:=z05) (cut:=[]) (hints:=[⟨19,[.r 8 101 6,.t 10,.r 0 101 6,.t 111,.z 84,.z 83,.z 78]⟩]) (fns:=[z8x 117 Tryz.f117 [⟨2,[.r 6 101 6,.t 8,.r 7 101 6,.r 0 101 6,.t 19]⟩] [],z8x 116 Tryz.f116 [] []]) (dep:=2) (pool:=240) (fn:=Tryz.f73) (t:=zjf) (by kernel_rfl) (by kernel_rfl) (by kernel_rfl) ?_ ?_ ?_
 ·exact (z2h (fn:=Tryz.f117) (by kernel_rfl) (by kernel_rfl) (by kernel_rfl) (by kernel_rfl) (by kernel_rfl) (z2h (fn:=Tryz.f116) (by kernel_rfl) (by kernel_rfl) (by kernel_rfl) (by kernel_rfl) (by kernel_rfl) z7k))
 ·exact (zr (L:=[(6,zch),(8,z5q),(10,z6c),(11,zbs),(12,z7q),(13,zaa),(14,zco),(15,za4),(16,zcf)]) ⟨z7 rfl z0l4,z7 rfl zun,z7 rfl z02s,z7 rfl z0ow,z7 rfl z0g1,z7 rfl z0m1,z7 rfl z0m2,z7 rfl z0ct,z7 rfl z0l2,trivial⟩)
 ·rintro ds rs - h
  obtain ⟨⟨l,t,nm,ht⟩,-,rfl,rfl⟩:=zg h;clear h;refine ⟨⟨t.ins.length+t.outs.length+1,?_⟩,zpx⟩
  show den _ _ zjf [.l 6 (l.map zh),I t.height,.l 3 (t.ins.map eIn),.l 2 (t.outs.map z3b),I nm,I ht] []=ret (zw l t nm ht)
  unfold zjf zw
  repeat' (first|refine dq1 ?_|refine dqk rfl (z8t _) ?_|refine dqk rfl (zx3 _) ?_|exact z5 rfl rfl|((first|refine tR ?_ ?_|refine tO ?_ ?_) <;> intro h)|fail)
  all_goals
   have ok:CoinsOK l:=(z12 l).1 (zY0u.1 (by assumption));have okt:TxOK t:=z4n (zY0u.1 (by assumption));have hl:=ok.len;have hti:=okt.ins;have hto:=okt.outs
   repeat' (first|refine dq1 ?_|refine dqk rfl (z05r _ ok.short) ?_|fail)
  ·(refine zn (fun (st:List Coin × List Coin) k=>[.l 6 (([]:List Coin).map zh),I 0,.l 6 (st.2.map zh),.l 6 (st.1.map zh),I k]) (fun (st:List Coin × List Coin) _ (xs:List In)=>z36 ht z1j (fun r s=>z2z nm ht (decide ((t.ins.length:Int)=0)) z1j (z5f s) r 0 t.outs) st.1 st.2 xs) (fun st k=>SpI l st k) (l,[]) t.ins ?_ ?_ ?_ ?_ ?_;rfl;exact ⟨ok.sorted,zY0k _,ok.good,rfl,fun c hc=>by cases hc⟩;omega)
   ·rintro ⟨r,s⟩ k x xs hx hd hk hI again hag
    rename_i h0 _;omega
   ·rintro ⟨r,s⟩ hI again
    rw [z36]
    repeat' (first|refine dq1 ?_|refine dqF ?_|fail)
    (refine zn (fun (r:List Coin) k=>[.l 6 (([]:List Coin).map zh),I 0,.l 6 (r.map zh),I k]) (fun (r:List Coin) k (os:List Out)=>z2z nm ht (decide ((t.ins.length:Int)=0)) z1j (z5f s) r k os) (fun r k=>z03 r∧r.length≤l.length+k) r t.outs ?_ ?_ ?_ ?_ ?_;rfl;exact ⟨hI.sorted,hI.len⟩;omega)
    ·rintro r k o os hx hd hk ⟨hs,hrl⟩ again' hag
     rw [z2z];have hol:=z9z (okt.good o (zY07 hx)).2.2;have hpl:=zm5 r ⟨nm,k⟩;have e1:((zq r ⟨nm,k⟩:Int)).toNat=zq r ⟨nm,k⟩:=by omega
     repeat' (first|refine dq1 ?_|refine dqc ?_|refine dqm ?_|refine dqK rfl (zc0 r ⟨nm,k⟩ hs (by omega)) ?_|refine dqk rfl (z9x _ (by omega)) ?_|exact z5 rfl rfl|refine tB (fun h=>?_) fun h=>?_|refine dqT ?_|fail)
     have hno:=h;refine z4 (z1m (r:=[(⟨⟨nm,k⟩,o,ht,decide ((t.ins.length:Int)=0)⟩:Coin)].map zh) rfl rfl (by simp)) ?_;refine z4 (z3c rfl (zhu _ _ _ ⟨by omega,by omega,by omega⟩) rfl) ?_;refine z4 (z82 rfl rfl (by omega)) ?_;rw [e1];exact z6 rfl rfl (hag _ ⟨z6s hs (c:=⟨⟨nm,k⟩,o,ht,decide ((t.ins.length:Int)=0)⟩) hno,by simp only [zY04,zY0f,zY11,zY1i];omega⟩)
    ·rintro r hr again'
     rw [z2z];unfold z5f
     repeat' (first|refine dq1 ?_|refine dqk rfl (z8t _) ?_|exact z5 rfl rfl|refine tR (fun h=>?_) fun h=>?_|refine dqF ?_|fail)
  ·(refine zn (fun (st:List Coin × List Coin) k=>[.l 6 (([]:List Coin).map zh),I 0,.l 6 (st.2.map zh),.l 6 (st.1.map zh),I k]) (fun (st:List Coin × List Coin) _ (xs:List In)=>z36 ht z1j (fun r s=>if z0z t s<0 then z1j 9 else z2z nm ht (decide ((t.ins.length:Int)=0)) z1j (z5f s) r 0 t.outs) st.1 st.2 xs) (fun st k=>SpI l st k) (l,[]) t.ins ?_ ?_ ?_ ?_ ?_;rfl;exact ⟨ok.sorted,zY0k _,ok.good,rfl,fun c hc=>by cases hc⟩;omega)
   ·rintro ⟨r,s⟩ k x xs hx hd hk hI again hag
    rw [z36];simp only;have hs:=hI.sorted;have hrl:=hI.len;simp only at hs hrl
    repeat' (first|refine dq1 ?_|refine dqc ?_|refine dqm ?_|refine dqK rfl (zc0 _ _ hs (by omega)) ?_|exact z5 rfl rfl|refine tN (fun h=>?_) fun h=>?_|refine dqT ?_|fail)
    obtain ⟨hlt,hp⟩:=(zm6 hs x.p).1 h;have hc:r[zq r x.p]? = some r[zq r x.p]:=zY03 hlt;rw [hc];generalize r[zq r x.p]=c at *;have hcb:=z3v (hI.good c (zY07 hc));have e1:((zq r x.p:Int)).toNat=zq r x.p:=by omega
    have e2:((zq r x.p:Int)+1).toNat=zq r x.p+1:=by omega
    simp only [zY1o];have hxo:=hx;have hx:=hc
    repeat' (first|refine dq1 ?_|refine dqc ?_|refine dqm ?_|refine dqK rfl (zpe _ _ _) ?_|exact z5 rfl rfl|((first|refine tR ?_ ?_|refine tB ?_ ?_|refine tN ?_ ?_) <;> intro h)|fail)
    all_goals (refine z4 (z1m (r:=[c].map zh) rfl rfl (by simp)) ?_;refine z4 (zir (l:=s) (l':=[c]) rfl rfl (by have:=hI.cnt;simp only at this ⊢;simp only [zY1i];omega)) ?_;refine z4 (z82 rfl rfl (by omega)) ?_;refine z4 (z3c rfl (zx2 _ _ _ ⟨by omega,by omega,by omega⟩) rfl) ?_;refine z4 (z82 rfl rfl (by omega)) ?_;rw [e1,e2];exact z6 rfl rfl (hag (r.take (zq r x.p)++r.drop (zq r x.p+1),s++[c]) (hI.cut hc)))
   ·rintro ⟨r,s⟩ hI again
    rw [z36]
    repeat' (first|refine dq1 ?_|refine dqk rfl (zf7 t s (hI.fee okt)) ?_|exact z5 rfl rfl|refine tR (fun h=>?_) fun h=>?_|refine dqF ?_|fail)
    (refine zn (fun (r:List Coin) k=>[.l 6 (([]:List Coin).map zh),I 0,.l 6 (r.map zh),I k]) (fun (r:List Coin) k (os:List Out)=>z2z nm ht (decide ((t.ins.length:Int)=0)) z1j (z5f s) r k os) (fun r k=>z03 r∧r.length≤l.length+k) r t.outs ?_ ?_ ?_ ?_ ?_;rfl;exact ⟨hI.sorted,hI.len⟩;omega)
    ·rintro r k o os hx hd hk ⟨hs,hrl⟩ again' hag
     rw [z2z];have hol:=z9z (okt.good o (zY07 hx)).2.2;have hpl:=zm5 r ⟨nm,k⟩;have e1:((zq r ⟨nm,k⟩:Int)).toNat=zq r ⟨nm,k⟩:=by omega
     repeat' (first|refine dq1 ?_|refine dqc ?_|refine dqm ?_|refine dqK rfl (zc0 r ⟨nm,k⟩ hs (by omega)) ?_|refine dqk rfl (z9x _ (by omega)) ?_|exact z5 rfl rfl|refine tB (fun h=>?_) fun h=>?_|refine dqT ?_|fail)
     have hno:=h;refine z4 (z1m (r:=[(⟨⟨nm,k⟩,o,ht,decide ((t.ins.length:Int)=0)⟩:Coin)].map zh) rfl rfl (by simp)) ?_;refine z4 (z3c rfl (zhu _ _ _ ⟨by omega,by omega,by omega⟩) rfl) ?_;refine z4 (z82 rfl rfl (by omega)) ?_;rw [e1];exact z6 rfl rfl (hag _ ⟨z6s hs (c:=⟨⟨nm,k⟩,o,ht,decide ((t.ins.length:Int)=0)⟩) hno,by simp only [zY04,zY0f,zY11,zY1i];omega⟩)
    ·rintro r hr again'
     rw [z2z];unfold z5f
     repeat' (first|refine dq1 ?_|refine dqk rfl (z8t _) ?_|exact z5 rfl rfl|refine tR (fun h=>?_) fun h=>?_|refine dqF ?_|fail)
end
section
open Go.RowKit
set_option maxRecDepth 100000
set_option maxHeartbeats 4000000
attribute [local irreducible] z01 spD z1h zd zm z9
def z07a (l:List Coin):Prop:=∀ c ∈ l,c.o.lock.length≤8796093022208
noncomputable def z0e4:za:=spD (fun x:List Coin × Tx × Int × List Coin=>z07a x.2.2.2) fun x=>z57 x.1 x.2.1 x.2.2.1 x.2.2.2
end
section
open Go.RowKit
theorem hasP_mem {l:List Coin} {p:Point}:z1n l p=true↔∃ c ∈ l,c.p=p:=by
 unfold z1n;rw [zY34];constructor
 ·rintro ⟨c,hc,h⟩;exact ⟨c,hc,of_decide_eq_true h⟩
 ·rintro ⟨c,hc,h⟩;exact ⟨c,hc,decide_eq_true h⟩
theorem hasP_not {l:List Coin} {p:Point}:z1n l p=false↔∀ c ∈ l,c.p≠p:=by
 rw [← zY31,hasP_mem];constructor
 ·intro h c hc he;exact h ⟨c,hc,he⟩
 ·rintro h ⟨c,hc,he⟩;exact h c hc he
theorem zl6 {l:List Coin} (h:z03 l) {c d:Coin} (hc:c ∈ l) (hd:d ∈ l) (hp:c.p=d.p):c=d:=by
 obtain ⟨i,hi,rfl⟩:=zY2g hc;obtain ⟨j,hj,rfl⟩:=zY2g hd;rcases Nat.lt_trichotomy i j with hij|rfl|hij
 ·have:=z9a h hij hj;rw [hp] at this;exact absurd this (z4k _)
 ·rfl
 ·have:=z9a h hij hi;rw [hp] at this;exact absurd this (z4k _)
theorem zpy {l:List Coin} (h:z03 l) {c:Coin} (hc:c ∈ l):l[zq l c.p]? = some c:=by
 obtain ⟨hlt,hp⟩:=(zm6 h c.p).1 (hasP_mem.2 ⟨c,hc,rfl⟩);rw [zY03 hlt];exact congrArg some (zl6 h (zY1w hlt) hc hp)
theorem z0sd {l:List Coin} (h:z03 l) {p:Point} (hp:z1n l p=true):∃ c,l[zq l p]? = some c∧c ∈ l∧c.p=p:=by
 obtain ⟨c,hc,rfl⟩:=hasP_mem.1 hp;exact ⟨c,zpy h hc,hc,rfl⟩
theorem zh8:∀ {a b:List Coin},z03 a→z03 b→(∀ c,c ∈ a↔c ∈ b)→a=b
 | [],[],_,_,_=>rfl
 | [],y::b,_,_,h=>by have:=(h y).2 (zY0j ..);cases this
 | x::a,[],_,_,h=>by have:=(h x).1 (zY0j ..);cases this
 | x::a,y::b,ha,hb,h=>by
  have ha':=zY1d.1 ha;have hb':=zY1d.1 hb;have hxy:x=y:=by
   rcases zY0g.1 ((h x).1 (zY0j ..)) with e|hx
   ·exact e
   ·rcases zY0g.1 ((h y).2 (zY0j ..)) with e|hy
    ·exact e.symm
    ·exact absurd (hb'.1 x hx) (ziv (ha'.1 y hy))
  subst hxy;congr 1;refine zh8 ha'.2 hb'.2 fun c=>⟨fun hc=>?_,fun hc=>?_⟩
  ·rcases zY0g.1 ((h c).1 (zY0i _ hc)) with rfl|h'
   ·exact absurd (ha'.1 c hc) (z4k _)
   ·exact h'
  ·rcases zY0g.1 ((h c).2 (zY0i _ hc)) with rfl|h'
   ·exact absurd (hb'.1 c hc) (z4k _)
   ·exact h'
theorem zsc {l:List Coin} (h:z03 l) {c:Coin} {k:Nat} (hk:l[k]? = some c) {d:Coin}:d ∈ l.take k++l.drop (k+1)↔d ∈ l∧d.p≠c.p:=by
 obtain ⟨hlt,rfl⟩:=zY02.1 hk;have hsplit:l=l.take k++l[k]::l.drop (k+1):=by rw [List.getElem_cons_drop,zY10]
 have hs:z03 (l.take k++l[k]::l.drop (k+1)):=by rw [← hsplit];exact h
 obtain ⟨_,h2,h3⟩:=zY2l.1 hs;have h2':=zY1d.1 h2;constructor
 ·intro hd
  refine ⟨?_,?_⟩
  ·rcases zY12.1 hd with hd|hd
   ·exact zY2d hd
   ·exact zY2e hd
  ·rcases zY12.1 hd with hd|hd
   ·intro e;have:=h3 d hd l[k] (zY0j ..);rw [e] at this;exact z4k _ this
   ·intro e;have:=h2'.1 d hd;rw [e] at this;exact z4k _ this
 ·rintro ⟨hd,hne⟩
  rw [hsplit] at hd;rcases zY12.1 hd with hd|hd
  ·exact List.mem_append_left _ hd
  ·rcases zY0g.1 hd with rfl|hd
   ·exact absurd rfl hne
   ·exact zY3i _ hd
theorem put_mem {l:List Coin} {c d:Coin} {k:Nat}:d ∈ l.take k++[c]++l.drop k↔d=c∨d ∈ l:=by
 have:d ∈ l↔d ∈ l.take k∨d ∈ l.drop k:=by rw [← zY12,zY10]
 rw [zY12,zY12,zY13,this];constructor
 ·rintro ((h|h)|h)
  ·exact .inr (.inl h)
  ·exact .inl h
  ·exact .inr (.inr h)
 ·rintro (h|h|h)
  ·exact .inl (.inr h)
  ·exact .inl (.inl h)
  ·exact .inr h
theorem z0m4 {l:List Coin} {c:Coin} {k:Nat} (hk:l[k]? = some c):zi l=zi (l.take k++l.drop (k+1))+c.o.coin:=by
 obtain ⟨hlt,rfl⟩:=zY02.1 hk;have hsplit:l=l.take k++l[k]::l.drop (k+1):=by rw [List.getElem_cons_drop,zY10]
 have e:zi l=zi (l.take k++l[k]::l.drop (k+1)):=by rw [← hsplit]
 rw [e,z53,z53,zi];omega
theorem z0m5 {l:List Coin} {c:Coin} {k:Nat}:zi (l.take k++[c]++l.drop k)=zi l+c.o.coin:=by
 have e:zi l=zi (l.take k++l.drop k):=by rw [zY10]
 rw [e,z53,z53,z53,zi,zi];omega
structure Fine (h:Int) (x:In) (c:Coin):Prop where
 p:c.p=x.p
 ripe:c.reward=true→c.height+2≤h
 opens:(z22 c.o.lock x.key h).1=true
inductive Spent (h:Int):List Coin→List Coin→List In→List Coin→List Coin→Prop
 | nil (r s):Spent h r s [] r s
 | cons {r s x xs r' s' c}:c ∈ r→r[zq r x.p]? = some c→Fine h x c→Spent h (r.take (zq r x.p)++r.drop (zq r x.p+1)) (s++[c]) xs r' s'→Spent h r s (x::xs) r' s'
theorem zpz {ρ:Type} {h:Int} {bad:Int→ρ} {K:List Coin→List Coin→ρ} {r s:List Coin} {x:In} {xs:List In} {c:Coin} (hm:c ∈ r) (hc:r[zq r x.p]? = some c) (hf:Fine h x c):z36 h bad K r s (x::xs)=z36 h bad K (r.take (zq r x.p)++r.drop (zq r x.p+1)) (s++[c]) xs:=by
 have hp:z1n r x.p=true:=hasP_mem.2 ⟨c,hm,hf.p⟩;rw [z36,if_pos hp,hc];simp only [zY1o];rw [if_pos hf.opens]
 by_cases hr:c.reward=true
 ·rw [if_pos hr,if_neg (by have:=hf.ripe hr;omega)]
 ·rw [if_neg hr]
theorem Spent.run {ρ:Type} {h:Int} {bad:Int→ρ} {K:List Coin→List Coin→ρ} {r s r' s':List Coin} {xs:List In} (hs:Spent h r s xs r' s'):z36 h bad K r s xs=K r' s':=by
 induction hs with
 | nil r s=>rfl
 | cons hm hc hf _ ih=>rw [zpz hm hc hf,ih]
theorem zmf {h:Int} {K:List Coin→List Coin→List Coin × List Coin × Int}:∀ {xs:List In} {r s:List Coin},z03 r→(z36 h z1j K r s xs).2.2=0→∃ r' s',Spent h r s xs r' s'∧z36 h z1j K r s xs=K r' s'
 | [],r,s,_,_=>⟨r,s,.nil r s,rfl⟩
 | x::xs,r,s,hr,h0=>by
  by_cases hp:z1n r x.p=true
  ·obtain ⟨c,hc,hm,hcp⟩:=z0sd hr hp
   have hf:Fine h x c:=by
    rw [z36,if_pos hp,hc] at h0;simp only [zY1o] at h0
    by_cases hrw:c.reward=true
    ·rw [if_pos hrw] at h0
     by_cases hh:h<c.height+2
     ·rw [if_pos hh] at h0;cases h0
     ·rw [if_neg hh] at h0
      by_cases ho:(z22 c.o.lock x.key h).1=true
      ·exact ⟨hcp,fun _=>by omega,ho⟩
      ·rw [if_neg ho] at h0;cases h0
    ·rw [if_neg hrw] at h0
     by_cases ho:(z22 c.o.lock x.key h).1=true
     ·exact ⟨hcp,fun h=>absurd h hrw,ho⟩
     ·rw [if_neg ho] at h0;cases h0
   have e:=zpz (bad:=z1j) (K:=K) (s:=s) (xs:=xs) hm hc hf;rw [e] at h0 ⊢;obtain ⟨r',s',h1,h2⟩:=zmf (z85 hr _) h0;exact ⟨r',s',.cons hm hc hf h1,h2⟩
  ·rw [z36,if_neg hp] at h0
   cases h0
structure SpentAs (h:Int) (r:List Coin) (xs:List In) (r' cs:List Coin):Prop where
 sorted:z03 r'
 mem:∀ c,c ∈ r'↔c ∈ r∧∀ x ∈ xs,x.p≠c.p
 len:cs.length=xs.length
 fine:∀ (i:Nat) (x:In),xs[i]? = some x→∃ c,cs[i]? = some c∧c ∈ r∧Fine h x c
 apart:xs.Pairwise fun x y=>x.p≠y.p
 total:zi r=zi r'+zi cs
theorem Spent.as {h:Int} {r s r' s':List Coin} {xs:List In} (hs:Spent h r s xs r' s'):z03 r→∃ cs,s'=s++cs∧SpentAs h r xs r' cs:=by
 induction hs with
 | nil r s=>exact fun hr=>⟨[],(zY1e s).symm,hr,fun c=>by simp,rfl,fun i x hx=>by simp at hx,.nil,by simp [zi]⟩
 | @cons r s x xs r' s' c hm hc hf hs ih =>
  intro hr;obtain ⟨cs,rfl,H⟩:=ih (z85 hr _);have hcm:=fun d=>zsc hr hc (d:=d)
  refine ⟨c::cs,by simp,H.sorted,fun d=>?_,by simp [H.len],fun i y hy=>?_,?_,?_⟩
  ·rw [H.mem,hcm]
   constructor
   ·rintro ⟨⟨h1,h2⟩,h3⟩
    refine ⟨h1,fun y hy=>?_⟩;rcases zY0g.1 hy with rfl|hy
    ·rw [← hf.p];exact fun e=>h2 e.symm
    ·exact h3 y hy
   ·rintro ⟨h1,h2⟩
    exact ⟨⟨h1,fun e=>h2 x (zY0j ..) (by rw [← hf.p,e])⟩,fun y hy=>h2 y (zY0i _ hy)⟩
  ·cases i with
   | zero =>
    simp only [zY05,zY00] at hy;subst hy;exact ⟨c,rfl,hm,hf⟩
   | succ i =>
    obtain ⟨d,h1,h2,h3⟩:=H.fine i y (by simpa using hy);exact ⟨d,by simpa using h1,(hcm d).1 h2 |>.1,h3⟩
  ·refine zY1d.2 ⟨fun y hy=>?_,H.apart⟩
   obtain ⟨i,hi⟩:=zY2b hy;obtain ⟨d,_,h2,h3⟩:=H.fine i y hi;have:=((hcm d).1 h2).2;rw [h3.p,hf.p] at this;exact fun e=>this e.symm
  ·rw [z0m4 hc,H.total,zi];omega
theorem Spent.of {h:Int}:∀ {xs:List In} {r s cs:List Coin},z03 r→xs.Pairwise (fun x y=>x.p≠y.p)→cs.length=xs.length→(∀ (i:Nat) (x:In),xs[i]? = some x→∃ c,cs[i]? = some c∧c ∈ r∧Fine h x c)→∃ r',Spent h r s xs r' (s++cs)
 | [],r,s,cs,hr,ha,hl,hf=>by
  have:cs=[]:=zY0c hl;subst this;exact ⟨r,by rw [zY1e];exact .nil r s⟩
 | x::xs,r,s,[],hr,ha,hl,hf=>by cases hl
 | x::xs,r,s,c::cs,hr,ha,hl,hf=>by
  obtain ⟨c',h1,hm,hfx⟩:=hf 0 x rfl;simp only [zY05,zY00] at h1;subst h1;have hc:r[zq r x.p]? = some c:=by rw [← hfx.p];exact zpy hr hm
  have ha':=zY1d.1 ha;obtain ⟨r',hs⟩:=Spent.of (s:=s++[c]) (cs:=cs) (z85 hr (zq r x.p)) ha'.2 (by simpa using hl) fun i y hy=>by
   obtain ⟨d,k1,k2,k3⟩:=hf (i+1) y (by simpa using hy);refine ⟨d,by simpa using k1,(zsc hr hc).2 ⟨k2,?_⟩,k3⟩;rw [k3.p,hfx.p];exact fun e=>ha'.1 y (zY07 hy) e.symm
  exact ⟨r',.cons hm hc hfx (by rw [zY1b] at hs;exact hs)⟩
def z77 (nm h:Int) (rw:Bool) (i:Nat) (o:Out):Coin:=⟨⟨nm,i⟩,o,h,rw⟩
inductive Brought (nm h:Int) (rw:Bool):List Coin→Nat→List Out→List Coin→Prop
 | nil (r i):Brought nm h rw r i [] r
 | cons {r:List Coin} {i:Nat} {o:Out} {os:List Out} {m:List Coin}:z1n r ⟨nm,i⟩=false→Brought nm h rw (r.take (zq r ⟨nm,i⟩)++[z77 nm h rw i o]++r.drop (zq r ⟨nm,i⟩)) (i+1) os m→Brought nm h rw r i (o::os) m
theorem Brought.run {ρ:Type} {nm h:Int} {rw:Bool} {bad:Int→ρ} {K:List Coin→ρ} {r m:List Coin} {i:Nat} {os:List Out} (hb:Brought nm h rw r i os m):z2z nm h rw bad K r i os=K m:=by
 induction hb with
 | nil r i=>rfl
 | cons hn _ ih=>rw [z2z,if_neg (by simp [hn])];exact ih
theorem zmg {nm h:Int} {rw:Bool} {K:List Coin→List Coin × List Coin × Int}:∀ {os:List Out} {r:List Coin} {i:Nat},(z2z nm h rw z1j K r i os).2.2=0→∃ m,Brought nm h rw r i os m∧z2z nm h rw z1j K r i os=K m
 | [],r,i,_=>⟨r,.nil r i,rfl⟩
 | o::os,r,i,h0=>by
  rw [z2z] at h0 ⊢
  cases hp:z1n r ⟨nm,i⟩ with
  | true=>rw [hp,if_pos rfl] at h0;cases h0
  | false =>
   rw [hp,if_neg (by simp)] at h0;rw [if_neg (by simp)];obtain ⟨m,h1,h2⟩:=zmg h0;exact ⟨m,.cons hp h1,h2⟩
def z0r (os:List Out):Int:=(os.map Out.coin).sum
structure BroughtAs (nm h:Int) (rw:Bool) (r:List Coin) (i:Nat) (os:List Out) (m:List Coin):Prop where
 sorted:z03 m
 mem:∀ c,c ∈ m↔c ∈ r∨∃ (j:Nat) (o:Out),os[j]? = some o∧c=z77 nm h rw (i+j) o
 free:∀ c ∈ r,∀ j,j<os.length→c.p≠⟨nm,((i+j:Nat):Int)⟩
 total:zi m=zi r+z0r os
 len:m.length=r.length+os.length
theorem Brought.as {nm h:Int} {rw:Bool} {r m:List Coin} {i:Nat} {os:List Out} (hb:Brought nm h rw r i os m):z03 r→BroughtAs nm h rw r i os m:=by
 induction hb with
 | nil r i=>exact fun hr=>⟨hr,fun c=>by simp,fun c _ j hj=>by simp at hj,by simp [z0r],by simp⟩
 | @cons r i o os m hn hb ih =>
  intro hr;have H:=ih (z6s hr (c:=z77 nm h rw i o) hn);refine ⟨H.sorted,fun c=>?_,fun c hc j hj=>?_,?_,?_⟩
  ·rw [H.mem,put_mem]
   constructor
   ·rintro ((rfl|h1)|⟨j,q,h1,h2⟩)
    ·exact .inr ⟨0,o,rfl,rfl⟩
    ·exact .inl h1
    ·exact .inr ⟨j+1,q,by simpa using h1,by rw [h2,show i+1+j=i+(j+1) by omega]⟩
   ·rintro (h1|⟨j,q,h1,h2⟩)
    ·exact .inl (.inr h1)
    ·cases j with
     | zero =>
      simp only [zY05,zY00] at h1;subst h1;exact .inl (.inl h2)
     | succ j=>exact .inr ⟨j,q,by simpa using h1,by rw [h2,show i+1+j=i+(j+1) by omega]⟩
  ·cases j with
   | zero=>exact hasP_not.1 hn c hc
   | succ j =>
    have:=H.free c (put_mem.2 (.inr hc)) j (by simpa using hj)
    rwa [show i+1+j=i+(j+1) by omega] at this
  ·rw [H.total,z0m5]
   simp only [z0r,zY1q,List.sum_cons,z77];omega
  ·rw [H.len]
   simp only [zY04,zY0f,zY11,zY0a,zY0q];omega
theorem Brought.of {nm h:Int} {rw:Bool}:∀ {os:List Out} {r:List Coin} {i:Nat},z03 r→(∀ c ∈ r,∀ j,j<os.length→c.p≠⟨nm,((i+j:Nat):Int)⟩)→∃ m,Brought nm h rw r i os m
 | [],r,i,_,_=>⟨r,.nil r i⟩
 | o::os,r,i,hr,hf=>by
  have hn:z1n r ⟨nm,i⟩=false:=hasP_not.2 fun c hc=>hf c hc 0 (by simp)
  obtain ⟨m,hb⟩:=Brought.of (os:=os) (i:=i+1) (z6s hr (c:=z77 nm h rw i o) hn) fun c hc j hj=>by
   rcases put_mem.1 hc with rfl|hc
   ·simp only [z77,ne_eq,Point.mk.injEq,not_and]
    intro _;omega
   ·have:=hf c hc (j+1) (by simpa using hj)
    rwa [show i+(j+1)=i+1+j by omega] at this
  exact ⟨m,.cons hn hb⟩
theorem z0m6 (os:List Out):∀ s:Int,os.foldl (fun s o=>s - o.coin) s=s - z0r os:=by
 induction os with
 | nil=>intro s;simp [z0r]
 | cons o os ih=>intro s;rw [List.foldl_cons,ih];simp only [z0r,zY1q,List.sum_cons];omega
theorem zdp (t:Tx) (s:List Coin):z0z t s=zi s - z0r t.outs:=by
 unfold z0z;rw [z0m6,z0d1];omega
structure Done (l:List Coin) (t:Tx) (nm h:Int) (r s m:List Coin):Prop where
 ok:CoinsOK l
 tx:zm t=0
 nm1:1≤nm
 nm2:nm≤120
 h1:1≤h
 h2:h≤1000
 height:t.ins.length=0→t.height=h
 spent:Spent h l [] t.ins r s
 fee:t.ins.length≠0→0≤z0z t s
 brought:Brought nm h (decide ((t.ins.length:Int)=0)) r 0 t.outs m
 end_:CoinsOK m
theorem Done.run {l:List Coin} {t:Tx} {nm h:Int} {r s m:List Coin} (d:Done l t nm h r s m):zw l t nm h=(m,s,0):=by
 unfold zw;have hE:z5f s m=(m,s,0):=by
  unfold z5f;rw [if_neg (by rw [(z12 m).2 d.end_];decide)]
 have a:=d.nm1;have b:=d.nm2;have c:=d.h1;have e:=d.h2;rw [if_neg (by rw [(z12 l).2 d.ok];decide),if_neg (by rw [d.tx];decide),if_neg (by omega)]
 by_cases h0:(t.ins.length:Int)=0
 ·rw [if_pos h0,if_neg (by rw [d.height (by omega)];simp),d.spent.run,d.brought.run,hE]
 ·rw [if_neg h0,d.spent.run,if_neg (by have:=d.fee (by omega);omega),d.brought.run,hE]
theorem z87 {l:List Coin} {t:Tx} {nm h:Int} (h0:(zw l t nm h).2.2=0):∃ r,Done l t nm h r (zw l t nm h).2.1 (zw l t nm h).1:=by
 have key:∃ r s m,Done l t nm h r s m:=by
  unfold zw at h0
  by_cases k1:zd l=0
  ·rw [if_neg (by rw [k1];decide)] at h0
   have ok:=(z12 l).1 k1
   by_cases k2:zm t=0
   ·rw [if_neg (by rw [k2];decide)] at h0
    by_cases k3:nm<1∨120<nm∨h<1∨1000<h
    ·rw [if_pos k3] at h0;cases h0
    ·rw [if_neg k3] at h0
     by_cases k4:(t.ins.length:Int)=0
     ·rw [if_pos k4] at h0
      by_cases k5:t.height≠h
      ·rw [if_pos k5] at h0;cases h0
      ·rw [if_neg k5] at h0
       obtain ⟨r,s,q1,q2⟩:=zmf ok.sorted h0;rw [q2] at h0;obtain ⟨m,q3,q4⟩:=zmg h0;rw [q4] at h0;unfold z5f at h0
       by_cases k6:zd m=0
       ·exact ⟨r,s,m,ok,k2,by omega,by omega,by omega,by omega,fun _=>zY0u.1 k5,q1,fun h=>absurd (by omega) h,q3,(z12 m).1 k6⟩
       ·rw [if_pos k6] at h0;exact absurd h0 k6
     ·rw [if_neg k4] at h0
      obtain ⟨r,s,q1,q2⟩:=zmf ok.sorted h0;rw [q2] at h0
      by_cases k5:z0z t s<0
      ·simp only [if_pos k5] at h0;cases h0
      ·simp only [if_neg k5] at h0
       obtain ⟨m,q3,q4⟩:=zmg h0;rw [q4] at h0;unfold z5f at h0
       by_cases k6:zd m=0
       ·exact ⟨r,s,m,ok,k2,by omega,by omega,by omega,by omega,fun h=>absurd (by omega) k4,q1,fun _=>by omega,q3,(z12 m).1 k6⟩
       ·rw [if_pos k6] at h0;exact absurd h0 k6
   ·rw [if_pos k2] at h0;exact absurd h0 k2
  ·rw [if_pos k1] at h0;exact absurd h0 k1
 obtain ⟨r,s,m,d⟩:=key;refine ⟨r,?_⟩;rw [d.run];exact d
end
section
open Go.RowKit
theorem z07b {ρ:Type} {nm h:Int} {rw:Bool} {bad:Int→ρ} {K:List Coin→ρ}:∀ {os:List Out} {r m:List Coin} {i:Nat},z03 r→Brought nm h rw r i os m→z018 nm bad K m i os=K r
 | [],r,m,i,hr,hb=>by cases hb;rfl
 | o::os,r,m,i,hr,hb=>by
  have B:=hb.as hr;have hmem:z77 nm h rw i o ∈ m:=(B.mem _).2 (.inr ⟨0,o,rfl,rfl⟩);have hp:z1n m ⟨nm,i⟩=true:=hasP_mem.2 ⟨_,hmem,rfl⟩;have hat:m[zq m ⟨nm,i⟩]? = some (z77 nm h rw i o):=zpy B.sorted hmem;have hfree:∀ c ∈ r,∀ j,j<os.length→c.p≠⟨nm,((i+1+j:Nat):Int)⟩:=fun c hc j hj=>by
   have:=B.free c hc (j+1) (by simpa using hj)
   rwa [show i+(j+1)=i+1+j by omega] at this
  obtain ⟨m2,hb2⟩:=Brought.of (nm:=nm) (h:=h) (rw:=rw) (os:=os) (r:=r) (i:=i+1) hr hfree;have B2:=hb2.as hr;have he:m.take (zq m ⟨nm,i⟩)++m.drop (zq m ⟨nm,i⟩+1)=m2:=by
   refine zh8 (z85 B.sorted _) B2.sorted fun c=>?_
   rw [zsc B.sorted hat,B.mem,B2.mem];constructor
   ·rintro ⟨h1|⟨j,q,h1,rfl⟩,h2⟩
    ·exact .inl h1
    ·cases j with
     | zero=>exact absurd rfl h2
     | succ j=>exact .inr ⟨j,q,by simpa using h1,by rw [show i+1+j=i+(j+1) by omega]⟩
   ·rintro (h1|⟨j,q,h1,rfl⟩)
    ·exact ⟨.inl h1,by have:=B.free c h1 0 (by simp);exact this⟩
    ·refine ⟨.inr ⟨j+1,q,by simpa using h1,by rw [show i+1+j=i+(j+1) by omega]⟩,?_⟩
     simp only [z77,ne_eq,Point.mk.injEq,not_and];intro _;omega
  rw [z018,if_pos hp,hat];simp only [zY1o];rw [if_pos (by simp [z77]),he];exact z07b hr hb2
theorem z07c {ρ:Type} {ins:List In} {bad:Int→ρ} {K:List Coin→ρ}:∀ {cs r:List Coin} {k:Nat},z03 r→(∀ c ∈ cs,∀ d ∈ r,d.p≠c.p)→cs.Pairwise (fun c d=>c.p≠d.p)→(∀ (j:Nat) (c:Coin),cs[j]? = some c→∃ x,ins[k+j]? = some x∧x.p=c.p)→∃ q,z019 ins bad K r k cs=K q∧z03 q∧∀ c,c ∈ q↔c ∈ r∨c ∈ cs
 | [],r,k,hr,_,_,_=>⟨r,rfl,hr,fun c=>by simp⟩
 | c::cs,r,k,hr,hd,hp,hi=>by
  have hn:z1n r c.p=false:=hasP_not.2 fun d hd'=>hd c (zY0j ..) d hd'
  obtain ⟨x,hx,hxp⟩:=hi 0 c rfl;have hp':=zY1d.1 hp;obtain ⟨q,h1,h2,h3⟩:=z07c (bad:=bad) (K:=K) (cs:=cs) (r:=r.take (zq r c.p)++[c]++r.drop (zq r c.p)) (k:=k+1) (z6s hr hn) (fun e he d hd'=>by
   rcases put_mem.1 hd' with rfl|hd'
   ·exact hp'.1 e he
   ·exact hd e (zY0i _ he) d hd') hp'.2 fun j e he=>by
    obtain ⟨y,hy,hyp⟩:=hi (j+1) e (by simpa using he);exact ⟨y,by rwa [show k+(j+1)=k+1+j by omega] at hy,hyp⟩
  refine ⟨q,?_,h2,fun e=>?_⟩
  ·rw [z019,if_neg (by simp [hn]),show k=k+0 from rfl,hx]
   simp only [zY1o];rw [if_neg (by simp [hxp])];exact h1
  ·rw [h3,put_mem,zY0g]
   constructor
   ·rintro ((rfl|h)|h)
    ·exact .inr (.inl rfl)
    ·exact .inl h
    ·exact .inr (.inr h)
   ·rintro (h|rfl|h)
    ·exact .inl (.inr h)
    ·exact .inl (.inl rfl)
    ·exact .inr h
theorem SpentAs.apart' {h:Int} {l:List Coin} {xs:List In} {r cs:List Coin} (S:SpentAs h l xs r cs):cs.Pairwise fun c d=>c.p≠d.p:=by
 rw [zY2q];intro i j hi hj hij;have hl:=S.len;obtain ⟨c,h1,_,h2⟩:=S.fine i xs[i] (zY03 (by omega));obtain ⟨d,h3,_,h4⟩:=S.fine j xs[j] (zY03 (by omega));rw [zY03 hi] at h1;rw [zY03 hj] at h3;injection h1 with h1
 injection h3 with h3
 rw [h1,h3,h2.p,h4.p];exact zY2q.1 S.apart i j (by omega) (by omega) hij
theorem SpentAs.from {h:Int} {l:List Coin} {xs:List In} {r cs:List Coin} (S:SpentAs h l xs r cs) {c:Coin} (hc:c ∈ cs):c ∈ l∧∃ x ∈ xs,x.p=c.p:=by
 obtain ⟨i,hi,rfl⟩:=zY2g hc;have hl:=S.len;obtain ⟨c,h1,h2,h3⟩:=S.fine i xs[i] (zY03 (by omega));rw [zY03 hi] at h1;injection h1 with h1
 rw [h1];exact ⟨h2,_,zY1w _,h3.p.symm⟩
theorem SpentAs.all {h:Int} {l:List Coin} {xs:List In} {r cs:List Coin} (S:SpentAs h l xs r cs) (hs:z03 l) {c:Coin}:c ∈ l↔c ∈ r∨c ∈ cs:=by
 constructor
 ·intro hc
  by_cases hx:∃ x ∈ xs,x.p=c.p
  ·obtain ⟨x,hx,he⟩:=hx
   obtain ⟨i,hi⟩:=zY2b hx;obtain ⟨d,h1,h2,h3⟩:=S.fine i x hi;have:d=c:=zl6 hs h2 hc (h3.p.trans he);subst this;exact .inr (zY07 h1)
  ·exact .inl ((S.mem c).2 ⟨hc,fun x hx' he=>hx ⟨x,hx',he⟩⟩)
 ·rintro (hc|hc)
  ·exact ((S.mem c).1 hc).1
  ·exact (S.from hc).1
theorem Done.spentAs {l:List Coin} {t:Tx} {nm h:Int} {r s m:List Coin} (d:Done l t nm h r s m):SpentAs h l t.ins r s:=by
 obtain ⟨cs,e,S⟩:=d.spent.as d.ok.sorted;rw [zY17] at e;exact e ▸ S
theorem Done.broughtAs {l:List Coin} {t:Tx} {nm h:Int} {r s m:List Coin} (d:Done l t nm h r s m):BroughtAs nm h (decide ((t.ins.length:Int)=0)) r 0 t.outs m:=d.brought.as d.spentAs.sorted
theorem Done.back {l:List Coin} {t:Tx} {nm h:Int} {r s m:List Coin} (d:Done l t nm h r s m):z57 m t nm s=(l,0):=by
 have S:=d.spentAs;unfold z57;rw [if_neg (by rw [(z12 m).2 d.end_];decide),if_neg (by rw [d.tx];decide),if_neg (by have:=S.len;omega),z07b S.sorted d.brought];obtain ⟨q,h1,h2,h3⟩:=z07c (ins:=t.ins) (bad:=zc3) (K:=endR) (cs:=s) (r:=r) (k:=0) S.sorted (fun c hc e he=>by
  obtain ⟨_,x,hx,hxp⟩:=S.from hc;rw [← hxp];exact fun e'=>((S.mem e).1 he).2 x hx e'.symm) S.apart' fun j c hc=>by
   have hj:=(zY02.1 hc).1;have hl:=S.len;obtain ⟨c',k1,_,k3⟩:=S.fine j t.ins[j] (zY03 (by omega));rw [hc] at k1;injection k1 with k1
   exact ⟨t.ins[j],by rw [zY0x];exact zY03 (by omega),by rw [k1,k3.p]⟩
 rw [h1];have:q=l:=zh8 h2 d.ok.sorted fun c=>by rw [h3,S.all d.ok.sorted]
 subst this;unfold endR;rw [if_neg (by rw [(z12 q).2 d.ok];decide)]
theorem Done.short {l:List Coin} {t:Tx} {nm h:Int} {r s m:List Coin} (d:Done l t nm h r s m):z5r s:=by
 have S:=d.spentAs;exact ⟨by have:=S.len;have:=(z4n d.tx).ins;omega,fun c hc=>d.ok.short.2 c (S.from hc).1⟩
theorem z07d {t:Tx} (ok:TxOK t):0<z0r t.outs:=by
 have key:∀ os:List Out,(∀ o ∈ os,1≤o.coin)→(os.length:Int)≤z0r os:=by
  intro os
  induction os with
  | nil=>intro _;simp [z0r]
  | cons o os ih =>
   intro h;have h1:=h o (zY0j ..);have h2:=ih fun x hx=>h x (zY0i _ hx)
   simp only [z0r,zY1q,List.sum_cons,zY0a] at h2 ⊢;omega
 have:=key t.outs fun o ho=>(ok.good o ho).1
 have:=ok.some;omega
theorem z0m7 {m:List Coin} {p:Point} (ok:CoinsOK m) (h:z1n m p=false):z05s m p=(z6r,7):=by
 unfold z05s;rw [if_neg (by rw [(z12 m).2 ok];decide),if_neg (by simp [h])]
theorem Done.gone {l:List Coin} {t:Tx} {nm h:Int} {r s m:List Coin} (d:Done l t nm h r s m) {x:In} (hx:x ∈ t.ins) (hn:x.p.tx≠nm):z05s m x.p=(z6r,7):=by
 have S:=d.spentAs;have B:=d.broughtAs;refine z0m7 d.end_ (hasP_not.2 fun c hc e=>?_);rcases (B.mem c).1 hc with hc|⟨j,o,_,rfl⟩
 ·exact ((S.mem c).1 hc).2 x hx e.symm
 ·exact hn (by rw [← e];rfl)
end
section
open Go.RowKit
open Go.Lib (itoa)
set_option maxRecDepth 100000
set_option maxHeartbeats 4000000
def zaz (b:Block) (ns:List Int) (l:List Coin) (us:List Undo) (most:Int):List Coin × List Undo × Int :=
 if most < -z0z (b.txs.getD 0 zTx) [] then ([],[],9) else
 if (zw l (b.txs.getD 0 zTx) (ns.getD 0 0) b.height).2.2≠0 then ([],[],(zw l (b.txs.getD 0 zTx) (ns.getD 0 0) b.height).2.2) else
 ((zw l (b.txs.getD 0 zTx) (ns.getD 0 0) b.height).1,us.set 0 ⟨(zw l (b.txs.getD 0 zTx) (ns.getD 0 0) b.height).2.1⟩,0)
def z58 (b:Block) (ns:List Int) (l:List Coin) (us:List Undo) (most:Int) (i:Nat):List Tx→List Coin × List Undo × Int
 | []=>zaz b ns l us most
 | t::r=>if (zw l t (ns.getD i 0) b.height).2.2≠0 then ([],[],(zw l t (ns.getD i 0) b.height).2.2) else
  z58 b ns (zw l t (ns.getD i 0) b.height).1 (us.set i ⟨(zw l t (ns.getD i 0) b.height).2.1⟩) (most+z0z t (zw l t (ns.getD i 0) b.height).2.1) (i+1) r
def z18 (k:Book) (l:List Coin) (b:Block):List Coin × List Undo × Int :=
 if zd l≠0 then ([],[],zd l) else
 if (z08 k b).2.2.2≠0 then ([],[],(z08 k b).2.2.2) else
 z58 b (z08 k b).2.2.1 l (List.replicate b.txs.length ⟨[]⟩) (z0i b.height) 1 (b.txs.drop 1)
theorem zh9 {k:Book} {b:Block} (h:(z08 k b).2.2.2=0):zb b=0∧(z08 k b).2.2.1.length=b.txs.length:=by
 unfold z08 at h ⊢
 by_cases hp:(z0v b).2=0
 ·rw [if_neg (fun k=>k hp)] at h ⊢
  refine ⟨zhs hp,?_⟩;unfold zdm at h ⊢
  by_cases ha:(z2m k (zg7 b++[(z0v b).1])).2.2=0
  ·rw [if_neg (fun k=>k ha)]
   have:=zl3 ha;have h1:(zg7 b).length=b.txs.length:=by simp [zg7]
   show (List.take _ _).length=_
   rw [zY0f,this,zY04,h1,zY1i];omega
  ·rw [if_pos ha] at h;exact absurd h ha
 ·rw [if_pos hp] at h;exact absurd h hp
theorem z0pa {t:Tx} (h:zm t=0):z8i (t,[]):=by
 have ok:=z4n h;exact ⟨by simp,by simp,by have:=ok.outs;simp only;omega,fun o ho=>by have:=ok.good o ho;omega⟩
theorem z0se {t:Tx} (ok:TxOK t):z0r t.outs≤1000000000 * t.outs.length:=by
 have key:∀ os:List Out,(∀ o ∈ os,o.coin≤1000000000)→z0r os≤1000000000 * os.length:=by
  intro os
  induction os with
  | nil=>intro _;simp [z0r]
  | cons o os ih =>
   intro h;have h1:=h o (zY0j ..);have h2:=ih fun x hx=>h x (zY0i _ hx)
   simp only [z0r,zY1q,List.sum_cons,zY0a] at h2 ⊢;omega
 exact key t.outs fun o ho=>(ok.good o ho).2.1
theorem z0sf {t:Tx} (h:zm t=0) : -10000000000≤z0z t []∧z0z t []<0:=by
 have ok:=z4n h;have h1:=z07d ok;have h2:=z0se ok;have h3:=ok.outs;rw [zdp];simp only [zi];omega
theorem zuz {l:List Coin} {t:Tx} {nm h:Int} (h0:(zw l t nm h).2.2=0):z8i (t,(zw l t nm h).2.1) ∧ -10000000000≤z0z t (zw l t nm h).2.1∧z0z t (zw l t nm h).2.1≤10000000000:=by
 obtain ⟨r,d⟩:=z87 h0;generalize (zw l t nm h).2.1=s at *;generalize (zw l t nm h).1=m at *;have ok:=z4n d.tx;have S:=d.spentAs;have B:=d.broughtAs;have h1:=S.total;have h2:=B.total;have hl:=d.ok.total;have hm:=d.end_.total;have hr:0≤zi r:=zdh fun c hc=>d.ok.good c ((S.mem c).1 hc).1
 have hs:0≤zi s:=zdh fun c hc=>d.ok.good c (S.from hc).1
 have ho:=z07d ok;have hsl:=S.len;have:=ok.ins;have:=ok.outs;refine ⟨⟨by simp only;omega,fun c hc=>by have:=z3v (d.ok.good c (S.from hc).1);omega,by simp only;omega,fun o ho=>by have:=ok.good o ho;omega⟩,?_⟩;rw [zdp];omega
section
variable {sp:Nat→za} {N:Nat} {E E':Env} {ks:List (List Dt→Option (List Dt))} {res:Option (List Dt)} {k:T}
theorem z07e {a:Atom} {n:Nat} (ha:a.val E=some (I n)) (h:n≤1000):denX sp E (.mkz 1 [.nil 6] a)=some (.l 1 ((List.replicate n (⟨[]⟩:Undo)).map z9p)):=by
 rw [z0u5 (sz:=1) (z:=[.nil 6]) ha (by omega) (by omega) rfl,zY21,List.map_replicate];rfl
theorem zgd {α:Type} {f:α→List Dt} {l:List α} {x y:α} {sz j n:Nat} {m:Int} {a b:Atom} {vs:List Atom} {ds:List Dt} (hm:m.toNat=n) (ha:a.val E=some (.l sz (l.map f))) (hb:b.val E=some (I m)) (hv:vals E vs=some ds) (h0:0≤m) (hs:j+ds.length≤sz) (hx:l[n]? = some x) (hy:z78 (f x) j ds=f y):denX sp E (.set a b j vs)=some (.l sz ((l.set n y).map f)):=by
 subst hm;exact z0kt ha hb hv h0 hs hx hy
end
theorem z59 {α:Type} {l:List α} {i:Nat} (d:α) (h:i<l.length):l[i]? = some (l.getD i d):=by
 rw [zY0w,zY03 h];rfl
def zq0 (b:Block) (ns:List Int) (us:List Undo) (l:List Coin):Nat→List Coin × Int
 | 0=>(l,0)
 | i+1=>if (z57 l (b.txs.getD (i+1) zTx) (ns.getD (i+1) 0) (us.getD (i+1) ⟨[]⟩).spent).2≠0 then ([],(z57 l (b.txs.getD (i+1) zTx) (ns.getD (i+1) 0) (us.getD (i+1) ⟨[]⟩).spent).2) else
  zq0 b ns us (z57 l (b.txs.getD (i+1) zTx) (ns.getD (i+1) 0) (us.getD (i+1) ⟨[]⟩).spent).1 i
def zkn (k:Book) (l:List Coin) (b:Block) (us:List Undo):List Coin × Int :=
 if zd l≠0 then ([],zd l) else
 if (z08 k b).2.2.2≠0 then ([],(z08 k b).2.2.2) else
 if (us.length:Int)≠b.txs.length then ([],4) else
 if (z57 l (b.txs.getD 0 zTx) ((z08 k b).2.2.1.getD 0 0) (us.getD 0 ⟨[]⟩).spent).2≠0 then ([],(z57 l (b.txs.getD 0 zTx) ((z08 k b).2.2.1.getD 0 0) (us.getD 0 ⟨[]⟩).spent).2) else
 zq0 b (z08 k b).2.2.1 us (z57 l (b.txs.getD 0 zTx) ((z08 k b).2.2.1.getD 0 0) (us.getD 0 ⟨[]⟩).spent).1 (b.txs.length - 1)
noncomputable def z5m:za:=spD (fun _:Book × List Coin × Block=>True) fun x=>z18 x.1 x.2.1 x.2.2
theorem zmh (k:Book) (l:List Coin) (b:Block):z5m [.l 1 (k.texts.map z0c),.l 6 (l.map zh),I b.parent,I b.height,I b.work,I b.nonce,.l 3 (b.txs.map eTx)]=some [.l 6 ((z18 k l b).1.map zh),.l 1 ((z18 k l b).2.1.map z9p),I (z18 k l b).2.2]:=ze (f:=fun x:Book × List Coin × Block=>z18 x.1 x.2.1 x.2.2) (k,l,b) trivial
def z5t (us:List Undo):Prop:=∀ u ∈ us,z07a u.spent
noncomputable def z0ib:za:=spD (fun x:Book × List Coin × Block × List Undo=>z5t x.2.2.2) fun x=>zkn x.1 x.2.1 x.2.2.1 x.2.2.2
theorem short_nil:z5r []:=⟨by simp,by simp⟩
theorem z07f (n:Int):0≤z0i n∧z0i n≤1000:=by
 have h:=zep n;exact h
attribute [local irreducible] den denX z0g z0o
attribute [local irreducible] z01 spD zw z57 z0z z08 zd z0i
def zsd:T :=
 .W [.call 12 [35,36,37,38] 0] [] (.W [.B .add 22 39] [] (.W [.B .add 23 (zI 1)] [] (.again 0 [30,19,33,32,40,
 .v 41])))
def zse:T :=
 .W [.idx 6 23 0,.idx 6 23 1,.idx 6 23 2] [] (.W [] [.inr 1 33 23] (.W [.idx 33 23 0] [] zsd))
def zsf:T :=
 .W [.set 20 23 0 [31]] [] (.W [.B .neq 32 (zI 0)] [] (.ite 34 (.ret [.c (.nil 6),.c (.nil 1),32]) (.W [] [.inr 3 6 23]
 zse)))
def zsg:T :=
 .W [.call 17 [18,26,27,28,29,3] 0,.call 17 [18,26,27,28,29,3] 1,.call 17 [18,26,27,28,29,3] 2] [] (.W []
 [.inr 1 20 23] zsf)
def zsh:T :=
 .W [.idx 6 23 0,.idx 6 23 1,.idx 6 23 2] [] (.W [] [.inr 1 11 23] (.W [.idx 11 23 0] [] zsg))
def zsi:T :=
 .W [.set 20 (zI 0) 0 [37]] [] (.W [.B .neq 38 (zI 0)] [] (.ite 40 (.ret [.c (.nil 6),.c (.nil 1),38]) (.ret [36,39,.c (.i
 .i64 0)])))
def zsj:T :=
 .W [.call 17 [18,32,33,34,35,3] 0,.call 17 [18,32,33,34,35,3] 1,.call 17 [18,32,33,34,35,3] 2] [] (.W []
 [.inr 1 20 (zI 0)] zsi)
def zsk:T :=
 .W [.idx 6 (zI 0) 0,.idx 6 (zI 0) 1,.idx 6 (zI 0) 2] [] (.W [] [.inr 1 11 (zI 0)] (.W [.idx 11 (.c (.i
 .i64 0)) 0] [] zsj))
def zsl:T :=
 .W [.neg 29] [] (.W [.B .gtr 30 22] [] (.ite 31 (.ret [.c (.nil 6),.c (.nil 1),zI 9]) (.W [] [.inr 3 6 (zI 0)]
 zsk)))
def zsm:T :=
 .W [.idx 6 (zI 0) 0,.idx 6 (zI 0) 1,.idx 6 (zI 0) 2] [] (.W [.call 12 [26,27,28,.c (.nil 6)] 0] [] zsl)
def zq1:T :=
 .W [.len 6] [] (.W [.B .lss 23 24] [] (.ite 25 (.W [] [.inr 3 6 23] zsh) (.W [] [.inr 3 6 (zI 0)]
 zsm)))
def zq2:T :=
 .W [.call 66 [3] 0,.call 66 [3] 1] [] (.W [.len 6] [] (.W [.mkz 1 [.nil 6] 16] [] (.loop [1,.c (.nil 6),17,12,14,zI 1]
 zq1)))
def zq3:T :=
 .W [.call 65 [0,2,3,4,5,6] 0,.call 65 [0,2,3,4,5,6] 1,.call 65 [0,2,3,4,5,6] 2,.call 65 [0,2,3,
 .v 4,5,6] 3] [] (.W [.B .neq 12 (zI 0)] [] (.ite 13 (.ret [.c (.nil 6),.c (.nil 1),12]) zq2))
def zdq:T :=
 .W [.call 8 [1] 0] [] (.W [.B .neq 7 (zI 0)] [] (.ite 8 (.ret [.c (.nil 6),.c (.nil 1),7]) zq3))
attribute [local irreducible] z3x z5l z86 z5q z7q
theorem z07g:Meets Tryz.prog z5m 24 ⟨[.agg 1,.one,.agg 5],[(false,[.pure]),(false,[.pure]),(false,[.scal])],false⟩:=by
 refine zf (sp:=(zy [(8,z5q),(12,z7q),(17,z86),(65,z3x),(66,z5l)])) (sigs:=z05) (cut:=[]) (hints:=[⟨10,[.t 1,.r 6 101 6,.r 7 111 1,.t 8,.t 13,.t 15,.z 41]⟩]) (fn:=Tryz.f24) (t:=zdq) (by kernel_rfl) (by kernel_rfl) (by kernel_rfl) ?_ ?_
 ·exact (zr (L:=[(8,z5q),(12,z7q),(17,z86),(65,z3x),(66,z5l)]) ⟨z7 rfl zun,z7 rfl z0g1,z7 rfl z0m3,z7 rfl zpq,z7 rfl z062,trivial⟩)
 ·rintro ds rs hok h
  obtain ⟨⟨k,l,b⟩,-,rfl,rfl⟩:=zg h;clear h;refine ⟨⟨100,?_⟩,z1d ⟨rfl,trivial⟩⟩
  show den _ _ zdq [.l 1 (k.texts.map z0c),.l 6 (l.map zh),I b.parent,I b.height,I b.work,I b.nonce,.l 3 (b.txs.map eTx)] []=ret (z18 k l b)
  have a1:=z8t l;have a2:=zay k b;have a3:=zmb b.height;have hnm:=zh9 (k:=k) (b:=b);have hrw:0≤z0i b.height∧z0i b.height≤1000:=z07f b.height;unfold zdq z18;generalize z08 k b=nm at *;obtain ⟨tx,n0,ns,e⟩:=nm;generalize z0i b.height=rw0 at *;simp only at *
  by_cases hc:zd l=0
  rotate_left
  ·repeat' (first|refine dq1 ?_|refine dqk rfl (a1) ?_|exact z5 rfl rfl|refine tR (fun h=>?_) fun h=>?_|fail)
   all_goals (exfalso;omega)
  by_cases he:e=0
  rotate_left
  ·repeat' (first|refine dq1 ?_|refine dqk rfl (a1) ?_|refine dqK rfl (a2) ?_|exact z5 rfl rfl|refine tR (fun h=>?_) fun h=>?_|fail)
   all_goals (exfalso;omega)
  obtain ⟨hb,hnl⟩:=hnm he;have ok:=z1p hb;have hl4:=ok.len;have hl1:=ok.some;subst he
  repeat' (first|refine dq1 ?_|refine dqk rfl (a1) ?_|refine dqK rfl (a2) ?_|refine dqK rfl (a3) ?_|refine z4 (z07e rfl (by omega)) ?_|exact z5 rfl rfl|refine tR (fun h=>?_) fun h=>?_|fail)
  have hdl:(b.txs.drop 1).length=b.txs.length - 1:=by simp
  (refine zn (fun (a:List Coin × List Undo × Int) k=>[.l 6 (a.1.map zh),.l 6 [],.l 1 (a.2.1.map z9p),I 0,I a.2.2,I (k+1)]) (fun (a:List Coin × List Undo × Int) k (r:List Tx)=>z58 b ns a.1 a.2.1 a.2.2 (k+1) r) (fun a k=>a.2.1.length=b.txs.length ∧ -(10000000000 * ((k:Int)+1))≤a.2.2∧a.2.2≤10000000000 * ((k:Int)+1)) (l,List.replicate b.txs.length ⟨[]⟩,rw0) (b.txs.drop 1) ?_ ?_ ?_ ?_ ?_;rfl;exact ⟨by simp,by simp only;omega,by simp only;omega⟩;omega)
  ·rintro ⟨l,us,most⟩ i x r hx hd hk ⟨hu,m1,m2⟩ again hag
   simp only at hu m1 m2 hag ⊢;have hx':b.txs[((i:Int)+1).toNat]? = some x:=by
    rw [show ((i:Int)+1).toNat=1+i by omega,← zY1m];exact hx
   have hn':ns[((i:Int)+1).toNat]? = some (ns.getD (i+1) 0):=by
    rw [show ((i:Int)+1).toNat=i+1 by omega];exact z59 0 (by omega)
   have hu':us[i+1]? = some (us.getD (i+1) ⟨[]⟩):=z59 _ (by omega);rw [z58];have a4:=zhv l x (ns.getD (i+1) 0) b.height;have hfee:=zuz (l:=l) (t:=x) (nm:=ns.getD (i+1) 0) (h:=b.height);generalize ns.getD (i+1) 0=nm at *;generalize us.getD (i+1) ⟨[]⟩=u0 at *;generalize zw l x nm b.height=q at *;obtain ⟨l2,sp,f⟩:=q;simp only at a4 hfee ⊢
   by_cases hf:f=0
   ·obtain ⟨hd1,hd2,hd3⟩:=hfee hf
    subst hf;rw [if_neg (fun h=>h rfl)];have a5:=zf7 x sp hd1;have hs1:(us.set (i+1) (⟨sp⟩:Undo))[((i:Int)+1).toNat]? = some ⟨sp⟩:=by
     rw [show ((i:Int)+1).toNat=i+1 by omega];exact zY0e (by omega)
    have hsl:(us.set (i+1) (⟨sp⟩:Undo)).length=us.length:=zY2m ..;generalize z0z x sp=fe at *
    repeat' (first|refine dq1 ?_|refine dqc ?_|refine dqm ?_|refine dqK rfl (a4) ?_|refine dqk rfl (a5) ?_|refine z4 (zgd (n:=i+1) (x:=u0) (y:=⟨sp⟩) (by omega) rfl rfl rfl (by omega) (zY0k _) hu' rfl) ?_|refine dqT ?_|refine dqF ?_|fail)
    exact z6 rfl rfl (hag (l2,us.set (i+1) ⟨sp⟩,most+fe) ⟨by simpa using hu,by simp only;omega,by simp only;omega⟩)
   ·rw [if_pos hf]
    repeat' (first|refine dq1 ?_|refine dqc ?_|refine dqm ?_|refine dqK rfl (a4) ?_|refine z4 (zgd (n:=i+1) (x:=u0) (y:=⟨sp⟩) (by omega) rfl rfl rfl (by omega) (zY0k _) hu' rfl) ?_|exact z5 rfl rfl|refine dqT ?_|fail)
  ·rintro ⟨l,us,most⟩ ⟨hu,m1,m2⟩ again
   simp only at hu m1 m2 ⊢;have ht0:b.txs[(0:Int).toNat]? = some (b.txs.getD 0 zTx):=z59 _ hl1;have hn0:ns[(0:Int).toNat]? = some (ns.getD 0 0):=z59 _ (by omega);have hu0:us[0]? = some (us.getD 0 ⟨[]⟩):=z59 _ (by omega);have e0:z58 b ns l us most ((b.txs.drop 1).length+1) []=zaz b ns l us most:=by rw [z58]
   rw [e0];unfold zaz;have hct:=ok.each (b.txs.getD 0 zTx) (zY07 ht0);obtain ⟨f1,f2⟩:=z0sf hct;have a5:=zf7 (b.txs.getD 0 zTx) [] (z0pa hct);have a4:=zhv l (b.txs.getD 0 zTx) (ns.getD 0 0) b.height;generalize b.txs.getD 0 zTx=t0 at *;generalize ns.getD 0 0=nm at *;generalize us.getD 0 ⟨[]⟩=u0 at *;generalize z0z t0 []=fe at *;generalize zw l t0 nm b.height=q at *;obtain ⟨l2,sp,f⟩:=q;simp only at a4 ⊢
   repeat' (first|refine dq1 ?_|refine dqc ?_|refine dqm ?_|refine dqK rfl (a4) ?_|refine dqk rfl (a5) ?_|refine z4 (zgd (n:=0) (x:=u0) (y:=⟨sp⟩) rfl rfl rfl rfl (by omega) (zY0k _) hu0 rfl) ?_|exact z5 rfl rfl|refine tR (fun h=>?_) fun h=>?_|refine dqF ?_|fail)
attribute [local irreducible] z0e4
end
section
open Go.RowKit
open Go.Lib (itoa)
set_option maxRecDepth 100000
set_option maxHeartbeats 4000000
def z3s (k:Book) (t:Tree) (n:Int):List Int × Int:=if zj k≠0 then ([],zj k) else z31 t n
def z4d (k:Book) (t:Tree):List Coin→List Int→List Coin × Int
 | l,[]=>(l,0)
 | l,n::r=>if (z18 k l (z3n t n)).2.2≠0 then ([],(z18 k l (z3n t n)).2.2) else z4d k t (z18 k l (z3n t n)).1 r
def z0y (k:Book) (t:Tree) (n:Int):List Coin × Int:=if (z3s k t n).2≠0 then ([],(z3s k t n).2) else z4d k t [] (z3s k t n).1
def z3t (t:Tree) (n tip:Int):Int × Int:=if (z31 t tip).2≠0 then (0,(z31 t tip).2) else if idx (z31 t tip).1 n<0 then (0,5) else (((z31 t tip).1.length:Int) - 1 - idx (z31 t tip).1 n,0)
def z0ic:List Int→List Int→Nat
 | a::x,b::y=>if a=b then z0ic x y+1 else 0
 | _,_=>0
theorem z0m8 (t:Tree) (n:Int):(z31 t n).1.length≤24:=by
 unfold z31
 split
 ·simp
 rename_i h1
 split
 ·simp
 rename_i h2;exact zeo ((z2j _ _).1 (zY0u.1 h1)) (by by_cases h:n=0;exact .inl h;exact .inr (by omega))
theorem zq4 (n:Nat):z5t (List.replicate n ⟨[]⟩):=fun u hu=>by
 rw [(List.mem_replicate.1 hu).2];exact short_nil.2
theorem zv0 {us:List Undo} (h:z5t us) {s:List Coin} (hs:z5r s) (i:Nat):z5t (us.set i ⟨s⟩):=fun u hu=>by
 rcases List.mem_or_eq_of_mem_set hu with hu|rfl
 ·exact h u hu
 ·exact hs.2
theorem zl7 {l:List Coin} {t:Tx} {nm h:Int} (h0:(zw l t nm h).2.2=0):z5r (zw l t nm h).2.1:=(z87 h0).choose_spec.short
theorem zjg (b:Block) (ns:List Int):∀ (r:List Tx) (l:List Coin) (us:List Undo) (most:Int) (i:Nat),z5t us→z5t (z58 b ns l us most i r).2.1
 | [],l,us,most,i,h=>by
  rw [z58];unfold zaz
  split
  ·exact fun u hu=>by cases hu
  split
  ·exact fun u hu=>by cases hu
  ·rename_i h1
   exact zv0 h (zl7 (zY0u.1 h1)) 0
 | t::r,l,us,most,i,h=>by
  rw [z58]
  split
  ·exact fun u hu=>by cases hu
  ·rename_i h1
   exact zjg b ns r _ _ _ _ (zv0 h (zl7 (zY0u.1 h1)) i)
theorem z07h (k:Book) (l:List Coin) (b:Block):z5t (z18 k l b).2.1:=by
 unfold z18
 split
 ·exact fun u hu=>by cases hu
 split
 ·exact fun u hu=>by cases hu
 ·exact zjg _ _ _ _ _ _ _ (zq4 _)
section
variable {α:Type} {f:α→List Dt} {sp:Nat→za} {E:Env}
end
noncomputable def z0id:za:=spD (fun l:List Coin=>l.length≤2199023255552) fun l=>l
attribute [local irreducible] den denX z0g z0o
attribute [local irreducible] z01 spD z18 zkn z3n z31 zj z0ic
attribute [local irreducible] z0id z6c
noncomputable def zcp:za:=spD (fun _:Book × Tree × Int=>True) fun x=>z3s x.1 x.2.1 x.2.2
theorem zx4 (k:Book) (t:Tree) (n:Int):zcp [.l 1 (k.texts.map z0c),.l 1 (t.names.map zk),.l 5 (t.blocks.map z09),I n]=some [.l 1 ((z3s k t n).1.map zk),I (z3s k t n).2]:=ze (f:=fun x:Book × Tree × Int=>z3s x.1 x.2.1 x.2.2) (k,t,n) trivial
noncomputable def zcq:za:=spD (fun _:Book × Tree × List Coin × List Int=>True) fun x=>z4d x.1 x.2.1 x.2.2.1 x.2.2.2
theorem zx5 (k:Book) (t:Tree) (l:List Coin) (r:List Int):zcq [.l 1 (k.texts.map z0c),.l 1 (t.names.map zk),.l 5 (t.blocks.map z09),.l 6 (l.map zh),.l 1 (r.map zk)]=some [.l 6 ((z4d k t l r).1.map zh),I (z4d k t l r).2]:=ze (f:=fun x:Book × Tree × List Coin × List Int=>z4d x.1 x.2.1 x.2.2.1 x.2.2.2) (k,t,l,r) trivial
noncomputable def z4q:za:=spD (fun _:Book × Tree × Int=>True) fun x=>z0y x.1 x.2.1 x.2.2
theorem zhw (k:Book) (t:Tree) (n:Int):z4q [.l 1 (k.texts.map z0c),.l 1 (t.names.map zk),.l 5 (t.blocks.map z09),I n]=some [.l 6 ((z0y k t n).1.map zh),I (z0y k t n).2]:=ze (f:=fun x:Book × Tree × Int=>z0y x.1 x.2.1 x.2.2) (k,t,n) trivial
noncomputable def z5u:za:=spD (fun _:Tree × Int × Int=>True) fun x=>z3t x.1 x.2.1 x.2.2
theorem zhx (t:Tree) (n m:Int):z5u [.l 1 (t.names.map zk),.l 5 (t.blocks.map z09),I n,I m]=some [I (z3t t n m).1,I (z3t t n m).2]:=ze (f:=fun x:Tree × Int × Int=>z3t x.1 x.2.1 x.2.2) (t,n,m) trivial
def z0e5:T :=
 .W [.B .neq 4 (zI 0)] [] (.ite 5 (.ret [.c (.nil 1),4]) (.W [.call 78 [1,2,3] 0,.call 78 [1,2,3] 1] [] (.ret [6,7])))
def zjh:T :=
 .W [.call 62 [0] 0] [] z0e5
def z0e6:T :=
 .W [.B .neq 20 (zI 0)] [] (.ite 21 (.ret [.c (.nil 6),20]) (.W [.B .add 9 (zI 1)] [] (.again 0 [6,7,18,22])))
def z0e7:T :=
 .W [.call 67 [0,8,12,13,14,15,16] 0,.call 67 [0,8,12,13,14,15,16] 1,.call 67 [0,8,12,13,14,15,.v
 16] 2] [] z0e6
def z0e8:T :=
 .W [.call 79 [1,2,11] 0,.call 79 [1,2,11] 1,.call 79 [1,2,11] 2,.call 79 [1,2,11] 3,.call 79 [1,2,11] 4,.call 79 [.v
 1,2,11] 5] [] z0e7
def z0e9:T :=
 .loop [.c (.nil 6),zI 0,3,zI 0] (.W [.B .lss 9 5] [] (.ite 10 (.W [] [.inr 1 4 9] (.W [.idx 4 9 0] []
 z0e8)) (.ret [8,zI 0])))
def zji:T :=
 .W [.len 4] [] z0e9
def z0ea:T :=
 .ite 6 (.ret [.c (.nil 6),5]) (.W [.call 84 [0,1,2,.c (.nil 6),4] 0,.call 84 [0,1,2,.c (.nil 6),4] 1] [] (.ret [7,8]))
def zjj:T :=
 .W [.call 83 [0,1,2,3] 0,.call 83 [0,1,2,3] 1] [] (.W [.B .neq 5 (zI 0)] [] z0ea)
def z0eb:T :=
 .ite 8 (.ret [zI 0,zI 5]) (.W [.len 4] [] (.W [.B .sub 9 (zI 1)] [] (.W [.B .sub 10 7] [] (.ret [11,.c (.i
 .i64 0)]))))
def z0ec:T :=
 .W [.B .neq 5 (zI 0)] [] (.ite 6 (.ret [zI 0,5]) (.W [.call 77 [4,2] 0] [] (.W [.B .lss 7 (zI 0)] []
 z0eb)))
def zjk:T :=
 .W [.call 78 [0,1,3] 0,.call 78 [0,1,3] 1] [] z0ec
attribute [local irreducible] z3e z67
theorem z0m9:Meets Tryz.prog zcp 82 ⟨[.agg 1,.agg 2,.one],[(false,[.pure]),(false,[.scal])],false⟩:=by
 refine zf (sp:=(zy [(62,z3e),(78,z67)])) (sigs:=z05) (cut:=[]) (hints:=[]) (fn:=Tryz.f82) (t:=zjh) (by kernel_rfl) (by kernel_rfl) (by kernel_rfl) ?_ ?_
 ·exact (zr (L:=[(62,z3e),(78,z67)]) ⟨z7 rfl zl1,z7 rfl zpu,trivial⟩)
 ·rintro ds rs - h
  obtain ⟨⟨k,t,n⟩,-,rfl,rfl⟩:=zg h;clear h;refine ⟨⟨1,?_⟩,z1d ⟨rfl,trivial⟩⟩
  show den _ _ zjh [.l 1 (k.texts.map z0c),.l 1 (t.names.map zk),.l 5 (t.blocks.map z09),I n] []=ret (z3s k t n)
  unfold zjh z3s
  repeat' (first|refine dq1 ?_|refine dqk rfl (zem k) ?_|refine dqK rfl (zgb t n) ?_|exact z5 rfl rfl|refine tR (fun h=>?_) fun h=>?_|fail)
attribute [local irreducible] z5m z7t
theorem z0ma:Meets Tryz.prog zcq 83 ⟨[.agg 1,.agg 2,.one,.one],[(false,[.pure]),(false,[.scal])],false⟩:=by
 refine zf (sp:=(zy [(67,z5m),(79,z7t)])) (sigs:=z05) (cut:=[]) (hints:=[⟨2,[.r 8 101 6,.t 9,.t 2,.t 19]⟩]) (fn:=Tryz.f83) (t:=zji) (by kernel_rfl) (by kernel_rfl) (by kernel_rfl) ?_ ?_
 ·exact (zr (L:=[(67,z5m),(79,z7t)]) ⟨z7 rfl z07g,z7 rfl z0dm,trivial⟩)
 ·rintro ds rs hok h
  obtain ⟨⟨k,t,l,r⟩,-,rfl,rfl⟩:=zg h;clear h;have hll:=ok_l (hok (.l 1 (r.map zk)) (zY3i _ (zY3i _ (zY3i _ (zY13.2 rfl)))));refine ⟨⟨r.length+1,?_⟩,z1d ⟨rfl,trivial⟩⟩
  show den _ _ zji [.l 1 (k.texts.map z0c),.l 1 (t.names.map zk),.l 5 (t.blocks.map z09),.l 6 (l.map zh),.l 1 (r.map zk)] []=ret (z4d k t l r)
  unfold zji
  repeat' (first|refine dq1 ?_|fail)
  (refine zn (fun (l:List Coin) k=>[.l 6 [],I 0,.l 6 (l.map zh),I k]) (fun (l:List Coin) _ (r:List Int)=>z4d k t l r) (fun _ _=>True) l r ?_ ?_ ?_ ?_ ?_;rfl;exact trivial;omega)
  ·rintro l i n r hx hd hk - again hag
   have a1:=zpv t n;have a2:=zmh k l (z3n t n);rw [z4d];have hag':=hag (z18 k l (z3n t n)).1 trivial;generalize z18 k l (z3n t n)=q at *;obtain ⟨l2,us,e⟩:=q;generalize z3n t n=b at *;simp only at *
   repeat' (first|refine dq1 ?_|refine dqc ?_|refine dqK rfl (a1) ?_|refine dqK rfl (a2) ?_|exact z5 rfl rfl|refine tR (fun h=>?_) fun h=>?_|refine dqT ?_|fail)
   exact z6 rfl rfl hag'
  ·rintro l - again
   rw [z4d]
   repeat' (first|refine dq1 ?_|exact z5 rfl rfl|refine dqF ?_|fail)
theorem zv1:Meets Tryz.prog z4q 33 ⟨[.agg 1,.agg 2,.one],[(false,[.pure]),(false,[.scal])],false⟩:=by
 refine zf (sp:=(zy [(83,zcp),(84,zcq)])) (sigs:=z05) (cut:=[]) (hints:=[]) (fn:=Tryz.f33) (t:=zjj) (by kernel_rfl) (by kernel_rfl) (by kernel_rfl) ?_ ?_
 ·exact (zr (L:=[(83,zcp),(84,zcq)]) ⟨z7 rfl z0m9,z7 rfl z0ma,trivial⟩)
 ·rintro ds rs - h
  obtain ⟨⟨k,t,n⟩,-,rfl,rfl⟩:=zg h;clear h;refine ⟨⟨1,?_⟩,z1d ⟨rfl,trivial⟩⟩
  show den _ _ zjj [.l 1 (k.texts.map z0c),.l 1 (t.names.map zk),.l 5 (t.blocks.map z09),I n] []=ret (z0y k t n)
  have a1:=zx4 k t n;have a2:=zx5 k t [] (z3s k t n).1;unfold zjj z0y;generalize z3s k t n=q at *;obtain ⟨r,e⟩:=q;simp only at *
  repeat' (first|refine dq1 ?_|refine dqK rfl (a1) ?_|refine dqK rfl (a2) ?_|exact z5 rfl rfl|refine tR (fun h=>?_) fun h=>?_|fail)
attribute [local irreducible] z4q
attribute [local irreducible] z1c
theorem zv2:Meets Tryz.prog z5u 34 ⟨[.agg 2,.one,.one],[(false,[.scal]),(false,[.scal])],true⟩:=by
 refine zf (sp:=(zy [(77,z1c),(78,z67)])) (sigs:=z05) (cut:=[]) (hints:=[]) (fn:=Tryz.f34) (t:=zjk) (by kernel_rfl) (by kernel_rfl) (by kernel_rfl) ?_ ?_
 ·exact (zr (L:=[(77,z1c),(78,z67)]) ⟨z7 rfl z7s,z7 rfl zpu,trivial⟩)
 ·rintro ds rs - h
  obtain ⟨⟨t,n,m⟩,-,rfl,rfl⟩:=zg h;clear h;refine ⟨⟨1,?_⟩,zat rfl rfl⟩
  show den _ _ zjk [.l 1 (t.names.map zk),.l 5 (t.blocks.map z09),I n,I m] []=ret (z3t t n m)
  have a1:=zgb t m;have a2:=z3f (z31 t m).1 n;have hl:=z0m8 t m;have hi:=zfr (z31 t m).1 n;unfold zjk z3t;generalize z31 t m=q at *;obtain ⟨l,e⟩:=q;simp only at *;generalize idx l n=j at *
  repeat' (first|refine dq1 ?_|refine dqK rfl (a1) ?_|refine dqk rfl (a2) ?_|exact z5 rfl rfl|refine tR (fun h=>?_) fun h=>?_|fail)
attribute [local irreducible] z0ib zax z9d
end
section
open Go.RowKit
open Go.Lib (itoa)
set_option maxRecDepth 100000
set_option maxHeartbeats 4000000
attribute [local irreducible] den denX z0g z0o
deriving instance DecidableEq for Undo
attribute [local irreducible] z0v z08 z18 z65 z3x z5m
attribute [local irreducible] z0li
end
section
open Go.RowKit
open Go.Lib (itoa)
set_option maxRecDepth 100000
set_option maxHeartbeats 4000000
def zcr (x:List (List UInt8)) (l:List Coin) (t:Tx) (h:Int):List (List UInt8) × List Coin × Int × Int :=
 if (z0j t).2≠0 then (x,[],0,(z0j t).2) else if (t.ins.length:Int)=0 then (x,[],0,4) else
 if zoy ⟨x⟩ (z0j t).1≠0 then (x,[],0,zoy ⟨x⟩ (z0j t).1) else
 if (zw l t (zfs ⟨x⟩ (z0j t).1) h).2.2≠0 then (x,[],0,(zw l t (zfs ⟨x⟩ (z0j t).1) h).2.2) else
 (z02g ⟨x⟩ (z0j t).1,(zw l t (zfs ⟨x⟩ (z0j t).1) h).1,z0z t (zw l t (zfs ⟨x⟩ (z0j t).1) h).2.1,0)
abbrev z0qg:=List (List UInt8) × List Tx × List Coin × Int × Int
structure Sw where
 x:List (List UInt8)
 s:List Tx
 m:List Coin
 f:Int
def zsn (h:Int):Sw→List Tx→z0qg
 | a,[]=>(a.x,a.s,a.m,a.f,0)
 | a,t::r=>if (zcr a.x a.m t h).2.2.2≠0 then zsn h a r else
  zsn h ⟨(zcr a.x a.m t h).1,a.s++[t],(zcr a.x a.m t h).2.1,a.f+(zcr a.x a.m t h).2.2.1⟩ r
def z2t (k:Book) (l:List Coin) (p:List Tx) (h:Int):z0qg :=
 if zj k≠0 then ([],[],[],0,zj k) else if zd l≠0 then ([],[],[],0,zd l) else
 if h<1 then ([],[],[],0,3) else if h > 1000 then ([],[],[],0,3) else if (p.length:Int) > 8 then ([],[],[],0,2) else
 zsn h ⟨k.texts,[],l,0⟩ p
def z0mb (x:List (List UInt8)) (s:List Tx) (m:List Coin) (t:Tx) (h:Int):List (List UInt8) × List Tx × Int :=
 if (zcr x m t h).2.2.2≠0 then ([],[],(zcr x m t h).2.2.2) else if (s.length:Int)=8 then ([],[],12) else ((zcr x m t h).1,s++[t],0)
def z07i (k:Book) (l:List Coin) (p:List Tx) (t:Tx) (h:Int):List (List UInt8) × List Tx × Int :=
 if (z2t k l p h).2.2.2.2≠0 then ([],[],(z2t k l p h).2.2.2.2) else if t ∈ (z2t k l p h).2.1 then ([],[],6) else
 z0mb (z2t k l p h).1 (z2t k l p h).2.1 (z2t k l p h).2.2.1 t h
def z0sg (parent height work nonce:Int) (lk:List Op) (s:List Tx) (f:Int):Block × Int :=
 if z4b height≠0 then (zbt,z4b height) else if z0i height+f=0 then (zbt,9) else
 if zb ⟨parent,height,work,nonce,⟨height,[],[⟨z0i height+f,lk⟩]⟩::s⟩≠0 then (zbt,zb ⟨parent,height,work,nonce,⟨height,[],[⟨z0i height+f,lk⟩]⟩::s⟩) else
 (⟨parent,height,work,nonce,⟨height,[],[⟨z0i height+f,lk⟩]⟩::s⟩,0)
def z0mc (k:Book) (l:List Coin) (p:List Tx) (parent height work nonce:Int) (lk:List Op):Block × Int :=
 if (z2t k l p (height+1)).2.2.2.2≠0 then (zbt,(z2t k l p (height+1)).2.2.2.2) else
 if (z2t k l ((z2t k l p (height+1)).2.1.take 3) (height+1)).2.2.2.2≠0 then (zbt,(z2t k l ((z2t k l p (height+1)).2.1.take 3) (height+1)).2.2.2.2) else
 z0sg parent (height+1) work nonce lk (z2t k l ((z2t k l p (height+1)).2.1.take 3) (height+1)).2.1 (z2t k l ((z2t k l p (height+1)).2.1.take 3) (height+1)).2.2.2.1
attribute [local irreducible] z01 spD z0j zw z0z zoy z02g zfs zj zd zb z0i z4b
attribute [local irreducible] den denX z0g z0o
noncomputable def z0ie:za:=spD (fun _:List (List UInt8) × List Coin × Tx × Int=>True) fun x=>zcr x.1 x.2.1 x.2.2.1 x.2.2.2
attribute [local irreducible] z0da z6q z86 z7q
noncomputable def z07j:za:=spD (fun _:List (List UInt8) × List Coin × List Tx × Int=>True) fun x=>z2t ⟨x.1⟩ x.2.1 x.2.2.1 x.2.2.2
attribute [local irreducible] z3e z7r z9e z5q zbs
end
section
open Go.RowKit
open Go.Lib (itoa)
set_option maxRecDepth 100000
set_option maxHeartbeats 4000000
attribute [local irreducible] z01 spD z2t zcr z0j zw z0z zj zd zb z0i z4b
attribute [local irreducible] den denX z0g z0o
noncomputable def zx6:za:=spD (fun _:List (List UInt8) × List Coin × List Tx × Tx × Int=>True) fun x=>z07i ⟨x.1⟩ x.2.1 x.2.2.1 x.2.2.2.1 x.2.2.2.2
attribute [local irreducible] z0ie z07j z9e z0lp
noncomputable def z0ed:za:=spD (fun x:List (List UInt8) × List Coin × List Tx × Int × Int × Int × Int × List Op=>(-1≤x.2.2.2.2.1∧x.2.2.2.2.1≤1000)∧x.2.2.2.2.2.2.2.length≤8796093022208) fun x=>z0mc ⟨x.1⟩ x.2.1 x.2.2.1 x.2.2.2.1 x.2.2.2.2.1 x.2.2.2.2.2.1 x.2.2.2.2.2.2.1 x.2.2.2.2.2.2.2
attribute [local irreducible] z4u z6c z5l
end
section
open Go.RowKit
open Go.Lib (itoa)
set_option maxRecDepth 100000
set_option maxHeartbeats 4000000
attribute [local irreducible] den denX z0g z0o
attribute [local irreducible] z01 spD z07i z0mc
attribute [local irreducible] zx6 z0ed
end
section
open Go.RowKit
set_option maxRecDepth 100000
theorem Done.total {l:List Coin} {t:Tx} {nm h:Int} {r s m:List Coin} (d:Done l t nm h r s m):zi m=zi l - z0z t s:=by
 have h1:=d.spentAs.total;have h2:=d.broughtAs.total;rw [zdp];omega
theorem Done.most {l:List Coin} {t:Tx} {nm h:Int} {r s m:List Coin} (d:Done l t nm h r s m):zi m≤zi l - z0z t []:=by
 have S:=d.spentAs;have h1:=S.total;have h2:=d.broughtAs.total;have hs:0≤zi s:=zdh fun c hc=>d.ok.good c (S.from hc).1
 rw [zdp];simp only [zi];omega
theorem zhy {α:Type} {l:List α} {i:Nat} {x d:α} (h:i<l.length):(l.set i x).getD i d=x:=by
 rw [zY0w,zY0e h];rfl
theorem getD_set_ne {α:Type} {l:List α} {i j:Nat} {x d:α} (h:i≠j):(l.set i x).getD j d=l.getD j d:=by
 rw [zY0w,zY0h h,← zY0w]
theorem zl8 {b:Block} {ns:List Int} {m:List Coin} {us':List Undo}:∀ (r:List Tx) (l:List Coin) (us:List Undo) (most:Int) (j:Nat),z58 b ns l us most (j+1) r=(m,us',0)→b.txs.drop (j+1)=r→us.length=b.txs.length→j+1≤b.txs.length →
  ∃ l1 us1 most1,zaz b ns l1 us1 most1=(m,us',0)∧us1.length=b.txs.length∧(∀ i,i≤j→us1.getD i ⟨[]⟩=us.getD i ⟨[]⟩)∧zi l1=zi l - (most1 - most) ∧
   ∀ U:List Undo,(∀ i,1≤i→U.getD i ⟨[]⟩=us1.getD i ⟨[]⟩)→zq0 b ns U l1 (b.txs.length - 1)=zq0 b ns U l j
 | [],l,us,most,j,h,hd,hu,hj=>by
  rw [z58] at h;have hl:=congrArg List.length hd;rw [zY11,zY0q] at hl;have e:b.txs.length - 1=j:=by omega
  exact ⟨l,us,most,h,hu,fun _ _=>rfl,by omega,fun U _=>by rw [e]⟩
 | t::r,l,us,most,j,h,hd,hu,hj=>by
  rw [z58] at h
  by_cases he:(zw l t (ns.getD (j+1) 0) b.height).2.2=0
  rotate_left
  ·rw [if_pos he] at h
   exact absurd (congrArg (fun x=>x.2.2) h) he
  rw [if_neg (fun k=>k he)] at h;obtain ⟨rr,d⟩:=z87 he;have hl:=congrArg List.length hd;rw [zY11,zY0a] at hl;have hd2:b.txs.drop (j+1+1)=r:=by rw [← List.drop_drop,hd];rfl
  have ht:b.txs.getD (j+1) zTx=t:=by
   rw [zY0w];have:(b.txs.drop (j+1))[0]? = some t:=by rw [hd];rfl
   rw [zY1m] at this;rw [show j+1=j+1+0 by omega,this];rfl
  obtain ⟨l1,us1,most1,h1,h2,h3,h4,h5⟩:=zl8 r _ _ _ (j+1) h hd2 (by rw [zY2m];exact hu) (by omega);refine ⟨l1,us1,most1,h1,h2,fun i hi=>?_,by rw [h4,d.total];omega,fun U hU=>?_⟩
  ·rw [h3 i (by omega),getD_set_ne (by omega)]
  ·rw [h5 U hU,zq0,ht,hU (j+1) (by omega),h3 (j+1) (zY0k _),zhy (by omega),d.back]
   exact if_neg fun k=>k rfl
theorem z0md {k:Book} {l m:List Coin} {b:Block} {us:List Undo} (h:z18 k l b=(m,us,0)):zkn k m b us=(l,0)∧CoinsOK l∧CoinsOK m∧zi m≤zi l+z0i b.height∧zb b=0∧z5t us:=by
 have hsh:=z07h k l b;rw [h] at hsh;unfold z18 at h
 by_cases hc:zd l=0
 rotate_left
 ·rw [if_pos hc] at h
  exact absurd (congrArg (fun x=>x.2.2) h) hc
 rw [if_neg (fun k=>k hc)] at h
 by_cases he:(z08 k b).2.2.2=0
 rotate_left
 ·rw [if_pos he] at h
  exact absurd (congrArg (fun x=>x.2.2) h) he
 rw [if_neg (fun k=>k he)] at h;obtain ⟨hb,hn⟩:=zh9 he;have ok:=z1p hb;obtain ⟨l1,us1,most1,h1,h2,-,h4,h5⟩:=zl8 _ _ _ _ 0 h rfl (by simp) ok.some;unfold zaz at h1
 by_cases hm:most1 < -z0z (b.txs.getD 0 zTx) []
 ·rw [if_pos hm] at h1
  exact absurd (congrArg (fun x=>x.2.2) h1) (by show ¬ (9:Int)=0;decide)
 rw [if_neg hm] at h1
 by_cases ha:(zw l1 (b.txs.getD 0 zTx) ((z08 k b).2.2.1.getD 0 0) b.height).2.2=0
 rotate_left
 ·rw [if_pos ha] at h1
  exact absurd (congrArg (fun x=>x.2.2) h1) ha
 rw [if_neg (fun k=>k ha)] at h1;obtain ⟨rr,d⟩:=z87 ha;have e1:(zw l1 (b.txs.getD 0 zTx) ((z08 k b).2.2.1.getD 0 0) b.height).1=m:=congrArg (fun x=>x.1) h1;have e2:us1.set 0 ⟨(zw l1 (b.txs.getD 0 zTx) ((z08 k b).2.2.1.getD 0 0) b.height).2.1⟩=us:=congrArg (fun x=>x.2.1) h1;generalize zw l1 (b.txs.getD 0 zTx) ((z08 k b).2.2.1.getD 0 0) b.height=q at *;obtain ⟨m',sp,f⟩:=q;simp only at e1 e2 d;subst e1;have hl0:=ok.some;refine ⟨?_,(z12 l).1 hc,d.end_,?_,hb,hsh⟩
 ·unfold zkn
  rw [if_neg (by rw [(z12 m').2 d.end_];decide),if_neg (fun k=>k he)];have hul:us.length=b.txs.length:=by rw [← e2,zY2m,h2]
  rw [if_neg (by omega)];have hu0:us.getD 0 ⟨[]⟩=⟨sp⟩:=by rw [← e2];exact zhy (by omega)
  rw [hu0,d.back,if_neg (fun k=>k rfl),h5 us fun i hi=>by rw [← e2];exact getD_set_ne (by omega)];rfl
 ·have:=d.most
  omega
end
section
open Go.RowKit
set_option maxRecDepth 100000
theorem zx7 {t:Tree} {n:Int} (ok:TreeOK t.names t.blocks) (hn:0≤idx t.names n):(z3n t n).parent=z0p t.names t.blocks n∧z76 t n=0∧z3n t n=zx t.blocks (idx t.names n):=by
 have e:z76 t n=0:=by
  unfold z76;rw [if_neg (fun k=>k ((z2j _ _).2 ok)),if_neg (by omega)]
 have e2:z3n t n=zx t.blocks (idx t.names n):=by unfold z3n;rw [if_pos e]
 exact ⟨by rw [e2];rfl,e,e2⟩
end
section
open Go.RowKit
set_option maxRecDepth 100000
end
section
open Go.RowKit
set_option maxRecDepth 100000
inductive RunC (h:Int) (y:List Text):List Coin→List Tx→List Coin→Int→Prop where
 | nil (m:List Coin):RunC h y m [] m 0
 | cons {m m1 m' sp:List Coin} {t:Tx} {K:List Tx} {f:Int}:zm t=0→t.ins.length≠0→(z0m t).length≤4000→0≤idx y (z0m t)→zw m t (idx y (z0m t)+1) h=(m1,sp,0)→RunC h y m1 K m' f→RunC h y m (t::K) m' (z0z t sp+f)
theorem RunC.more {h:Int} {y z:List Text} {m m':List Coin} {K:List Tx} {f:Int} (hp:y <+: z) (R:RunC h y m K m' f):RunC h z m K m' f:=by
 induction R with
 | nil m=>exact .nil m
 | cons h1 h2 h3 h4 h5 _ ih =>
  have e:=zcn hp h4;exact .cons h1 h2 h3 (by omega) (by rw [e];exact h5) ih
theorem z0ee {m m1 sp:List Coin} {t:Tx} {nm h:Int} (hi:t.ins.length≠0) (h0:zw m t nm h=(m1,sp,0)):CoinsOK m∧CoinsOK m1∧0≤z0z t sp∧zi m1=zi m - z0z t sp:=by
 obtain ⟨r,d⟩:=z87 (l:=m) (t:=t) (nm:=nm) (h:=h) (by rw [h0]);rw [h0] at d;exact ⟨d.ok,d.end_,d.fee hi,d.total⟩
theorem RunC.facts {h:Int} {y:List Text} {m m':List Coin} {K:List Tx} {f:Int} (R:RunC h y m K m' f):0≤f∧zi m'=zi m - f∧(CoinsOK m→CoinsOK m'):=by
 induction R with
 | nil m=>exact ⟨by omega,by omega,fun h=>h⟩
 | cons h1 h2 h3 h4 h5 _ ih =>
  obtain ⟨a,b,c,d⟩:=z0ee h2 h5;obtain ⟨e,f,g⟩:=ih;exact ⟨by omega,by omega,fun _=>g b⟩
theorem RunC.part {h:Int} {y:List Text} {m':List Coin} {L:List Tx}:∀ {K:List Tx} {m:List Coin} {f:Int},RunC h y m (K++L) m' f→∃ m1 f1 f2,RunC h y m K m1 f1∧RunC h y m1 L m' f2
 | [],m,f,R=>⟨m,0,f,.nil m,R⟩
 | t::K,m,f,R=>by
  rw [zY1h] at R
  cases R with
  | cons h1 h2 h3 h4 h5 R =>
   obtain ⟨m1,f1,f2,a,b⟩:=RunC.part R;exact ⟨m1,_,f2,.cons h1 h2 h3 h4 h5 a,b⟩
end
section
open Go.RowKit
set_option maxRecDepth 100000
end
section
open Go.RowKit
set_option maxRecDepth 100000
end
section
open Go.RowKit
set_option maxRecDepth 100000
def z0if (x:Node):List Dt:=zb8 x.t++[.l 3 (x.pool.map eTx),I x.tip]
theorem z0me (x y:Node) (h:z0if x=z0if y):x=y:=by
 obtain ⟨t,p,n⟩:=x;obtain ⟨t',p',n'⟩:=y;obtain ⟨h1,h2⟩:=List.append_inj' h rfl;simp only [zY22,Dt.l.injEq,true_and,and_true] at h2;obtain rfl:=zu9 t t' h1;obtain rfl:=z48 zrh h2.1;obtain rfl:=zlw n n' (by unfold zk;rw [h2.2]);rfl
instance:Enc Node:=⟨z0if,4,fun _=>rfl,z0me⟩
end
section
open Go.RowKit
set_option maxRecDepth 100000
set_option maxHeartbeats 4000000
attribute [local irreducible] z01 spD
attribute [local irreducible] den denX z0g z0o
attribute [local irreducible] zaw z75
end
section
open Go.RowKit
set_option maxRecDepth 100000
set_option maxHeartbeats 4000000
noncomputable def z5a:za:=spD (fun _:List Op=>True) fun l=>z9 l
theorem z5v (l:List Op):z5a [.l 2 (l.map eOp)]=some [I (z9 l)]:=ze (f:=fun l:List Op=>z9 l) l trivial
theorem zl9:Meets Tryz.prog z5a 67 ⟨[.one],[(false,[.scal])],true⟩ :=
 zba (e:=fun x:{ x:List Op // True }=>Enc.e x.1) (d:=fun x=>I (z9 x.1)) rfl (z1x (fn:=Tryz.f67) (by kernel_rfl) (by kernel_rfl) (by kernel_rfl)) (fun _=>rfl) fun x W F us hF h=>by
  obtain ⟨v,us,rfl,h1,h⟩:=z1a h;obtain rfl:=z1s h;obtain ⟨A,n,c,rfl,k1⟩:=z2r z9q h1;exact (z0hk x.1 A n c W F k1 hF).mono fun e w' h=>⟨_,h.1,h.2,.i _ _ (wrap_i64 (zp4 x.1).i64)⟩
noncomputable def z88:za:=spD (fun _:Point × Point=>True) fun x=>decide (ltP x.1 x.2)
theorem zhz (p q:Point):z88 [I p.tx,I p.at_,I q.tx,I q.at_]=some [.b (decide (ltP p q))]:=ze (f:=fun x:Point × Point=>decide (ltP x.1 x.2)) (p,q) trivial
attribute [local irreducible] z01 spD z1h
def zq5:T :=
 .W [.B .gtr 30 (zI 1000000000)] [] (.ite 31 (.ret [zI 12]) (.W [.B .add 6 (zI 1)] [] (.again 0 [30,5,32])))
def zq6:T :=
 .W [.call 24 [26,27,8,9] 0] [] (.W [.not 28] [] (.ite 29 (.ret [zI 6]) (.W [.B .add 4 10] [] zq5)))
def zq7:T :=
 .W [.B .gtr 25 (zI 1000000000)] [] (.ite 26 (.ret [zI 12]) (.W [.B .add 6 (zI 1)] [] (.again 0 [25,5,27])))
def zq8:T :=
 .ite 24 (.W [.B .sub 6 (zI 1)] [] (.W [] [.inr 6 0 25] (.W [.idx 0 25 0,.idx 0 25 1] [] zq6))) (.W [.B
 .add 4 10] [] zq7)
def zq9:T :=
 .W [.call 23 [11] 0] [] (.W [.B .neq 22 (zI 0)] [] (.ite 23 (.ret [22]) (.W [.B .gtr 6 (zI 0)] [] zq8)))
def zqa:T :=
 .W [.B .lss 12 (zI 1)] [] (.ite 20 (.ret [zI 3]) (.W [.B .gtr 12 (zI 1000)] [] (.ite 21 (.ret [zI 3])
 zq9)))
def zqb:T :=
 .W [.B .lss 10 (zI 1)] [] (.ite 18 (.ret [zI 3]) (.W [.B .gtr 10 (zI 1000000000)] [] (.ite 19 (.ret [zI 3])
 zqa)))
def zqc:T :=
 .W [.B .lss 9 (zI 0)] [] (.ite 16 (.ret [zI 3]) (.W [.B .gtr 9 (zI 5)] [] (.ite 17 (.ret [zI 3])
 zqb)))
def zqd:T :=
 .W [.B .lss 8 (zI 1)] [] (.ite 14 (.ret [zI 3]) (.W [.B .gtr 8 (zI 120)] [] (.ite 15 (.ret [zI 3])
 zqc)))
def zqe:T :=
 .W [] [.inr 6 0 6] (.W [.idx 0 6 0,.idx 0 6 1,.idx 0 6 2,.idx 0 6 3,.idx 0 6 4,.idx 0 6 5] []
 zqd)
def zmi:T :=
 .W [.len 0] [] (.loop [zI 0,zI 0,zI 0] (.W [.B .lss 6 3] [] (.ite 7 zqe (.ret [zI 0]))))
def zc4:T :=
 .W [.len 0] [] (.W [.B .gtr 1 (zI 720)] [] (.ite 2 (.ret [zI 2]) zmi))
theorem z0sh (p q:Point):(decide (p.tx<q.tx) || (decide (p.tx=q.tx) && decide (p.at_<q.at_)))=decide (ltP p q):=by
 unfold ltP
 by_cases h1:p.tx<q.tx <;> by_cases h2:p.tx=q.tx <;> by_cases h3:p.at_<q.at_ <;> simp [h1,h2,h3]
theorem zv3:Meets Tryz.prog z88 68 ⟨[.agg 2,.agg 2],[(false,[.scal])],true⟩:=by
 refine zf (sp:=(zy [])) (sigs:=z05) (cut:=[]) (hints:=[]) (fn:=Tryz.f68) (t:=zj8) (by kernel_rfl) (by kernel_rfl) (by kernel_rfl) ?_ ?_
 ·exact (zr (L:=[]) trivial)
 ·rintro ds rs - h
  obtain ⟨⟨p,q⟩,-,rfl,rfl⟩:=zg h;clear h;refine ⟨⟨1,?_⟩,z04 rfl⟩
  show den _ _ zj8 [I p.tx,I p.at_,I q.tx,I q.at_] []=ret (decide (ltP p q))
  rw [← z0sh];unfold zj8
  repeat' (first|refine dq1 ?_|refine dqc ?_|refine dqm ?_|exact z5 rfl rfl|((first|refine tR ?_ ?_|refine tB ?_ ?_|refine tC ?_ ?_|refine tN ?_ ?_|refine tF ?_ ?_|refine tG ?_ ?_|refine tP ?_ ?_|refine tQ ?_ ?_|refine tA ?_ ?_|refine tO ?_ ?_|refine tU ?_ ?_|refine tV ?_ ?_) <;> intro h)|refine dqT ?_|refine dqF ?_|refine z0a rfl ?_|refine z0l rfl ?_|refine zau ?_|refine z64 ?_)
def zb0:Point→Int→List Coin→Int
 | _,_,[]=>0
 | pv,s,c::r=>if c.p.tx<1∨120<c.p.tx∨c.p.at_<0∨5<c.p.at_∨c.o.coin<1∨1000000000<c.o.coin∨c.height<1∨1000<c.height then 3
  else if z9 c.o.lock≠0 then z9 c.o.lock else if decide (ltP pv c.p)=true then (if 1000000000<s+c.o.coin then 12 else zb0 c.p (s+c.o.coin) r) else 6
theorem zla:∀ (l:List Coin) (p:Point) (s:Int),zb0 p s l=z73 p s l
 | [],p,s=>rfl
 | c::l,p,s=>by
  rw [zb0,z73,zla l];have e:5<c.p.at_↔6≤c.p.at_:=by omega
  have ho:=zkj p c.p;simp only [e]
  by_cases h:ltP p c.p
  ·have:=ho.2 h
   rw [if_pos (c:=decide (ltP p c.p)=true) (by simpa using h),if_neg (c:=0≤z1h p c.p) (by omega)]
  ·have:¬ z1h p c.p<0:=fun hh=>h (ho.1 hh)
   rw [if_neg (c:=decide (ltP p c.p)=true) (by simpa using h),if_pos (c:=0≤z1h p c.p) (by omega)]
noncomputable def z51:za:=spD (fun _:List Coin=>True) fun l=>zd l
theorem zc9 (l:List Coin):z51 [.l 6 (l.map zh)]=some [I (zd l)]:=ze (f:=fun l:List Coin=>zd l) l trivial
theorem zx8:Meets Tryz.prog z51 20 ⟨[.one],[(false,[.scal])],true⟩:=by
 refine zf (sp:=(zy [(23,z5a),(24,z88)])) (sigs:=z05) (cut:=[]) (hints:=[⟨5,[.t 3,.t 2,.t 12]⟩]) (fn:=Tryz.f20) (t:=zc4) (by kernel_rfl) (by kernel_rfl) (by kernel_rfl) ?_ ?_
 ·exact (zr (L:=[(23,z5a),(24,z88)]) ⟨z7 rfl zl9,z7 rfl zv3,trivial⟩)
 ·rintro ds rs - h
  obtain ⟨l,-,rfl,rfl⟩:=zg h;clear h;refine ⟨⟨l.length+1,?_⟩,z04 rfl⟩
  show den _ _ zc4 [.l 6 (l.map zh)] []=ret (zd l)
  unfold zc4 zd
  repeat' (first|refine dq1 ?_|refine dqc ?_|refine dqm ?_|exact z5 rfl rfl|((first|refine tR ?_ ?_|refine tB ?_ ?_|refine tC ?_ ?_|refine tN ?_ ?_|refine tF ?_ ?_|refine tG ?_ ?_|refine tP ?_ ?_|refine tQ ?_ ?_|refine tA ?_ ?_|refine tO ?_ ?_|refine tU ?_ ?_|refine tV ?_ ?_) <;> intro h)|refine dqT ?_|refine dqF ?_|refine z0a rfl ?_|refine z0l rfl ?_|refine zau ?_|refine z64 ?_)
  rw [← zla]
  (refine zn (fun (st:Point × Int) k=>[I st.2,I 0,I k]) (fun st k (r:List Coin)=>zb0 st.1 st.2 r) (fun st k=>((k=0∧st.1=⟨0,0⟩)∨(0<k∧∃ d,l[((k:Int) - 1).toNat]? = some d∧d.p=st.1))∧0≤st.2∧st.2≤1000000000) (⟨0,0⟩,0) l ?_ ?_ ?_ ?_ ?_;rfl;exact ⟨.inl ⟨rfl,rfl⟩,by decide,by decide⟩;first|exact zY29 _|omega)
  ·rintro ⟨pv,s⟩ k c r hx hd hk ⟨hp,hs0,hs1⟩ again hag
   simp only at hp hs0 hs1 ⊢;rw [zb0]
   repeat' (first|refine dq1 ?_|refine dqc ?_|refine dqm ?_|refine dqK rfl (z5v _) ?_|exact z5 rfl rfl|((first|refine tR ?_ ?_|refine tB ?_ ?_|refine tC ?_ ?_|refine tN ?_ ?_|refine tF ?_ ?_|refine tG ?_ ?_|refine tP ?_ ?_|refine tQ ?_ ?_|refine tA ?_ ?_|refine tO ?_ ?_|refine tU ?_ ?_|refine tV ?_ ?_) <;> intro h)|refine dqT ?_|refine dqF ?_|refine z0a rfl ?_|refine z0l rfl ?_|refine zau ?_|refine z64 ?_)
   refine z3d rfl (fun h=>?_) (fun h=>?_)
   ·obtain ⟨hk0,-⟩|⟨hk0,d,hd',rfl⟩:=hp
    ·omega
    repeat' (first|refine dq1 ?_|refine dqc ?_|refine dqm ?_|refine dqK rfl (zhz _ _) ?_|exact z5 rfl rfl|((first|refine tR ?_ ?_|refine tB ?_ ?_|refine tC ?_ ?_|refine tN ?_ ?_|refine tF ?_ ?_|refine tG ?_ ?_|refine tP ?_ ?_|refine tQ ?_ ?_|refine tA ?_ ?_|refine tO ?_ ?_|refine tU ?_ ?_|refine tV ?_ ?_) <;> intro h)|refine dqT ?_|refine dqF ?_|refine z0a rfl ?_|refine z0l rfl ?_|refine zau ?_|refine z64 ?_)
    exact z6 rfl rfl (hag (c.p,s+c.o.coin) ⟨.inr ⟨by omega,c,by simpa using hx,rfl⟩,by simp only;omega,by simp only;omega⟩)
   ·obtain ⟨rfl,rfl⟩|⟨hk0,-⟩:=hp
    ·have ho:ltP ⟨0,0⟩ c.p:=by
      unfold ltP;simp only;omega
     rw [if_pos (by simpa using ho)]
     repeat' (first|refine dq1 ?_|refine dqc ?_|refine dqm ?_|exact z5 rfl rfl|((first|refine tR ?_ ?_|refine tB ?_ ?_|refine tC ?_ ?_|refine tN ?_ ?_|refine tF ?_ ?_|refine tG ?_ ?_|refine tP ?_ ?_|refine tQ ?_ ?_|refine tA ?_ ?_|refine tO ?_ ?_|refine tU ?_ ?_|refine tV ?_ ?_) <;> intro h)|refine dqT ?_|refine dqF ?_|refine z0a rfl ?_|refine z0l rfl ?_|refine zau ?_|refine z64 ?_)
     exact z6 rfl rfl (hag (c.p,s+c.o.coin) ⟨.inr ⟨by omega,c,by simpa using hx,rfl⟩,by simp only;omega,by simp only;omega⟩)
    ·omega
  ·intro st hI again
   simp only [zb0]
   repeat' (first|refine dq1 ?_|refine dqc ?_|refine dqm ?_|exact z5 rfl rfl|((first|refine tR ?_ ?_|refine tB ?_ ?_|refine tC ?_ ?_|refine tN ?_ ?_|refine tF ?_ ?_|refine tG ?_ ?_|refine tP ?_ ?_|refine tQ ?_ ?_|refine tA ?_ ?_|refine tO ?_ ?_|refine tU ?_ ?_|refine tV ?_ ?_) <;> intro h)|refine dqT ?_|refine dqF ?_|refine z0a rfl ?_|refine z0l rfl ?_|refine zau ?_|refine z64 ?_)
end
section
open Go.RowKit
open Go.Lib (itoa atoiAll atoiSat)
set_option maxRecDepth 100000
set_option maxHeartbeats 4000000
def zes:List UInt8:=[45,32,45,32,100,117,112,32,115,119,97,112,32,100,114,111,112,32,97,100,100,32,115,117,98,32,115,97,109,101,32,108,101,115,115,32,110,111,116,32,97,110,100,32,118,101,114,105,102,121,32,104,101,105,103,104,116,32,109,105,120]
def wordsL:List (List UInt8):=[45]::[45]::opNames.drop 2
theorem zdr:Go.Lib.fields zes=wordsL:=by decide +kernel
theorem z0ef:∀ b ∈ zes,b.toNat<128:=by decide
theorem z0eg:∀ y ∈ wordsL,y.length≤1000000:=by decide
theorem z0pb:z6d [.s zes]=some [.l 1 (wordsL.map z0c)]:=by
 have h:=zp9 zes ⟨by decide,z0ef,by rw [zdr];decide,by rw [zdr];exact z0eg⟩;rw [zdr] at h;exact h
theorem zv4 {k:Int} (h0:2≤k) (h1:k≤13):wordsL[k.toNat]? = some ((opNames[k.toNat]?).getD []):=by
 have hk:k=2∨k=3∨k=4∨k=5∨k=6∨k=7∨k=8∨k=9∨k=10∨k=11∨k=12∨k=13:=by omega
 rcases hk with rfl|rfl|rfl|rfl|rfl|rfl|rfl|rfl|rfl|rfl|rfl|rfl <;> rfl
def joinTail (acc:List UInt8) (first:Bool):List (List UInt8)→List UInt8
 | []=>acc
 | x::r=>joinTail (if first then acc++x else acc++[32]++x) false r
theorem zi0:∀ (r:List (List UInt8)) (acc:List UInt8),joinTail acc false r=acc++(match r with | []=>[]|_=>32::z49 32 r)
 | [],acc=>by simp [joinTail]
 | x::r,acc=>by
  rw [joinTail,zi0 r]
  cases r with
  | nil=>simp [z49]
  | cons y r=>simp [z49]
theorem z07k (l:List (List UInt8)):joinTail [] true l=z49 32 l:=by
 cases l with
 | nil=>rfl
 | cons x r =>
  rw [joinTail,zi0]
  cases r with
  | nil=>simp [z49]
  | cons y r=>simp [z49]
noncomputable def z8l:za:=spD (fun l:List Op=>z9 l=0) fun l=>z6a l
theorem zge (l:List Op) (h:z9 l=0):z8l [.l 2 (l.map eOp)]=some [.s (z6a l)]:=ze (p:=fun l:List Op=>z9 l=0) (f:=fun l:List Op=>z6a l) l h
attribute [local irreducible] z01 spD z1h itoa z9 z22 z49 z42 z05n zdi z7b zit ziu joinTail
attribute [local irreducible] den denX z0g z0o
def z07l:T :=
 .W [] [.inr 1 1 6] (.W [.idx 1 6 0] [] (.W [.B .add 9 11] [] (.W [.B .add 4 (zI 1)] [] (.again 0 [12,13]))))
def z07m:T :=
 .ite 10 (.W [.call 38 [7] 0] [] (.W [.B .add 9 11] [] (.W [.B .add 4 (zI 1)] [] (.again 0 [12,13])))) z07l
def z07n:T :=
 .W [] [.inr 1 1 6] (.W [.idx 1 6 0] [] (.W [.B .add 3 10] [] (.W [.B .add 4 (zI 1)] [] (.again 0 [11,12]))))
def z07o:T :=
 .ite 9 (.W [.call 38 [7] 0] [] (.W [.B .add 3 10] [] (.W [.B .add 4 (zI 1)] [] (.again 0 [11,12])))) z07n
def z07p:T :=
 .ite 8 (.W [.B .add 3 (.c (.s [32]))] [] (.W [.B .eql 6 (zI 1)] [] z07m)) (.W [.B .eql 6 (zI 1)] [] z07o)
def z07q:T :=
 .ite 5 (.W [] [.inr 2 0 4] (.W [.idx 0 4 0,.idx 0 4 1] [] (.W [.B .gtr 4 (zI 0)] [] z07p))) (.ret [3])
def zha:T :=
 .W [.call 45 [.c (.s [45,32,45,32,100,117,112,32,115,119,97,112,32,100,114,111,112,32,97,100,100,32,115,117,98,32,115,97,109,101,32,108,101,115,
 115,32,110,111,116,32,97,110,100,32,118,101,114,105,102,121,32,104,101,105,103,104,116,32,109,105,120])] 0] [] (.W [.len 0] [] (.loop [.c (.s []),
 .c (.i .i64 0)] (.W [.B .lss 4 2] [] z07q)))
section
variable {sp:Nat→za} {N:Nat} {E E':Env} {ks:List (List Dt→Option (List Dt))} {res:Option (List Dt)}
theorem z7u {a b:Atom} {x y:List UInt8} (ha:a.val E=some (.s x)) (hb:b.val E=some (.s y)) (h:x.length+y.length≤1000000000):denX sp E (.B .add a b)=some (.s (x++y)):=by
 have e:denX sp E (.B .add a b)=(if x.length+y.length≤1000000000 then some (.s (x++y)) else none):=by with_unfolding_all simp only [denX,ha,hb,zY09,zY06];with_unfolding_all rfl
 rw [e,if_pos h]
end
attribute [local irreducible] z4x z6d
theorem z0ig:Meets Tryz.prog z8l 105 ⟨[.one],[(false,[.scal])],true⟩:=by
 refine zf (sp:=(zy [(38,z4x),(45,z6d)])) (sigs:=z05) (cut:=[]) (hints:=[⟨4,[.t 4,.t 10]⟩]) (fn:=Tryz.f105) (t:=zha) (by kernel_rfl) (by kernel_rfl) (by kernel_rfl) ?_ ?_
 ·exact (zr (L:=[(38,z4x),(45,z6d)]) ⟨z7 rfl zp8,z7 rfl z0cc,trivial⟩)
 ·rintro ds rs - h
  obtain ⟨l,hc0,rfl,rfl⟩:=zg h;clear h;refine ⟨⟨l.length+1,?_⟩,z04 rfl⟩
  show den _ _ zha [.l 2 (l.map eOp)] []=ret (z6a l)
  obtain ⟨hl16,hall⟩:=zdg hc0;have et:z6a l=joinTail [] true (l.map z1w):=by rw [z07k];with_unfolding_all rfl
  rw [et];have a1:=z0pb;unfold zha
  repeat' (first|refine dq1 ?_|refine dqk rfl (a1) ?_|fail)
  (refine zn (fun (a:List UInt8) k=>[.s a,I k]) (fun (a:List UInt8) k (r:List Op)=>joinTail a (decide (k=0)) (r.map z1w)) (fun a k=>a.length≤100 * k) [] l ?_ ?_ ?_ ?_ ?_;rfl;exact Nat.zero_le _;omega)
  ·rintro a k o r hx hd hk ha again hag
   have hbad:=hall o (zY07 hx);have ho:=zm4 hbad;obtain ⟨ho1,ho2,-⟩:=ho;have hto:=zp0 hbad;have e1:joinTail a (decide (k=0)) (z1w o::r.map z1w)=joinTail (if decide (k=0)=true then a++z1w o else a++[32]++z1w o) false (r.map z1w):=by with_unfolding_all rfl
   rw [zY1q,e1];have hk1:decide (k+1=0)=false:=rfl
   by_cases hk0:k=0
   ·rw [if_pos (decide_eq_true hk0)]
    have ha':=hag (a++z1w o) (by rw [zY04];omega);rw [hk1] at ha'
    repeat' (first|refine dq1 ?_|refine dqc ?_|refine dqm ?_|refine dqT ?_|refine dqF ?_|fail)
    refine z3d rfl (fun h=>?_) (fun h=>?_)
    ·have ht:z1w o=itoa o.n:=by with_unfolding_all exact if_pos h
     rw [ht] at ha' hto ⊢
     repeat' (first|refine dq1 ?_|refine dqk rfl (z6p _) ?_|refine z4 (z7u rfl rfl (by omega)) ?_|fail)
     exact z6 rfl rfl ha'
    ·have hw:=zv4 (k:=o.kind) (by omega) ho2
     have ht:z1w o=(opNames[o.kind.toNat]?).getD []:=by with_unfolding_all exact if_neg h
     rw [ht] at ha' hto ⊢;have hwl:wordsL.length=14:=rfl
     repeat' (first|refine dq1 ?_|refine dqc ?_|refine z4 (z7u rfl rfl (by omega)) ?_|fail)
     exact z6 rfl rfl ha'
   ·rw [if_neg (by simpa using hk0)]
    have ha':=hag (a++[32]++z1w o) (by simp only [zY04,zY0a,zY0q];omega);rw [hk1] at ha'
    repeat' (first|refine dq1 ?_|refine dqc ?_|refine dqm ?_|refine dqT ?_|fail)
    refine z4 (z7u rfl rfl (by simp only [zY0a,zY0q];omega)) ?_;have hal:(a++[32]).length≤2000:=by simp only [zY04,zY0a,zY0q];omega
    generalize a++[32]=a2 at *
    repeat' (first|refine dq1 ?_|fail)
    refine z3d rfl (fun h=>?_) (fun h=>?_)
    ·have ht:z1w o=itoa o.n:=by with_unfolding_all exact if_pos h
     rw [ht] at ha' hto ⊢
     repeat' (first|refine dq1 ?_|refine dqk rfl (z6p _) ?_|refine z4 (z7u rfl rfl (by omega)) ?_|fail)
     exact z6 rfl rfl ha'
    ·have hw:=zv4 (k:=o.kind) (by omega) ho2
     have ht:z1w o=(opNames[o.kind.toNat]?).getD []:=by with_unfolding_all exact if_neg h
     rw [ht] at ha' hto ⊢;have hwl:wordsL.length=14:=rfl
     repeat' (first|refine dq1 ?_|refine dqc ?_|refine z4 (z7u rfl rfl (by omega)) ?_|fail)
     exact z6 rfl rfl ha'
  ·rintro a ha again
   have e0:∀ b:Bool,joinTail a b []=a:=fun b=>by with_unfolding_all rfl
   simp only [zY2u,e0]
   repeat' (first|refine dq1 ?_|exact z5 rfl rfl|refine dqF ?_|fail)
def z0un (w:List UInt8):Int × Bool:=((zdi w).1,!(zdi w).2.is && decide (itoa (zdi w).1=w))
attribute [local irreducible] z0un z02h
end
section
open Go.RowKit
set_option maxRecDepth 100000
set_option maxHeartbeats 4000000
def z5d:List Out→List Int→Int
 | [],l=>(z3q l).2
 | o::r,l=>if o.coin<1 then 3 else if z9 o.lock≠0 then z9 o.lock else z5d r (l++[o.coin])
def zb1 (K:Int):List In→List Point→Int
 | [],_=>K
 | x::r,sn=>if x.p.tx<1 then 3 else if x.p.tx > 120 then 3 else if x.p.at_<0 then 3 else if x.p.at_ > 5 then 3 else if z9 x.key≠0 then z9 x.key else if z1o sn x.p=true then 6 else zb1 K r (sn++[x.p])
theorem zmj:∀ (r:List Out) (l:List Int),z5d r l=if z2c r≠0 then z2c r else (z3q (l++r.map Out.coin)).2
 | [],l=>by rw [z5d,z2c];simp
 | o::r,l=>by
  rw [z5d,z2c,zmj r];unfold z6b
  by_cases h1:o.coin<1
  ·rw [if_pos h1,if_pos h1];rfl
  rw [if_neg h1,if_neg h1]
  by_cases h2:z9 o.lock≠0
  ·rw [if_pos h2,if_pos h2,if_pos h2]
  rw [if_neg h2,if_neg h2];simp
theorem zv5:∀ (s:List In) (p:Point) (k:Nat),(0≤z4l s p k↔p ∈ s.map (·.p))
 | [],p,k=>by simp [z4l]
 | y::s,p,k=>by
  rw [z4l]
  by_cases h:y.p=p
  ·rw [if_pos h];simp [h]
  ·rw [if_neg h,zv5 s p (k+1),zY1q,zY0g]
   exact ⟨.inr,fun x=>x.resolve_left fun e=>h e.symm⟩
theorem z0g5 (K:Int):∀ (r s:List In),zb1 K r (s.map (·.p))=if z2n r s≠0 then z2n r s else K
 | [],s=>by rw [zb1,z2n];simp
 | x::r,s=>by
  have hm:(z1o (s.map (·.p)) x.p=true)=(0≤z4l s x.p 0):=by
   unfold z1o;rw [decide_eq_true_eq,zv5 s x.p 0]
  have ih:=z0g5 K r (s++[x]);rw [zY23] at ih;rw [zb1,z2n];simp only [hm];unfold z4m
  by_cases h0:x.p.tx<1∨120<x.p.tx∨x.p.at_<0∨6≤x.p.at_
  ·rw [if_pos h0,if_pos (show (3:Int)≠0 by decide),if_pos (show (3:Int)≠0 by decide)]
   by_cases h1:x.p.tx<1
   ·rw [if_pos h1]
   by_cases h2:x.p.tx > 120
   ·rw [if_neg h1,if_pos h2]
   by_cases h3:x.p.at_<0
   ·rw [if_neg h1,if_neg h2,if_pos h3]
   ·rw [if_neg h1,if_neg h2,if_neg h3,if_pos (by omega)]
  ·rw [if_neg h0,if_neg (show ¬ x.p.tx<1 by omega),if_neg (show ¬ x.p.tx > 120 by omega),if_neg (show ¬ x.p.at_<0 by omega),if_neg (show ¬ x.p.at_ > 5 by omega)]
   by_cases h1:z9 x.key≠0
   ·rw [if_pos h1,if_pos h1,if_pos h1]
   rw [if_neg h1,if_neg h1]
   by_cases h2:0≤z4l s x.p 0
   ·rw [if_pos h2,if_pos h2];rfl
   ·rw [if_neg h2,if_neg h2]
    exact ih
theorem z0eh (t:Tx):zm t=if 6<t.ins.length∨6<t.outs.length then 2 else if t.outs.length=0 then 4 else if (t.ins.length=0∧(t.height<1∨1000<t.height))∨(0<t.ins.length∧t.height≠0) then 3 else zb1 (z5d t.outs []) t.ins []:=by
 have e:=z0g5 (z5d t.outs []) t.ins [];rw [zmj] at e;simp only [zY2u,zY17] at e;rw [zmj];simp only [zY17];rw [e];unfold zm z2d
 split
 ·simp
 split
 ·simp
 split
 ·simp
 ·simp
attribute [local irreducible] z01 spD z1h zd z9 zm
attribute [local irreducible] den denX z0g z0o
noncomputable def zgf:za:=spD (fun _:List Point × Point=>True) fun x=>z1o x.1 x.2
theorem zqf (l:List Point) (p:Point):zgf [.l 2 (l.map z35),I p.tx,I p.at_]=some [.b (z1o l p)]:=ze (f:=fun x:List Point × Point=>z1o x.1 x.2) (l,p) trivial
theorem z0mf (q:Point) (r:List Point) (p:Point):z1o (q::r) p=if p=q then true else z1o r p:=by
 unfold z1o
 by_cases h:p=q
 ·rw [if_pos h];simp [h]
 ·rw [if_neg h];simp [h]
def z0pc:T :=
 .W [.eqs false [(.v 1,.v 7),(.v 2,.v 8)]] [] (.ite 9 (.W [.B .geq 5 (zI 0)] [] (.ret [10])) (.W [.B .add 5 (zI 1)] [] (.again 0
 [4,10])))
def z0pd:T :=
 .ite 6 (.W [] [.inr 2 0 5] (.W [.idx 0 5 0,.idx 0 5 1] [] z0pc)) (.W [.B .geq (.c (.i .i64 (-1))) (zI 0)] [] (.ret [.v
 7]))
def z07r:T :=
 .W [.len 0] [] (.loop [zI 0,zI 0] (.W [.B .lss 5 3] [] z0pd))
theorem z0uo:Meets Tryz.prog zgf 101 ⟨[.one,.agg 2],[(false,[.scal])],true⟩:=by
 refine z6i (sp:=(zy [])) (sigs:=z05) (cut:=[]) (hints:=[]) (fns:=[z8x 128 Tryz.f128 [⟨2,[.t 4,.t 8]⟩] []]) (dep:=1) (pool:=60) (fn:=Tryz.f101) (t:=z07r) (by kernel_rfl) (by kernel_rfl) (by kernel_rfl) ?_ ?_ ?_
 ·exact (z2h (fn:=Tryz.f128) (by kernel_rfl) (by kernel_rfl) (by kernel_rfl) (by kernel_rfl) (by kernel_rfl) z7k)
 ·exact (zr (L:=[]) trivial)
 ·rintro ds rs hok h
  obtain ⟨⟨l,p⟩,-,rfl,rfl⟩:=zg h;have hl:=ok_l (hok (.l 2 (l.map z35)) (zY0j ..));clear hok h;refine ⟨⟨l.length+1,?_⟩,z04 rfl⟩
  show den _ _ z07r [.l 2 (l.map z35),I p.tx,I p.at_] []=ret (z1o l p)
  unfold z07r
  repeat' (first|refine dq1 ?_|fail)
  (refine zn (fun (_:Unit) k=>[I 0,I k]) (fun (_:Unit) k (r:List Point)=>z1o r p) (fun _ _=>True) () l ?_ ?_ ?_ ?_ ?_;rfl;exact trivial;omega)
  ·rintro _ k c r hx hd hk - again hag
   rw [z0mf];have hag:=hag () trivial
   by_cases hc:p=c
   ·subst hc
    rw [if_pos rfl]
    repeat' (first|refine dq1 ?_|refine dqc ?_|refine dqm ?_|exact z5 rfl rfl|refine dqT ?_|refine z0a rfl ?_|fail)
   ·rw [if_neg hc]
    repeat' (first|refine dq1 ?_|refine dqc ?_|refine dqm ?_|exact z6 rfl rfl hag|refine dqT ?_|refine dqF ?_|fail)
  ·rintro _ - again
   have e:z1o [] p=false:=by with_unfolding_all rfl
   rw [e]
   repeat' (first|refine dq1 ?_|exact z5 rfl rfl|refine dqF ?_|fail)
noncomputable def zbu:za:=spD (fun _:List Int=>True) fun l=>z3q l
theorem zjl (l:List Int):zbu [.l 1 (l.map zk)]=some [I (z3q l).1,I (z3q l).2]:=ze (f:=fun l:List Int=>z3q l) l trivial
def z0ih:T :=
 .W [.B .gtr 11 (zI 1000000000)] [] (.ite 12 (.ret [zI 0,zI 12]) (.W [.B .add 5 (zI 1)] [] (.again 0 [11,3,
 .v 4,13])))
def z0ii:T :=
 .W [.B .leq 7 (zI 1000000000)] [] (.W [.not 9] [] (.ite 10 (.ret [zI 0,zI 3]) (.W [.B .add 2 7] [] z0ih)))
def z0ij:T :=
 .W [] [.inr 1 0 5] (.W [.idx 0 5 0] [] (.W [.B .geq 7 (zI 0)] [] (.ite 8 z0ii (.ret [zI 0,zI 3]))))
def z0ik:T :=
 .loop [zI 0,zI 0,zI 0,zI 0] (.W [.B .lss 5 1] [] (.ite 6 z0ij (.ret [2,zI 0])))
def zmk:T :=
 .W [.len 0] [] z0ik
theorem z0pe:Meets Tryz.prog zbu 102 ⟨[.one],[(false,[.scal]),(false,[.scal])],true⟩:=by
 refine z6i (sp:=(zy [])) (sigs:=z05) (cut:=[]) (hints:=[⟨3,[.t 4,.t 2,.t 3,.t 9]⟩]) (fns:=[z8x 76 Tryz.f76 [] []]) (dep:=1) (pool:=40) (fn:=Tryz.f102) (t:=zmk) (by kernel_rfl) (by kernel_rfl) (by kernel_rfl) ?_ ?_ ?_
 ·exact (z2h (fn:=Tryz.f76) (by kernel_rfl) (by kernel_rfl) (by kernel_rfl) (by kernel_rfl) (by kernel_rfl) z7k)
 ·exact (zr (L:=[]) trivial)
 ·rintro ds rs hok h
  obtain ⟨l,-,rfl,rfl⟩:=zg h;have hl:=ok_l (hok (.l 1 (l.map zk)) (zY0j ..));clear hok h;refine ⟨⟨l.length+1,?_⟩,zat rfl rfl⟩
  show den _ _ zmk [.l 1 (l.map zk)] []=ret (z8s l 0)
  unfold zmk
  repeat' (first|refine dq1 ?_|fail)
  (refine zn (fun (s:Int) k=>[I s,I 0,I 0,I k]) (fun (s:Int) k (r:List Int)=>z8s r s) (fun s _=>0≤s∧s≤1000000000) 0 l ?_ ?_ ?_ ?_ ?_;rfl;exact ⟨by omega,by omega⟩;omega)
  ·rintro s k x r hx hd hk ⟨s1,s2⟩ again hag
   rw [z8s]
   by_cases h1:0≤x∧x≤1000000000
   ·obtain ⟨x1,x2⟩:=h1
    rw [if_pos ⟨x1,x2⟩]
    by_cases h2:1000000000<s+x
    ·rw [if_pos h2]
     repeat' (first|refine dq1 ?_|refine dqc ?_|exact z5 rfl rfl|refine dqT ?_|refine z64 ?_|fail)
    ·rw [if_neg h2]
     have hag:=hag (s+x) ⟨by omega,by omega⟩
     repeat' (first|refine dq1 ?_|refine dqc ?_|exact z6 rfl rfl hag|refine dqT ?_|refine dqF ?_|refine z64 ?_|fail)
   ·rw [if_neg h1]
    by_cases h3:0≤x
    ·have h4:¬ x≤1000000000:=fun h=>h1 ⟨h3,h⟩
     clear h1
     repeat' (first|refine dq1 ?_|refine dqc ?_|exact z5 rfl rfl|refine dqT ?_|refine zau ?_|fail)
    ·clear h1
     repeat' (first|refine dq1 ?_|refine dqc ?_|exact z5 rfl rfl|refine dqT ?_|refine dqF ?_|fail)
  ·rintro s ⟨s1,s2⟩ again
   rw [z8s]
   repeat' (first|refine dq1 ?_|exact z5 rfl rfl|refine dqF ?_|fail)
noncomputable def zbh:za:=spD (fun _:Tx=>True) fun t=>zm t
theorem zso (t:Tx):zbh [I t.height,.l 3 (t.ins.map eIn),.l 2 (t.outs.map z3b)]=some [I (zm t)]:=ze (f:=fun t:Tx=>zm t) t trivial
def z07s:T :=
 .ite 30 (.ret [zI 6]) (.W [.mk 2 [[21,22]]] [] (.W [.app 2 18 31] [] (.W [.B .add 19 (zI 1)] [] (.again 0 [17,32,.v
 33]))))
def z07t:T :=
 .W [.call 23 [23] 0] [] (.W [.B .neq 28 (zI 0)] [] (.ite 29 (.ret [28]) (.W [.call 134 [18,21,22] 0] [] z07s)))
def z07u:T :=
 .W [.B .lss 22 (zI 0)] [] (.ite 26 (.ret [zI 3]) (.W [.B .gtr 22 (zI 5)] [] (.ite 27 (.ret [zI 3])
 z07t)))
def z07v:T :=
 .W [.B .lss 21 (zI 1)] [] (.ite 24 (.ret [zI 3]) (.W [.B .gtr 21 (zI 120)] [] (.ite 25 (.ret [zI 3])
 z07u)))
def z07w:T :=
 .ite 30 (.ret [29]) (.W [.mk 1 [[26]]] [] (.W [.app 1 23 31] [] (.W [.B .add 24 (zI 1)] [] (.again 1 [22,32,33]))))
def z07x:T :=
 .W [.B .lss 26 (zI 1)] [] (.ite 28 (.ret [zI 3]) (.W [.call 23 [27] 0] [] (.W [.B .neq 29 (zI 0)] [] z07w)))
def z07y:T :=
 .ite 25 (.W [] [.inr 2 2 24] (.W [.idx 2 24 0,.idx 2 24 1] [] z07x)) (.W [.call 135 [23] 0,.call 135 [23] 1] [] (.ret [.v
 27]))
def z07z:T :=
 .ite 20 (.W [] [.inr 3 1 19] (.W [.idx 1 19 0,.idx 1 19 1,.idx 1 19 2] [] z07v)) (.W [.len 2] [] (.loop [17,
 .c (.nil 1),zI 0] (.W [.B .lss 24 21] [] z07y)))
def z080:T :=
 .ite 15 (.ret [zI 3]) (.W [.len 1] [] (.loop [zI 0,.c (.nil 2),zI 0] (.W [.B .lss 19 16] [] z07z)))
def z081:T :=
 .ite 28 (.ret [zI 6]) (.W [.mk 2 [[19,20]]] [] (.W [.app 2 16 29] [] (.W [.B .add 17 (zI 1)] [] (.again 0 [15,30,.v
 31]))))
def zx9:T :=
 .W [.call 23 [21] 0] [] (.W [.B .neq 26 (zI 0)] [] (.ite 27 (.ret [26]) (.W [.call 134 [16,19,20] 0] [] z081)))
def zxa:T :=
 .W [.B .lss 20 (zI 0)] [] (.ite 24 (.ret [zI 3]) (.W [.B .gtr 20 (zI 5)] [] (.ite 25 (.ret [zI 3])
 zx9)))
def zxb:T :=
 .W [.B .lss 19 (zI 1)] [] (.ite 22 (.ret [zI 3]) (.W [.B .gtr 19 (zI 120)] [] (.ite 23 (.ret [zI 3])
 zxa)))
def zxc:T :=
 .ite 28 (.ret [27]) (.W [.mk 1 [[24]]] [] (.W [.app 1 21 29] [] (.W [.B .add 22 (zI 1)] [] (.again 1 [20,30,31]))))
def zxd:T :=
 .W [.B .lss 24 (zI 1)] [] (.ite 26 (.ret [zI 3]) (.W [.call 23 [25] 0] [] (.W [.B .neq 27 (zI 0)] [] zxc)))
def zxe:T :=
 .ite 23 (.W [] [.inr 2 2 22] (.W [.idx 2 22 0,.idx 2 22 1] [] zxd)) (.W [.call 135 [21] 0,.call 135 [21] 1] [] (.ret
 [25]))
def zxf:T :=
 .ite 18 (.W [] [.inr 3 1 17] (.W [.idx 1 17 0,.idx 1 17 1,.idx 1 17 2] [] zxb)) (.W [.len 2] [] (.loop [15,
 .c (.nil 1),zI 0] (.W [.B .lss 22 19] [] zxe)))
def zxg:T :=
 .ite 13 (.W [.B .lss 0 (zI 1)] [] (.ite 14 (.ret [zI 3]) (.W [.B .gtr 0 (zI 1000)] [] z080))) (.W [.len (.v
 1)] [] (.loop [zI 0,.c (.nil 2),zI 0] (.W [.B .lss 17 14] [] zxf)))
def zxh:T :=
 .W [.B .neq 0 (zI 0)] [] (.ite 11 (.ret [zI 3]) (.W [.len 1] [] (.W [.B .eql 12 (zI 0)] [] zxg)))
def zxi:T :=
 .ite 29 (.ret [zI 6]) (.W [.mk 2 [[20,21]]] [] (.W [.app 2 17 30] [] (.W [.B .add 18 (zI 1)] [] (.again 0 [16,31,.v
 32]))))
def zxj:T :=
 .W [.call 23 [22] 0] [] (.W [.B .neq 27 (zI 0)] [] (.ite 28 (.ret [27]) (.W [.call 134 [17,20,21] 0] [] zxi)))
def zxk:T :=
 .W [.B .lss 21 (zI 0)] [] (.ite 25 (.ret [zI 3]) (.W [.B .gtr 21 (zI 5)] [] (.ite 26 (.ret [zI 3])
 zxj)))
def zxl:T :=
 .W [.B .lss 20 (zI 1)] [] (.ite 23 (.ret [zI 3]) (.W [.B .gtr 20 (zI 120)] [] (.ite 24 (.ret [zI 3])
 zxk)))
def zxm:T :=
 .ite 29 (.ret [28]) (.W [.mk 1 [[25]]] [] (.W [.app 1 22 30] [] (.W [.B .add 23 (zI 1)] [] (.again 1 [21,31,32]))))
def zxn:T :=
 .W [.B .lss 25 (zI 1)] [] (.ite 27 (.ret [zI 3]) (.W [.call 23 [26] 0] [] (.W [.B .neq 28 (zI 0)] [] zxm)))
def zxo:T :=
 .ite 24 (.W [] [.inr 2 2 23] (.W [.idx 2 23 0,.idx 2 23 1] [] zxn)) (.W [.call 135 [22] 0,.call 135 [22] 1] [] (.ret
 [26]))
def zxp:T :=
 .ite 19 (.W [] [.inr 3 1 18] (.W [.idx 1 18 0,.idx 1 18 1,.idx 1 18 2] [] zxl)) (.W [.len 2] [] (.loop [16,
 .c (.nil 1),zI 0] (.W [.B .lss 23 20] [] zxo)))
def zxq:T :=
 .ite 14 (.ret [zI 3]) (.W [.len 1] [] (.loop [zI 0,.c (.nil 2),zI 0] (.W [.B .lss 18 15] [] zxp)))
def zxr:T :=
 .ite 27 (.ret [zI 6]) (.W [.mk 2 [[18,19]]] [] (.W [.app 2 15 28] [] (.W [.B .add 16 (zI 1)] [] (.again 0 [14,29,.v
 30]))))
def zxs:T :=
 .W [.call 23 [20] 0] [] (.W [.B .neq 25 (zI 0)] [] (.ite 26 (.ret [25]) (.W [.call 134 [15,18,19] 0] [] zxr)))
def zxt:T :=
 .W [.B .lss 19 (zI 0)] [] (.ite 23 (.ret [zI 3]) (.W [.B .gtr 19 (zI 5)] [] (.ite 24 (.ret [zI 3])
 zxs)))
def zxu:T :=
 .W [.B .lss 18 (zI 1)] [] (.ite 21 (.ret [zI 3]) (.W [.B .gtr 18 (zI 120)] [] (.ite 22 (.ret [zI 3])
 zxt)))
def zxv:T :=
 .ite 27 (.ret [26]) (.W [.mk 1 [[23]]] [] (.W [.app 1 20 28] [] (.W [.B .add 21 (zI 1)] [] (.again 1 [19,29,30]))))
def zxw:T :=
 .W [.B .lss 23 (zI 1)] [] (.ite 25 (.ret [zI 3]) (.W [.call 23 [24] 0] [] (.W [.B .neq 26 (zI 0)] [] zxv)))
def zxx:T :=
 .ite 22 (.W [] [.inr 2 2 21] (.W [.idx 2 21 0,.idx 2 21 1] [] zxw)) (.W [.call 135 [20] 0,.call 135 [20] 1] [] (.ret
 [24]))
def zxy:T :=
 .ite 17 (.W [] [.inr 3 1 16] (.W [.idx 1 16 0,.idx 1 16 1,.idx 1 16 2] [] zxu)) (.W [.len 2] [] (.loop [14,
 .c (.nil 1),zI 0] (.W [.B .lss 21 18] [] zxx)))
def zxz:T :=
 .ite 12 (.W [.B .lss 0 (zI 1)] [] (.ite 13 (.ret [zI 3]) (.W [.B .gtr 0 (zI 1000)] [] zxq))) (.W [.len (.v
 1)] [] (.loop [zI 0,.c (.nil 2),zI 0] (.W [.B .lss 16 13] [] zxy)))
def zy0:T :=
 .W [.len 1] [] (.W [.B .gtr 9 (zI 0)] [] (.ite 10 zxh (.W [.len 1] [] (.W [.B .eql 11 (zI 0)] []
 zxz))))
def zy1:T :=
 .W [.B .gtr 5 (zI 6)] [] (.ite 6 (.ret [zI 2]) (.W [.len 2] [] (.W [.B .eql 7 (zI 0)] [] (.ite 8 (.ret [.c (.i
 .i64 4)]) zy0))))
def zhb:T :=
 .W [.len 1] [] (.W [.B .gtr 3 (zI 6)] [] (.ite 4 (.ret [zI 2]) (.W [.len 2] [] zy1)))
attribute [local irreducible] zgf z5a zbu
theorem z0il:Meets Tryz.prog zbh 52 ⟨[.agg 3],[(false,[.scal])],true⟩:=by
 refine zf (sp:=(zy [(23,z5a),(134,zgf),(135,zbu)])) (sigs:=z05) (cut:=[]) (hints:=[⟨9,[.t 2,.r 3 97 2,.t 55]⟩,⟨22,[.t 2,.r 7 3 1,.t 100]⟩]) (fn:=Tryz.f52) (t:=zhb) (by kernel_rfl) (by kernel_rfl) (by kernel_rfl) ?_ ?_
 ·exact (zr (L:=[(23,z5a),(134,zgf),(135,zbu)]) ⟨z7 rfl zl9,z7 rfl z0uo,z7 rfl z0pe,trivial⟩)
 ·rintro ds rs - h
  obtain ⟨⟨th,ins,outs⟩,-,rfl,rfl⟩:=zg h;clear h;refine ⟨⟨20,?_⟩,z04 rfl⟩
  show den _ _ zhb [I th,.l 3 (ins.map eIn),.l 2 (outs.map z3b)] []=ret (zm ⟨th,ins,outs⟩)
  rw [z0eh];simp only;unfold zhb
  by_cases h1:6<ins.length
  ·rw [if_pos (.inl h1)]
   repeat' (first|refine dq1 ?_|exact z5 rfl rfl|refine dqT ?_|fail)
  by_cases h2:6<outs.length
  ·rw [if_pos (.inr h2)]
   repeat' (first|refine dq1 ?_|exact z5 rfl rfl|refine dqT ?_|refine dqF ?_|fail)
  rw [if_neg (by omega)]
  by_cases h3:outs.length=0
  ·rw [if_pos h3]
   repeat' (first|refine dq1 ?_|exact z5 rfl rfl|refine dqT ?_|refine dqF ?_|fail)
  rw [if_neg h3]
  by_cases h4:ins.length=0
  ·by_cases h5:th<1
   ·rw [if_pos (.inl ⟨h4,.inl h5⟩)]
    repeat' (first|refine dq1 ?_|exact z5 rfl rfl|refine dqT ?_|refine dqF ?_|fail)
   by_cases h6:1000<th
   ·rw [if_pos (.inl ⟨h4,.inr h6⟩)]
    repeat' (first|refine dq1 ?_|exact z5 rfl rfl|refine dqT ?_|refine dqF ?_|fail)
   rw [if_neg (by omega)]
   repeat' (first|refine dq1 ?_|refine dqT ?_|refine dqF ?_|fail)
   (refine zn (fun (sn:List Point) k=>[I 0,.l 2 (sn.map z35),I k]) (fun (sn:List Point) _ (r:List In)=>zb1 (z5d outs []) r sn) (fun sn k=>sn.length=k) [] ins ?_ ?_ ?_ ?_ ?_;rfl;exact rfl;omega)
   ·rintro sn k x r hx hd hk hs again hag
    have b1:=z5v x.key;have b2:=zqf sn x.p;have hag:=hag (sn++[x.p]) (by simp;omega);rw [zb1];generalize zb1 (z5d outs []) r (sn++[x.p])=R at *;generalize z9 x.key=e at *;generalize z1o sn x.p=mb at *
    repeat' (first|refine dq1 ?_|refine dqc ?_|refine dqm ?_|refine dqk rfl (b1) ?_|refine dqk rfl (b2) ?_|refine z4 (z1m (r:=([x.p].map z35)) rfl rfl (by simp)) ?_|exact z6 rfl rfl hag|exact z5 rfl rfl|((first|refine tR ?_ ?_|refine tB ?_ ?_) <;> intro h)|refine dqT ?_|fail)
   ·rintro sn hs again
    rw [zb1]
    repeat' (first|refine dq1 ?_|refine dqF ?_|fail)
    (refine zn (fun (l:List Int) k=>[I 0,.l 1 (l.map zk),I k]) (fun (l:List Int) _ (r:List Out)=>z5d r l) (fun l k=>l.length=k) [] outs ?_ ?_ ?_ ?_ ?_;rfl;exact rfl;omega)
    ·rintro l k x r hx hd hk hs2 again2 hag
     have b1:=z5v x.lock;have hag:=hag (l++[x.coin]) (by simp;omega);rw [z5d];generalize z5d r (l++[x.coin])=R at *;generalize z9 x.lock=e at *
     repeat' (first|refine dq1 ?_|refine dqc ?_|refine dqm ?_|refine dqk rfl (b1) ?_|exact z6 rfl rfl hag|exact z5 rfl rfl|refine tR (fun h=>?_) fun h=>?_|refine dqT ?_|fail)
    ·rintro l hs2 again2
     rw [z5d];have b1:=zjl l;generalize z3q l=q at *;obtain ⟨q1,q2⟩:=q;simp only at b1 ⊢
     repeat' (first|refine dq1 ?_|refine dqK rfl (b1) ?_|exact z5 rfl rfl|refine dqF ?_|fail)
  ·by_cases h5:th=0
   rotate_left
   ·rw [if_pos (.inr ⟨by omega,h5⟩)]
    repeat' (first|refine dq1 ?_|exact z5 rfl rfl|refine dqT ?_|refine dqF ?_|fail)
   rw [if_neg (by omega)]
   repeat' (first|refine dq1 ?_|refine dqT ?_|refine dqF ?_|fail)
   (refine zn (fun (sn:List Point) k=>[I 0,.l 2 (sn.map z35),I k]) (fun (sn:List Point) _ (r:List In)=>zb1 (z5d outs []) r sn) (fun sn k=>sn.length=k) [] ins ?_ ?_ ?_ ?_ ?_;rfl;exact rfl;omega)
   ·rintro sn k x r hx hd hk hs again hag
    have b1:=z5v x.key;have b2:=zqf sn x.p;have hag:=hag (sn++[x.p]) (by simp;omega);rw [zb1];generalize zb1 (z5d outs []) r (sn++[x.p])=R at *;generalize z9 x.key=e at *;generalize z1o sn x.p=mb at *
    repeat' (first|refine dq1 ?_|refine dqc ?_|refine dqm ?_|refine dqk rfl (b1) ?_|refine dqk rfl (b2) ?_|refine z4 (z1m (r:=([x.p].map z35)) rfl rfl (by simp)) ?_|exact z6 rfl rfl hag|exact z5 rfl rfl|((first|refine tR ?_ ?_|refine tB ?_ ?_) <;> intro h)|refine dqT ?_|fail)
   ·rintro sn hs again
    rw [zb1]
    repeat' (first|refine dq1 ?_|refine dqF ?_|fail)
    (refine zn (fun (l:List Int) k=>[I 0,.l 1 (l.map zk),I k]) (fun (l:List Int) _ (r:List Out)=>z5d r l) (fun l k=>l.length=k) [] outs ?_ ?_ ?_ ?_ ?_;rfl;exact rfl;omega)
    ·rintro l k x r hx hd hk hs2 again2 hag
     have b1:=z5v x.lock;have hag:=hag (l++[x.coin]) (by simp;omega);rw [z5d];generalize z5d r (l++[x.coin])=R at *;generalize z9 x.lock=e at *
     repeat' (first|refine dq1 ?_|refine dqc ?_|refine dqm ?_|refine dqk rfl (b1) ?_|exact z6 rfl rfl hag|exact z5 rfl rfl|refine tR (fun h=>?_) fun h=>?_|refine dqT ?_|fail)
    ·rintro l hs2 again2
     rw [z5d];have b1:=zjl l;generalize z3q l=q at *;obtain ⟨q1,q2⟩:=q;simp only at b1 ⊢
     repeat' (first|refine dq1 ?_|refine dqK rfl (b1) ?_|exact z5 rfl rfl|refine dqF ?_|fail)
end
section
open Go.RowKit
open Go.Lib (itoa)
set_option maxRecDepth 100000
set_option maxHeartbeats 4000000
attribute [local irreducible] z01 spD z1h itoa z9 z22 z49 z42 z05n zdi z7b zit ziu zm zoz
attribute [local irreducible] den denX z0g z0o
theorem z0im {x:In} (h:z9 x.key=0):z3l x=[105,110,32]++itoa x.p.tx++[32]++itoa x.p.at_++[58]++z6a x.key++[10]:=by
 unfold z3l z3g;rw [if_neg (fun k=>k h)]
theorem z0ei {x:Out} (h:z9 x.lock=0):z2s x=[111,117,116,32]++itoa x.coin++[58]++z6a x.lock++[10]:=by
 unfold z2s z3g;rw [if_neg (fun k=>k h)]
noncomputable def z5w:za:=spD (fun t:Tx=>zm t=0) fun t=>z0m t
theorem zi1 (t:Tx) (h:zm t=0):z5w [I t.height,.l 3 (t.ins.map eIn),.l 2 (t.outs.map z3b)]=some [.s (z0m t)]:=ze (p:=fun t:Tx=>zm t=0) (f:=fun t:Tx=>z0m t) t h
def z0ej:T :=
 .W [.B .add 18 19] [] (.W [.B .add 20 (.c (.s [10]))] [] (.W [.B .add 7 21] [] (.W [.B .add 8 (zI 1)] [] (.again 0 [.v
 22,23]))))
def z0ek:T :=
 .W [.B .add 14 (.c (.s [32]))] [] (.W [.call 38 [11] 0] [] (.W [.B .add 15 16] [] (.W [.B .add 17 (.c (.s [58]))] [] (.W [.call 48 [.v
 12] 0] [] z0ej))))
def z0el:T :=
 .W [.idx 1 8 0,.idx 1 8 1,.idx 1 8 2] [] (.W [.call 38 [10] 0] [] (.W [.B .add (.c (.s [105,110,32])) 13] [] z0ek))
def z0em:T :=
 .W [.B .add 18 19] [] (.W [.B .add 20 (.c (.s [10]))] [] (.W [.B .add 11 21] [] (.W [.B .add 12 (zI 1)] [] (.again 1 [.v
 22,23]))))
def z0en:T :=
 .W [.call 38 [14] 0] [] (.W [.B .add (.c (.s [111,117,116,32])) 16] [] (.W [.B .add 17 (.c (.s [58]))] [] (.W [.call 48 [15] 0] [] z0em)))
def z0eo:T :=
 .W [.B .lss 12 10] [] (.ite 13 (.W [] [.inr 2 2 12] (.W [.idx 2 12 0,.idx 2 12 1] [] z0en)) (.ret [11]))
def z0ep:T :=
 .W [.B .lss 8 6] [] (.ite 9 (.W [] [.inr 3 1 8] z0el) (.W [.len 2] [] (.loop [7,zI 0] z0eo)))
def z0eq:T :=
 .W [.B .add (.c (.s [116,120,32])) 3] [] (.W [.B .add 4 (.c (.s [10]))] [] (.W [.len 1] [] (.loop [5,zI 0] z0ep)))
def zjm:T :=
 .W [.call 38 [0] 0] [] z0eq
attribute [local irreducible] z4x z8l
theorem zv6:Meets Tryz.prog z5w 54 ⟨[.agg 3],[(false,[.scal])],true⟩:=by
 refine zf (sp:=(zy [(38,z4x),(48,z8l)])) (sigs:=z05) (cut:=[]) (hints:=[⟨3,[.t 3,.t 16]⟩,⟨8,[.t 3,.t 43]⟩]) (fn:=Tryz.f54) (t:=zjm) (by kernel_rfl) (by kernel_rfl) (by kernel_rfl) ?_ ?_
 ·exact (zr (L:=[(38,z4x),(48,z8l)]) ⟨z7 rfl zp8,z7 rfl z0ig,trivial⟩)
 ·rintro ds rs - h
  obtain ⟨t,ht,rfl,rfl⟩:=zg h;clear h;refine ⟨⟨20,?_⟩,z04 rfl⟩
  show den _ _ zjm [I t.height,.l 3 (t.ins.map eIn),.l 2 (t.outs.map z3b)] []=ret (z4y t++t.ins.flatMap z3l++t.outs.flatMap z2s)
  have ok:=z4n ht;have h0:=zhn ok.head;have lh:=z4z (n:=t.height) (by omega) (by omega);have hn1:=ok.ins;have hn2:=ok.outs;have lhh:(z4y t).length≤24:=by simp only [z4y,zY04,zY0a,zY0q];omega
  unfold zjm
  repeat' (first|refine dq1 ?_|refine dqk rfl (z6p _) ?_|refine z4 (z7u rfl rfl (by simp only [zY04,zY0a,zY0q];omega)) ?_|fail)
  (refine zn (fun (a:List UInt8) k=>[.s a,I k]) (fun (a:List UInt8) _ (r:List In)=>a++r.flatMap z3l++t.outs.flatMap z2s) (fun a k=>a.length≤24+200 * k) (z4y t) t.ins ?_ ?_ ?_ ?_ ?_;rfl;exact (by omega);omega)
  ·rintro a k x r hx hd hk ha again hag
   have hxb:=zm7 ok.insOk x (zY07 hx);obtain ⟨b1,b2,b3,b4,b5⟩:=z02x hxb;have il:=zup hxb;have l1:=z4z (n:=x.p.tx) (by omega) (by omega);have l2:=z4z (n:=x.p.at_) (by omega) (by omega);have ol:=zbd b5;have a3:=zge x.key b5;have hag':=hag (a++z3l x) (by rw [zY04];omega);have e:a++(x::r).flatMap z3l=(a++z3l x)++r.flatMap z3l:=by simp
   rw [e];rw [z0im b5] at hag' ⊢;clear hag e il
   repeat' (first|refine dq1 ?_|refine dqc ?_|refine dqm ?_|refine dqk rfl (z6p _) ?_|refine dqk rfl (a3) ?_|refine z4 (z7u rfl rfl (by simp only [zY04,zY0a,zY0q];omega)) ?_|refine dqT ?_|fail)
   exact z6 rfl rfl hag'
  ·rintro a ha again
   simp only [zY2o,zY1e]
   repeat' (first|refine dq1 ?_|refine dqF ?_|fail)
   (refine zn (fun (b:List UInt8) k=>[.s b,I k]) (fun (b:List UInt8) _ (r:List Out)=>b++r.flatMap z2s) (fun b k=>b.length≤a.length+200 * k) a t.outs ?_ ?_ ?_ ?_ ?_;rfl;exact (by omega);omega)
   ·rintro b k x r hx hd hk hb again' hag
    obtain ⟨b1,b2,b5⟩:=ok.good x (zY07 hx);have il:=zpa b1 b2;have l1:=z4z (n:=x.coin) (by omega) (by omega);have ol:=zbd b5;have a3:=zge x.lock b5;have hag':=hag (b++z2s x) (by rw [zY04];omega);have e:b++(x::r).flatMap z2s=(b++z2s x)++r.flatMap z2s:=by simp
    rw [e];rw [z0ei b5] at hag' ⊢;clear hag e il
    repeat' (first|refine dq1 ?_|refine dqc ?_|refine dqm ?_|refine dqk rfl (z6p _) ?_|refine dqk rfl (a3) ?_|refine z4 (z7u rfl rfl (by simp only [zY04,zY0a,zY0q];omega)) ?_|refine dqT ?_|fail)
    exact z6 rfl rfl hag'
   ·rintro b hb again'
    simp only [zY2o,zY1e]
    repeat' (first|refine dq1 ?_|exact z5 rfl rfl|refine dqF ?_|fail)
end
section
open Go.RowKit
set_option maxRecDepth 100000
set_option maxHeartbeats 4000000
end
section
open Go.RowKit
open Go.Lib (itoa)
set_option maxRecDepth 100000
set_option maxHeartbeats 4000000
section
variable {sp:Nat→za} {E:Env}
end
attribute [local irreducible] den denX z0g z0o
attribute [local irreducible] z01 spD z7b zdi z0l8 zb z0lj z05p z0hq itoa
end
end Go.Proofs.YtaddehddalnliaaGreatDoor
