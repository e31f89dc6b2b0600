/- Own texts, put together by wip/bundle.py: VB3, VT3, VS2, VS3, VL7, VS4, VB4, VU3, VU4, VB5, VC0, VEr, VC1, VB6, VU7, VRow, VDel, VIns, VU8, VU9, VPU, VPB, VC2, VC3, VC5, VC8, VC9, VC10, VR2, VR3, VT4, VR1, VR4, VR5, VR7, VR8, VN0, VN1, VU5, VU6. -/
import Derived.Lib.FieldsLaws
import Derived.Laws.IdiomCopy
import Derived.Lib.AppendZerosOnto
import Derived.Deep.RegionLaw
import Derived.Lib.Hide
import Derived.Laws.Externs
import Derived.Laws.NewBlocks
import Derived.Test.YtdpbicpeimhopaaGreatDoorNSOwnB2
import Derived.Test.YtdpbicpeimhopaaGreatDoorNSOwnC
import Derived.Test.YtdpbicpeimhopaaGreatDoorNSOwnR
import Derived.Test.YtdpbicpeimhopaaGreatDoorNSOwnS
import Derived.Test.YtdpbicpeimhopaaGreatDoorNSOwnV2
import Derived.Test.YtdpbicpeimhopaaGreatDoorNSOwnZ1
set_option linter.unusedVariables false
set_option linter.unusedSimpArgs false
namespace Go.Proofs.YtdpbicpeimhopaaGreatDoor
section
open Go.RowKit Go.Shelf
open Go.Lib (itoa)
set_option maxRecDepth 100000
noncomputable def z34:za:=spD (fun _:Tx=>True) fun t=>zo t
theorem zpl (t:Tx):z34 (eTx t)=some [.s (zo t).1,I (zo t).2]:=zp (f:=fun t:Tx=>zo t) t trivial
theorem z02b (t:Tx):I64 (zo t).2:=by
 unfold zo
 split
 ·exact (z01v t).i64
 ·show I64 0
  exact ⟨by decide,by decide⟩
theorem zgw:Meets Tryz.prog z34 42 ⟨[.agg 3],[(false,[.scal]),(false,[.scal])],true⟩ :=
 z1x rfl (z1u (fn:=Tryz.f42) (by kernel_rfl) (by kernel_rfl) (by kernel_rfl)) fun t _ W F us hF h=>by
  obtain ⟨cs,rfl,hr⟩:=z6a h
  have hS:Sep W F [rep t cs shTx] W:=(Sep.start W F hF.1).addRep (S:=shTx) (shTx.more (fun b hb=>⟨.inl hb,by simp⟩) (she_tx.of hr))
  refine (zo6 t cs hS At.z hF.2).mono ?_
  rintro e w' ⟨rfl,hS'⟩
  exact ⟨_,rfl,hS'.below,zbs rfl rfl (.s _ (by have:=zks t;omega)) (.i _ _ (wrap_i64 (z02b t)))⟩
theorem Yl.base {P:Program} {w0:World} {F0:Nat→Prop} {Γ:List Res} {o:Oper} {a:Act} {t:TypeId} {x:Operand} {g j:Nat} {v:Value} (ho:o.op = .load t x) (hx:a.eval x = .pointer (some ⟨g,j,none⟩)) (h1:OneT P t) (hg:g<w0.heap.size) (hc:w0.cell? ⟨g,j,none⟩=some v):Yl P w0 F0 Γ o a v :=
 Yl.load ho hx fun W hS=>h1.load ((hS.below.cell (p:=⟨g,j,none⟩) hg).trans hc)
set_option maxHeartbeats 4000000 in
theorem z02c (t:Block) (cs:List Value) {w0 W:World} {F0:Nat→Prop} {Γ:List Res} (hS:Sep w0 F0 Γ W) (ht:At Γ (rep t cs shBlock)) (hG:Glob w0) :
  Calls Tryz.prog 10 #[.agg cs.toArray] W (RV w0 F0 Γ (.tuple #[.string ⟨(z0l t).1.toArray⟩,.int .i64 (z0l t).2])):=by
 (have hO:=hS.open_block ht;clear hS;obtain ⟨A,n,c,rfl,i1,i2,i3,i4,hS⟩:=hO)
 obtain ⟨hl1,hn1,hc1⟩:=hS.len (xs:=t.txs) (by repeat (with_reducible exact At.z))
 have HP:=Lib.hid (show z0l t=if zh t≠0 then ([],zh t) else (za1 t,0) from rfl)
 generalize z0l t=R at *
 have L1:=Lib.hid hl1
 clear hl1
 go_enter Tryz.func10,Tryz.ntmps10
 (go_wp2_with ((refine Sep.wbox hS (by rfl) rfl rfl ?_;clear hS;intro gt W hS;refine Stop.go ?_));refine Stop.mk ?_)
 go_wp2_with (((refine Sep.wloadNb hS (by rfl) rfl rfl (by repeat (with_reducible exact At.z)) (z6 rfl) ?_)))
 refine (hS.old (z7o t [_,_,_,_,_] _ _ (hS.ltsRep (At.s (At.s ht))) (fun b hb=>hb))).mono ?_;clear hS;rintro e W ⟨rfl,hS⟩
 rcases Classical.em (zh t=0) with h0|h0
 ·rw [h0]
  have HR:Hid (R=(za1 t,0)):=Lib.hid (by rw [HP.out,if_neg (fun h=>h h0)])
  have H0:=Lib.hid h0
  have hlen:n≤4:=by have:=(z5o h0).len;have:=L1.out;omega
  clear h0 HP
  have b0:=hS.boxCell (g:=gt) At.z 0 _ rfl
  have b1:=hS.boxCell (g:=gt) At.z 1 _ rfl
  have b2:=hS.boxCell (g:=gt) At.z 2 _ rfl
  have b3:=hS.boxCell (g:=gt) At.z 3 _ rfl
  have b4:=hS.boxCell (g:=gt) At.z 4 _ rfl
  have gl:gt<W.heap.size:=(Array.getElem?_eq_some_iff.1 (hS.getBox (g:=gt) At.z).2).1
  have hΔ:FactsW W (Lt W.heap.size) [rds t.txs A n c shTx]:=.rds (hS.ltsRds (by repeat (first|with_reducible exact At.z|apply At.s))) .nil
  have hG1:Glob W:=hG.on hS.below
  obtain ⟨bp,bh,bw,bn,txs⟩:=t
  simp only at *
  rename World=>Wb
  have hSo:=hS
  clear hS
  (go_wp2_with (first|(refine wsb (by rfl) rfl z_sb hΔ ?_;intro W1 hS;refine Stop.go ?_));refine Stop.mk ?_)
  have l1:=z6g bp i1
  have l2:=z6g bh i2
  have l3:=z6g bw i3
  have l4:=z6g bn i4
  go_wp2_with fail
  (refine Sep.regionT hS [20] (by kernel_rfl) ?_;clear hS;intro W hS)
  (refine zm 0 rfl rfl (by ((apply Yl.pure;intro W;go_simp;with_reducible rfl))) (hS.sub (by repeat (with_reducible exact Sub.refl))) (by kernel_rfl) (fun _ _ _ h=>h) ?_;simp only [Act.put,List.setIfInBounds_toArray,List.set_cons_zero,List.set_cons_succ])
  (refine zm 1 rfl rfl (Yl.base rfl rfl (z7 rfl) gl b0) (hS.sub (by repeat (with_reducible exact Sub.refl))) (by kernel_rfl) (fun _ _ _ h=>h) ?_;simp only [Act.put,List.setIfInBounds_toArray,List.set_cons_zero,List.set_cons_succ])
  (refine zm 5 rfl rfl (by ((apply Yl.pure;intro W;go_simp;with_reducible rfl))) (hS.sub (by repeat (with_reducible exact Sub.refl))) (by kernel_rfl) (fun _ _ _ h=>h) ?_;simp only [Act.put,List.setIfInBounds_toArray,List.set_cons_zero,List.set_cons_succ])
  (refine zm 6 rfl rfl (Yl.base rfl rfl (z7 rfl) gl b1) (hS.sub (by repeat (with_reducible exact Sub.refl))) (by kernel_rfl) (fun _ _ _ h=>h) ?_;simp only [Act.put,List.setIfInBounds_toArray,List.set_cons_zero,List.set_cons_succ])
  (refine zm 10 rfl rfl (by ((apply Yl.pure;intro W;go_simp;with_reducible rfl))) (hS.sub (by repeat (with_reducible exact Sub.refl))) (by kernel_rfl) (fun _ _ _ h=>h) ?_;simp only [Act.put,List.setIfInBounds_toArray,List.set_cons_zero,List.set_cons_succ])
  (refine zm 11 rfl rfl (Yl.base rfl rfl (z7 rfl) gl b2) (hS.sub (by repeat (with_reducible exact Sub.refl))) (by kernel_rfl) (fun _ _ _ h=>h) ?_;simp only [Act.put,List.setIfInBounds_toArray,List.set_cons_zero,List.set_cons_succ])
  (refine zm 15 rfl rfl (by ((apply Yl.pure;intro W;go_simp;with_reducible rfl))) (hS.sub (by repeat (with_reducible exact Sub.refl))) (by kernel_rfl) (fun _ _ _ h=>h) ?_;simp only [Act.put,List.setIfInBounds_toArray,List.set_cons_zero,List.set_cons_succ])
  (refine zm 16 rfl rfl (Yl.base rfl rfl (z7 rfl) gl b3) (hS.sub (by repeat (with_reducible exact Sub.refl))) (by kernel_rfl) (fun _ _ _ h=>h) ?_;simp only [Act.put,List.setIfInBounds_toArray,List.set_cons_zero,List.set_cons_succ])
  refine z1d 2 (by kernel_rfl) rfl ?_
  go_wp2_with fail
  refine (hS.old (zan bp i1 (hG1.on hS.below))).mono ?_;clear hS;rintro e W ⟨rfl,hS⟩
  go_wp2_with fail
  (refine ⟨fun _=>hS.sub (by repeat (with_reducible exact Sub.refl)),?_⟩;try simp only [Act.put,List.setIfInBounds_toArray,List.set_cons_zero,List.set_cons_succ])
  (refine zm 3 rfl rfl (Yl.cat rfl rfl rfl (by simp only [List.length_append,List.length_cons,List.length_nil];omega)) (hS.sub (by repeat (with_reducible exact Sub.refl))) (by kernel_rfl) (fun _ _ _ h=>h) ?_;simp only [Act.put,List.setIfInBounds_toArray,List.set_cons_zero,List.set_cons_succ])
  (refine zm 4 rfl rfl (Yl.cat rfl rfl rfl (by simp only [List.length_append,List.length_cons,List.length_nil];omega)) (hS.sub (by repeat (with_reducible exact Sub.refl))) (by kernel_rfl) (fun _ _ _ h=>h) ?_;simp only [Act.put,List.setIfInBounds_toArray,List.set_cons_zero,List.set_cons_succ])
  refine z1d 7 (by kernel_rfl) rfl ?_
  go_wp2_with fail
  refine (hS.old (zan bh i2 (hG1.on hS.below))).mono ?_;clear hS;rintro e W ⟨rfl,hS⟩
  go_wp2_with fail
  (refine ⟨fun _=>hS.sub (by repeat (with_reducible exact Sub.refl)),?_⟩;try simp only [Act.put,List.setIfInBounds_toArray,List.set_cons_zero,List.set_cons_succ])
  (refine zm 8 rfl rfl (Yl.cat rfl rfl rfl (by simp only [List.length_append,List.length_cons,List.length_nil];omega)) (hS.sub (by repeat (with_reducible exact Sub.refl))) (by kernel_rfl) (fun _ _ _ h=>h) ?_;simp only [Act.put,List.setIfInBounds_toArray,List.set_cons_zero,List.set_cons_succ])
  (refine zm 9 rfl rfl (Yl.cat rfl rfl rfl (by simp only [List.length_append,List.length_cons,List.length_nil];omega)) (hS.sub (by repeat (with_reducible exact Sub.refl))) (by kernel_rfl) (fun _ _ _ h=>h) ?_;simp only [Act.put,List.setIfInBounds_toArray,List.set_cons_zero,List.set_cons_succ])
  refine z1d 12 (by kernel_rfl) rfl ?_
  go_wp2_with fail
  refine (hS.old (zan bw i3 (hG1.on hS.below))).mono ?_;clear hS;rintro e W ⟨rfl,hS⟩
  go_wp2_with fail
  (refine ⟨fun _=>hS.sub (by repeat (with_reducible exact Sub.refl)),?_⟩;try simp only [Act.put,List.setIfInBounds_toArray,List.set_cons_zero,List.set_cons_succ])
  (refine zm 13 rfl rfl (Yl.cat rfl rfl rfl (by simp only [List.length_append,List.length_cons,List.length_nil];omega)) (hS.sub (by repeat (with_reducible exact Sub.refl))) (by kernel_rfl) (fun _ _ _ h=>h) ?_;simp only [Act.put,List.setIfInBounds_toArray,List.set_cons_zero,List.set_cons_succ])
  (refine zm 14 rfl rfl (Yl.cat rfl rfl rfl (by simp only [List.length_append,List.length_cons,List.length_nil];omega)) (hS.sub (by repeat (with_reducible exact Sub.refl))) (by kernel_rfl) (fun _ _ _ h=>h) ?_;simp only [Act.put,List.setIfInBounds_toArray,List.set_cons_zero,List.set_cons_succ])
  refine z1d 17 (by kernel_rfl) rfl ?_
  go_wp2_with fail
  refine (hS.old (zan bn i4 (hG1.on hS.below))).mono ?_;clear hS;rintro e W ⟨rfl,hS⟩
  go_wp2_with fail
  (refine ⟨fun _=>hS.sub (by repeat (with_reducible exact Sub.refl)),?_⟩;try simp only [Act.put,List.setIfInBounds_toArray,List.set_cons_zero,List.set_cons_succ])
  (refine zm 18 rfl rfl (Yl.cat rfl rfl rfl (by simp only [List.length_append,List.length_cons,List.length_nil];omega)) (hS.sub (by repeat (with_reducible exact Sub.refl))) (by kernel_rfl) (fun _ _ _ h=>h) ?_;simp only [Act.put,List.setIfInBounds_toArray,List.set_cons_zero,List.set_cons_succ])
  (refine zm 19 rfl rfl (Yl.cat rfl rfl rfl (by simp only [List.length_append,List.length_cons,List.length_nil];omega)) (hS.sub (by repeat (with_reducible exact Sub.refl))) (by kernel_rfl) (fun _ _ _ h=>h) ?_;simp only [Act.put,List.setIfInBounds_toArray,List.set_cons_zero,List.set_cons_succ])
  refine z1d 20 (by kernel_rfl) rfl ?_
  go_wp2_with fail
  refine (hS.write (l:=[]) (by repeat (with_reducible exact At.z)) hΔ _ (by simp [ByteArray.size];omega)).mono ?_
  clear hS
  rintro e W2 ⟨⟨v,rfl⟩,hS⟩
  go_wp2_with fail
  (refine ⟨fun h=>z43 (by kernel_rfl) h,?_⟩;try simp only [Act.put,List.setIfInBounds_toArray,List.set_cons_zero,List.set_cons_succ])
  refine z2z (by kernel_rfl) ?_
  have e0:[]++98::108::111::99::107::32::(itoa bp++32::(itoa bh++32::(itoa bw++32::(itoa bn++[10]))))=z7d ⟨bp,bh,bw,bn,txs⟩:=by simp [z7d]
  have lh:(z7d ⟨bp,bh,bw,bn,txs⟩).length≤100:=by simp [z7d];omega
  have d4:=(hS.below.cell (p:=⟨gt,4,none⟩) gl).trans b4
  go_wp2_with fail
  clear d4
  rw [e0] at hS
  clear e0
  go_loopw [7,8,9,39] (fun _ _ _ i wr=>∃ k:Nat,k≤n∧i = .int .i64 k∧∃ l:List UInt8,l.length≤100+2500 * k∧Hid (l=z7d ⟨bp,bh,bw,bn,txs⟩++(txs.take k).flatMap fun t=>(zo t).1)∧Sep Wb (Lt Wb.heap.size) (sb Wb.heap.size l::rds txs A n c shTx::[]) wr) (fun _ _ _ i _=>n - (intOf i).toNat)
  case atStart=>exact ⟨0,by omega,rfl,z7d ⟨bp,bh,bw,bn,txs⟩,by omega,Lib.hid (by simp),hS.sub (by repeat (with_reducible exact Sub.refl))⟩
  case round =>
   clear hS
   obtain ⟨k,hk,rfl,l,hl,HL,hS⟩:=hrel
   rcases Classical.em (k<n) with hlt|hlt
   ·(have hO:=hS.elemTxR (xs:=txs) (by repeat (first|with_reducible exact At.z|apply At.s)) hlt;clear hS;obtain ⟨b,off,x,A1,n1,c1,A2,n2,c2,rfl,hx,hS⟩:=hO)
    have HX:=Lib.hid hx
    have k1:(0:Int)≤(k:Int):=by omega
    have k2:(k:Int)<(n:Int):=by omega
    clear hx
    (go_wp2_with (first|(refine Sep.wloadNz hS (by rfl) rfl rfl (by repeat (first|with_reducible exact At.z|apply At.s)) (z6 rfl) ?_)|(refine Sep.walloc hS (by rfl) rfl (by first|exact z2p|exact z4g) ?_;clear hS;intro g W hS)|(refine Sep.wstoreNb hS (by rfl) rfl rfl rfl (z6 rfl) (by simp [z13,Value.oneCell']) (by repeat (first|with_reducible exact At.z|apply At.s)) (by rfl) (by repeat (first|with_reducible exact Put.z|apply Put.s)) ?_;clear hS;intro W hS;refine Stop.go ?_));refine Stop.mk ?_)
    go_wp2_with (((refine Sep.wloadNb hS (by rfl) rfl rfl (by repeat (with_reducible exact At.z)) (z6 rfl) ?_)))
    refine (zo6 x [_,_,_] hS (by repeat (first|with_reducible exact At.z|apply At.s)) hG1).mono ?_;clear hS;rintro e W ⟨rfl,hS⟩
    have lp:=zks x
    go_wp2_with fail
    refine (hS.write (l:=l) (by repeat (first|with_reducible exact At.z|apply At.s)) hΔ _ (by simp [ByteArray.size];omega)).mono ?_
    clear hS
    rintro e W2 ⟨⟨v,rfl⟩,hS⟩
    go_wp2_with fail
    go_roundw
    case measure=>simp [intOf];omega
    case rel=>exact ⟨k+1,by omega,by go_num,l++(zo x).1,by simp;omega,Lib.hid (by rw [z3q HX.out,HL.out];simp),hS.sub (by repeat (with_reducible exact Sub.refl))⟩
   ·obtain rfl:k=n:=by omega
    go_wp2_with fail
    refine (hS.text (by repeat (with_reducible exact At.z))).mono ?_
    clear hS
    rintro e W3 ⟨rfl,hB⟩
    have hS:=hSo.belows hB
    go_wp2_with fail
    have em:l=za1 ⟨bp,bh,bw,bn,txs⟩:=by
     rw [HL.out,List.take_of_length_le (by have:=L1.out;omega)]
     unfold za1
     congr 1
     have key:∀ t ∈ txs,(zo t).1=z3b t:=fun t ht=>by rw [zkt ((z5o H0.out).each t ht)]
     simp only [List.flatMap_def]
     rw [List.map_congr_left key]
    rw [em]
    refine bodyPost_ret (z3f rfl (by exact Got.tmp rfl) (by exact Got.tmp rfl)) rfl ?_
    exact ⟨by rw [HR.out];rfl,hS.sub (by repeat (first|with_reducible exact Sub.refl|apply Sub.skip))⟩
 ·have q:((zh t) != 0)=true:=by simp [h0]
  have HR:Hid (R=([],zh t)):=Lib.hid (by rw [HP.out,if_pos h0])
  clear h0 HP
  go_wp2_with fail
  refine bodyPost_ret (z3f rfl (by exact Got.tmp rfl) (by exact Got.tmp rfl)) rfl ?_
  exact ⟨by rw [HR.out];rfl,hS.sub (by repeat (first|with_reducible exact Sub.refl|apply Sub.skip))⟩
noncomputable def z30:za:=spD (fun _:Block=>True) fun t=>z0l t
theorem zmf (t:Block):z30 (z0b t)=some [.s (z0l t).1,I (z0l t).2]:=zp (f:=fun t:Block=>z0l t) t trivial
theorem zyg (t:Block):I64 (z0l t).2:=by
 unfold z0l
 split
 ·exact (zkg t).i64
 ·show I64 0
  exact ⟨by decide,by decide⟩
theorem zku:Meets Tryz.prog z30 10 ⟨[.agg 5],[(false,[.scal]),(false,[.scal])],true⟩ :=
 z1x rfl (z1u (fn:=Tryz.f10) (by kernel_rfl) (by kernel_rfl) (by kernel_rfl)) fun t _ W F us hF h=>by
  obtain ⟨cs,rfl,hr⟩:=z6a h
  have hS:Sep W F [rep t cs shBlock] W:=(Sep.start W F hF.1).addRep (S:=shBlock) (shBlock.more (fun b hb=>⟨.inl hb,by simp⟩) (she_block.of hr))
  refine (z02c t cs hS At.z hF.2).mono ?_
  rintro e w' ⟨rfl,hS'⟩
  exact ⟨_,rfl,hS'.below,zbs rfl rfl (.s _ (by have:=zyf t;omega)) (.i _ _ (wrap_i64 (zyg t)))⟩
end
section
open Go.Lib (itoa atoiAll)
open Go.RowKit
def zv2:List (List UInt8)→Option (List Int)
 | []=>some []
 | w::r=>match z00m w with
  | none=>none
  | some n=>(zv2 r).map fun l=>n::l
def tIn:List UInt8:=[105,110]
def tOut:List UInt8:=[111,117,116]
def tTx:List UInt8:=[116,120,32]
def zmg (o:List Out) (i:List In) (x:List UInt8) (n:List Int):Option (List Out × List In) :=
 if (zgq (Go.Lib.cut x [58]).2.1).2≠0 then none else if Go.Lib.contains x [58]=false then none else
 if (zbc 32 (Go.Lib.cut x [58]).1).headD []=tIn∧n.length=2∧o.length=0 then some (o,i++[⟨⟨n.getD 0 0,n.getD 1 0⟩,(zgq (Go.Lib.cut x [58]).2.1).1⟩]) else
 if (zbc 32 (Go.Lib.cut x [58]).1).headD []=tOut∧n.length=1 then some (o++[⟨n.getD 0 0,(zgq (Go.Lib.cut x [58]).2.1).1⟩],i) else none
def z08a (o:List Out) (i:List In) (x:List UInt8):Option (List Out × List In):=match zv2 ((zbc 32 (Go.Lib.cut x [58]).1).drop 1) with
 | none=>none
 | some n=>zmg o i x n
def zTx:Tx:=⟨0,[],[]⟩
def zmh (n:Int) (o:List Out) (i:List In):List (List UInt8)→Tx × Int
 | []=>if zi ⟨n,i,o⟩≠0 then (zTx,zi ⟨n,i,o⟩) else (⟨n,i,o⟩,0)
 | x::r=>match z08a o i x with
  | none=>(zTx,1)
  | some p=>zmh n p.1 p.2 r
end
section
open Go.RowKit Go.Shelf
open Go.Lib (itoa atoiAll atoiSat)
set_option maxRecDepth 100000
section
variable {P:Program} {W:World} {F:Nat→Prop}
end
noncomputable def zie:za:=spD (fun x:List UInt8 × List UInt8=>x.1.length≤1000000000∧∃ c,x.2=[c]) fun x=>zbc (x.2.headD 0) x.1
def zea (s:List UInt8):Int × GoErr:=match atoiAll s with
 | .ok v=>(v,⟨false⟩)
 | .range=>(atoiSat s,⟨true⟩)
 | _=>(0,⟨true⟩)
noncomputable def z00n:za:=spD (fun s:List UInt8=>s.length≤1000000000) fun s=>zea s
end
section
open Go.RowKit Go.Shelf
open Go.Lib (itoa atoiAll atoiSat)
set_option maxRecDepth 100000
noncomputable def z05o:za:=spD (fun x:List UInt8 × List UInt8=>x.1.length≤1000000000) fun x=>Go.Lib.cut x.1 x.2
noncomputable def zmi:za:=spD (fun x:List UInt8 × List UInt8=>x.1.length≤1000000000) fun x=>Go.Lib.contains x.1 x.2
noncomputable def zv3:za:=spD (fun _:List UInt8 × List UInt8=>True) fun x=>(Go.Lib.trimPrefix x.1 x.2,Go.Lib.hasPrefix x.1 x.2)
noncomputable def zv4:za:=spD (fun _:List UInt8 × List UInt8=>True) fun x=>(Go.Lib.trimSuffix x.1 x.2,Go.Lib.hasSuffix x.1 x.2)
end
section
open Go.RowKit
open Go.Lib (itoa atoiAll atoiSat)
set_option maxRecDepth 100000
set_option maxHeartbeats 4000000
section
variable {sp:Nat→za} {N:Nat} {E E':Env} {ks:List (List Dt→Option (List Dt))} {res:Option (List Dt)}
end
noncomputable def zv5:za:=spD (fun _:List UInt8=>True) fun s=>zgq s
def z05p (acc:List Op) (ws:List (List UInt8)):List Op × Int:=match zmc ws with
 | none=>([],1)
 | some l=>if zg (acc++l)≠0 then ([],zg (acc++l)) else (acc++l,0)
attribute [local irreducible] den denX z19 z1z
attribute [local irreducible] z0k spD z24 itoa zg z57 z7q z61 z05p zea zbc z05b zur zus
attribute [local irreducible] z00n zbt z1r zie
end
section
open Go.RowKit
noncomputable def z05q:za:=spD (fun _:List Int × List Int=>True) fun x=>decide (x.1=x.2)
end
section
open Go.RowKit
open Go.Lib (itoa)
set_option maxRecDepth 100000
set_option maxHeartbeats 4000000
def numI (w:List UInt8):Int × Bool:=((zea w).1,!(zea w).2.is && decide (itoa (zea w).1=w))
def z0d7 (o:List Out) (i:List In) (x:List UInt8) (a:List Int) (ws:List (List UInt8)):Option (List Out × List In):=match zv2 ws with
 | none=>none
 | some n=>zmg o i x (a++n)
def z0d8 (n:Int) (r:List (List UInt8)) (p:Option (List Out × List In)):Tx × Int:=match p with
 | none=>(zTx,1)
 | some p=>zmh n p.1 p.2 r
attribute [local irreducible] z0k spD z24 itoa zg z57 z7q z05p zea zbc zi zgq
section
variable {α:Type} {f:α→List Dt} {sp:Nat→za} {N:Nat} {E:Env}
end
attribute [local irreducible] den denX z19 z1z
attribute [local irreducible] z00n zbt
attribute [local irreducible] numI z0d7 zmh z0d8 zmg
attribute [local irreducible] zv3 zv4 zv5 zmi z05o zie z9a
end
section
open Go.RowKit
set_option maxRecDepth 100000
set_option maxHeartbeats 4000000
attribute [local irreducible] z0k spD z24
def z02d:T :=
 .lets [.call 10 [.v 9] 0] [] (.lets [] [.inr 6 (.v 4) (.v 3)] (.lets [.set (.v 4) (.v 3) 3 [.v 12]] [] (.lets [.bin .add (.v 3) (.c (.i .i64 1))] [] (.again 0 [.v 14,.v 13]))))
def z02e:T :=
 .lets [] [.inr 6 (.v 4) (.v 3)] (.lets [.idx (.v 4) (.v 3) 0,.idx (.v 4) (.v 3) 1,.idx (.v 4) (.v 3) 2,.idx (.v 4) (.v 3) 3,.idx (.v 4) (.v 3) 4,.idx (.v 4) (.v 3) 5] []
 z02d)
def zj6:T :=
 .lets [.call 9 [.v 0] 0] [] (.lets [.len (.v 1)] [] (.loop [.c (.i .i64 0),.v 1] (.lets [.bin .lss (.v 3) (.v 2)] [] (.ite (.v 5) z02e (.ret [.v 4])))))
def zyh:T :=
 .lets [.idx (.v 0) (.v 5) 0,.idx (.v 0) (.v 5) 1,.idx (.v 0) (.v 5) 2,.idx (.v 0) (.v 5) 3,.idx (.v 0) (.v 5) 4,.idx (.v 0) (.v 5) 5] [] (.lets [.bin .add (.v 4) (.v 9)] []
 (.lets [.bin .add (.v 5) (.c (.i .i64 1))] [] (.again 0 [.v 13,.v 14])))
def zyi:T :=
 .loop [.c (.i .i64 0),.c (.i .i64 0)] (.lets [.bin .lss (.v 5) (.v 3)] [] (.ite (.v 6) (.lets [] [.inr 6 (.v 0) (.v 5)] zyh) (.ret [.v 4,.c (.i .i64 0)])))
def zgx:T :=
 .lets [.call 8 [.v 0] 0] [] (.lets [.bin .neq (.v 1) (.c (.i .i64 0))] [] (.ite (.v 2) (.ret [.c (.i .i64 0),.v 1]) (.lets [.len (.v 0)] [] zyi)))
def z05r:T :=
 .lets [.idx (.v 3) (.v 6) 0,.idx (.v 3) (.v 6) 1,.idx (.v 3) (.v 6) 2,.idx (.v 3) (.v 6) 3,.idx (.v 3) (.v 6) 4,.idx (.v 3) (.v 6) 5] [] (.lets [.bin .add (.v 5) (.v 10)] []
 (.lets [.bin .add (.v 6) (.c (.i .i64 1))] [] (.again 0 [.v 14,.v 15])))
def z05s:T :=
 .lets [.idx (.v 2) (.v 10) 0,.idx (.v 2) (.v 10) 1] [] (.lets [.bin .sub (.v 9) (.v 12)] [] (.lets [.bin .add (.v 10) (.c (.i .i64 1))] [] (.again 1 [.v 14,.v 15])))
def z05t:T :=
 .lets [.len (.v 2)] [] (.loop [.v 5,.c (.i .i64 0)] (.lets [.bin .lss (.v 10) (.v 8)] [] (.ite (.v 11) (.lets [] [.inr 2 (.v 2) (.v 10)] z05s) (.ret [.v 9]))))
def zmj:T :=
 .lets [.len (.v 3)] [] (.loop [.c (.i .i64 0),.c (.i .i64 0)] (.lets [.bin .lss (.v 6) (.v 4)] [] (.ite (.v 7) (.lets [] [.inr 6 (.v 3) (.v 6)] z05r) z05t)))
def z4z (l:List Coin):Prop:=l.length≤1000000∧∀ c ∈ l,c.o.lock.length≤8796093022208
theorem CoinsOK.short {l:List Coin} (h:CoinsOK l):z4z l:=⟨by have:=h.len;omega,fun c hc=>by have:=z9c (z4y (h.good c hc)).2.2.2.2.2.2.2.2;omega⟩
noncomputable def z7e:za:=spD z4z fun l=>l
theorem zgy (l:List Coin) (h:z4z l):z7e [.l 6 (l.map zr)]=some [.l 6 (l.map zr)]:=zp (p:=z4z) (f:=fun l:List Coin=>l) l h
theorem zv6:Meets Tryz.prog z7e 141 ⟨[.one],[(false,[.fresh 120 6])],false⟩:=by
 refine z04 (sp:=(z0z [(9,zd0),(10,z7p)])) (sigs:=z1c) (cut:=[]) (hints:=[⟨3,[.t 9,.o 6]⟩]) (fn:=Tryz.f141) (t:=zj6) (by kernel_rfl) (by kernel_rfl) (by kernel_rfl) ?_ ?_
 ·exact (z0o (L:=[(9,zd0),(10,z7p)]) ⟨z9 rfl z07z,z9 rfl zs1,trivial⟩)
 ·rintro ds rs - h
  obtain ⟨l,⟨hl,hk⟩,rfl,rfl⟩:=z02 h
  clear h
  refine ⟨⟨l.length+1,?_⟩,zxe (by simp [zl,CF.isScal])⟩
  show den _ _ zj6 [.l 6 (l.map zr)] []=ret l
  unfold zj6
  repeat' (first|refine dq1 ?_|refine dqk rfl (zs2 _ hl) ?_|fail)
  (refine z14 (fun (_:Unit) k=>[I k,.l 6 (l.map zr)]) (fun _ _ _=>l) (fun _ _=>True) () l ?_ ?_ ?_ ?_ ?_;rfl;exact trivial;exact Nat.lt_succ_self _)
  ·rintro _ k c r hx hd hkl - again hag
   repeat' (first|refine dq1 ?_|refine dqc ?_|refine dqm ?_|refine dqk rfl (zba _ (hk c (List.mem_of_getElem? hx))) ?_|refine dqT ?_|fail)
   refine zd (z01s rfl rfl rfl (by omega) (by simp) (by exact hx) rfl) ?_
   repeat' (first|refine dq1 ?_|exact z09 rfl rfl (hag () trivial)|fail)
  ·intro _ _ again
   repeat' (first|refine dq1 ?_|exact z8 rfl rfl|refine dqF ?_|fail)
theorem zif (l:List Coin):∀ s:Int,l.foldl (fun s c=>s+c.o.coin) s=s+zb l:=by
 induction l with
 | nil=>intro s;simp [zb]
 | cons c l ih=>intro s;rw [List.foldl_cons,ih,zb];omega
def z7u (l:List Coin):Int × Int:=if zq l≠0 then (0,zq l) else (l.foldl (fun s c=>s+c.o.coin) 0,0)
noncomputable def z9h:za:=spD (fun _:List Coin=>True) z7u
theorem zpm (l:List Coin):z9h [.l 6 (l.map zr)]=some [I (z7u l).1,I (z7u l).2]:=zp (f:=z7u) l trivial
theorem z05u:Meets Tryz.prog z9h 22 ⟨[.one],[(false,[.scal]),(false,[.scal])],true⟩:=by
 refine z04 (sp:=(z0z [(8,z20)])) (sigs:=z1c) (cut:=[]) (hints:=[⟨6,[.t 5,.t 15]⟩]) (fn:=Tryz.f22) (t:=zgx) (by kernel_rfl) (by kernel_rfl) (by kernel_rfl) ?_ ?_
 ·exact (z0o (L:=[(8,z20)]) ⟨z9 rfl zal,trivial⟩)
 ·rintro ds rs - h
  obtain ⟨l,-,rfl,rfl⟩:=z02 h
  clear h
  refine ⟨⟨l.length+1,?_⟩,z8i rfl rfl⟩
  show den _ _ zgx [.l 6 (l.map zr)] []=ret (z7u l)
  unfold zgx z7u
  repeat' (first|refine dq1 ?_|refine dqk rfl (z4p _) ?_|exact z8 rfl rfl|refine tR (fun h=>?_) fun h=>?_|fail)
  have ok:=(z0q l).1 (Decidable.not_not.1 h)
  have:=ok.len
  (refine z14 (fun (s:Int) k=>[I s,I k]) (fun (s:Int) _ (r:List Coin)=>(r.foldl (fun s c=>s+c.o.coin) s,(0:Int))) (fun s k=>0≤s∧s+zb (l.drop k)=zb l) (0:Int) l ?_ ?_ ?_ ?_ ?_;rfl;exact ⟨by omega,by simp⟩;exact Nat.lt_succ_self _)
  ·rintro s k c r hx hd hkl ⟨h0,h1⟩ again hag
   have hb:=z4y (ok.good c (List.mem_of_getElem? hx))
   have ht:=ok.total
   have hr:=z9b (l:=r) fun x hx=>ok.good x (List.mem_of_mem_drop (i:=k) (by rw [hd];exact List.mem_cons_of_mem _ hx))
   have hd1:l.drop (k+1)=r:=by rw [← List.drop_drop,hd];rfl
   rw [hd,zb] at h1
   repeat' (first|refine dq1 ?_|refine dqc ?_|refine dqm ?_|refine dqT ?_|fail)
   exact z09 rfl rfl (hag (s+c.o.coin) ⟨by omega,by rw [hd1];omega⟩)
  ·rintro s - again
   repeat' (first|refine dq1 ?_|exact z8 rfl rfl|refine dqF ?_|fail)
def z1p (t:Tx) (l:List Coin):Int:=t.outs.foldl (fun s o=>s - o.coin) (l.foldl (fun s c=>s+c.o.coin) 0)
def zeb (x:Tx × List Coin):Prop:=x.2.length≤1000000∧(∀ c ∈ x.2,0≤c.o.coin∧c.o.coin≤1000000000)∧x.1.outs.length≤1000000∧∀ o ∈ x.1.outs,0≤o.coin∧o.coin≤1000000000
noncomputable def z5p:za:=spD zeb fun x=>z1p x.1 x.2
theorem zad (t:Tx) (l:List Coin) (h:zeb (t,l)):z5p [I t.height,.l 3 (t.ins.map eIn),.l 2 (t.outs.map z69),.l 6 (l.map zr)]=some [I (z1p t l)]:=zp (p:=zeb) (f:=fun x:Tx × List Coin=>z1p x.1 x.2) (t,l) h
theorem zmk:Meets Tryz.prog z5p 112 ⟨[.agg 3,.one],[(false,[.scal])],true⟩:=by
 refine z04 (sp:=(z0z [])) (sigs:=z1c) (cut:=[]) (hints:=[⟨3,[.t 5,.t 12]⟩,⟨8,[.t 5,.t 25]⟩]) (fn:=Tryz.f112) (t:=zmj) (by kernel_rfl) (by kernel_rfl) (by kernel_rfl) ?_ ?_
 ·exact (z0o (L:=[]) trivial)
 ·rintro ds rs - h
  obtain ⟨⟨t,l⟩,⟨h1,h2,h3,h4⟩,rfl,rfl⟩:=z02 h
  clear h
  simp only at h1 h2 h3 h4
  refine ⟨⟨l.length+t.outs.length+1,?_⟩,z1h rfl⟩
  show den _ _ zmj [I t.height,.l 3 (t.ins.map eIn),.l 2 (t.outs.map z69),.l 6 (l.map zr)] []=ret (z1p t l)
  unfold zmj z1p
  repeat' (first|refine dq1 ?_|fail)
  (refine z14 (fun (s:Int) k=>[I s,I k]) (fun (s:Int) _ (r:List Coin)=>t.outs.foldl (fun s o=>s - o.coin) (r.foldl (fun s c=>s+c.o.coin) s)) (fun s k=>0≤s∧s≤k * 1000000000) (0:Int) l ?_ ?_ ?_ ?_ ?_;rfl;exact ⟨by omega,by omega⟩;omega)
  ·rintro s k c r hx hd hkl ⟨h0,h5⟩ again hag
   have hc:=h2 c (List.mem_of_getElem? hx)
   repeat' (first|refine dq1 ?_|refine dqc ?_|refine dqm ?_|refine dqT ?_|fail)
   exact z09 rfl rfl (hag (s+c.o.coin) ⟨by omega,by omega⟩)
  ·rintro s ⟨h0,h5⟩ again
   repeat' (first|refine dq1 ?_|refine dqF ?_|fail)
   (refine z14 (fun (s:Int) k=>[I s,I k]) (fun (s:Int) _ (r:List Out)=>r.foldl (fun s o=>s - o.coin) s) (fun s k => - (k * 1000000000)≤s∧s≤l.length * 1000000000) s t.outs ?_ ?_ ?_ ?_ ?_;rfl;exact ⟨by omega,by omega⟩;omega)
   ·rintro s k c r hx hd hkl ⟨h0,h5⟩ again' hag
    have hc:=h4 c (List.mem_of_getElem? hx)
    repeat' (first|refine dq1 ?_|refine dqc ?_|refine dqm ?_|refine dqT ?_|fail)
    exact z09 rfl rfl (hag (s - c.coin) ⟨by omega,by omega⟩)
   ·rintro s ⟨h0,h5⟩ again'
    repeat' (first|refine dq1 ?_|exact z8 rfl rfl|refine dqF ?_|fail)
def z8b:Coin:=⟨⟨0,0⟩,⟨0,[]⟩,0,false⟩
def zv7 (l:List Coin) (p:Point):Coin × Int:=if zq l≠0 then (z8b,zq l) else if z36 l p=true then ((l[zt l p]?).getD z8b,0) else (z8b,7)
end
section
open Go.RowKit
set_option maxRecDepth 100000
set_option maxHeartbeats 4000000
theorem zyj (l m:List Op):zce [.l 2 (l.map eOp),.l 2 (m.map eOp)]=some [.b (decide (l=m))]:=zp (f:=fun x:List Op × List Op=>decide (x.1=x.2)) (l,m) trivial
theorem z0ay:Meets Tryz.prog zce 119 ⟨[.one,.one],[(false,[.scal])],true⟩ :=
 zde (e:=fun x:{ x:List Op × List Op // True }=>Enc.e x.1) (d:=fun x=>.b (decide (x.1.1=x.1.2))) rfl (z1u (fn:=Tryz.f119) (by kernel_rfl) (by kernel_rfl) (by kernel_rfl)) (fun _=>rfl) fun x W F us hF h=>by
  obtain ⟨v,us,rfl,h1,h⟩:=z17 h
  obtain ⟨v2,us,rfl,h2,h⟩:=z17 h
  obtain rfl:=z2g h
  obtain ⟨A,n,c,rfl,k1⟩:=z5w zah h1
  obtain ⟨A2,n2,c2,rfl,k2⟩:=z5w zah h2
  refine (z07k x.1.1 x.1.2 A A2 n c n2 c2 W F F k1 k2).mono ?_
  rintro r W' ⟨rfl,m,rfl⟩
  exact ⟨_,rfl,z5k (Below.refl _ _) m,.b _⟩
attribute [local irreducible] z0k spD z24
theorem ok_l {α:Type} {sz:Nat} {l:List α} {f:α→List Dt} (h:Dt.ok (.l sz (l.map f))):l.length≤9223372036854775807:=by
 cases h with
 | l _ _ h1 _ _=>simpa using h1
noncomputable def zv8:za:=spD (fun _:Out × Out=>True) fun x=>decide (x.1=x.2)
end
section
open Go.RowKit
open Go.Lib (itoa)
set_option maxRecDepth 100000
set_option maxHeartbeats 4000000
noncomputable def z0az:za:=spD (fun _:List In × List In=>True) fun x=>decide (x.1=x.2)
noncomputable def zo7:za:=spD (fun _:Tx × Tx=>True) fun x=>decide (x.1=x.2)
attribute [local irreducible] z0k spD z24 zg zi
attribute [local irreducible] den denX z19 z1z
attribute [local irreducible] zce
attribute [local irreducible] zv8
attribute [local irreducible] z0az
end
section
open Go.RowKit
def zgz:List CF→List Dt→Prop
 | .scal::fs,d::ds=>d.scal=true∧zgz fs ds
 | _::fs,_::ds=>zgz fs ds
 | _,_=>True
theorem zml:∀ {fs:List CF} {ds:List Dt},zgz fs ds→∀ (j:Nat) (d:Dt),fs[j]? = some .scal→ds[j]? = some d→d.scal=true
 | [],_,_,j,d,hf,_=>by cases hf
 | _::_,[],_,j,d,_,hd=>by cases hd
 | c::fs,x::ds,h,j,d,hf,hd=>by
  cases j with
  | zero =>
   simp only [List.getElem?_cons_zero,Option.some.injEq] at hf hd
   subst hf;subst hd
   exact h.1
  | succ j =>
   have h':zgz fs ds:=by
    cases c with
    | scal=>exact h.2
    | pure=>exact h
    | fresh e sz=>exact h
   exact zml h' j d (by simpa using hf) (by simpa using hd)
theorem z3s {s:Sig} {rs:List Dt} (h:zgz (zl s) rs):z76 s rs:=fun i d h1 h2=>zml h i d h1 h2
def zec:List CF→Bool
 | []=>true
 | .fresh _ _::_=>false
 | _::fs=>zec fs
theorem zdi:∀ {fs:List CF},zec fs=true→∀ c ∈ fs,c = .scal∨c = .pure
 | [],_,c,h=>by cases h
 | x::fs,h,c,hc=>by
  cases x with
  | scal =>
   rcases List.mem_cons.1 hc with rfl|hc
   ·exact .inl rfl
   ·exact zdi (fs:=fs) h c hc
  | pure =>
   rcases List.mem_cons.1 hc with rfl|hc
   ·exact .inr rfl
   ·exact zdi (fs:=fs) h c hc
  | fresh e sz=>cases h
section
variable {W W':World} {F F':Nat→Prop} {pk:List PK} {b:Bool}
theorem zv9 {s:Sig} {rs:List Dt} {v:Value} {us:List Value} (hv:zit s.res v us) (hc:zec (zl s)=true) (hs:zgz (zl s) rs) (hr:Reps W' F' rs us) (hl:rs.length=(zl s).length) (hF':∀ b,F' b→F b∨(W.heap.size≤b∧b<W'.heap.size)):∃ us F',ResR W F W' s rs v us F' :=
 ⟨us,F',zf1 hv (zdi hc) (zml hs) hl hr hF'⟩
theorem z09b {fs:List CF} {ds:List Dt} {cs:List Value} (hc:zec fs=true) (hs:zgz fs ds) (hr:Reps W' F' ds cs) (hl:ds.length=fs.length) (hF':∀ b,F' b→F b∨(W.heap.size≤b∧b<W'.heap.size)):∃ us F',ResR W F W' ⟨pk,[(true,fs)],b⟩ ds (.agg cs.toArray) us F' :=
 zv9 (us:=cs) (F':=F') ⟨rfl,by rw [← hr.len,hl]⟩ (by simpa [zl] using hc) (by simpa [zl] using hs) hr (by simpa [zl] using hl) hF'
theorem z05v {fs:List CF} {ds:List Dt} {cs:List Value} {n:Int} (hc:zec (fs++[.scal])=true) (hs:zgz (fs++[.scal]) (ds++[I n])) (hr:Reps W' F' ds cs) (hl:ds.length=fs.length) (hn:I64 n) (hF':∀ b,F' b→F b∨(W.heap.size≤b∧b<W'.heap.size)):∃ us F',ResR W F W' ⟨pk,[(true,fs),(false,[.scal])],b⟩ (ds++[I n]) (.tuple #[.agg cs.toArray,.int .i64 n]) us F' :=
 zv9 (us:=cs++[.int .i64 n]) (F':=F') ⟨[.agg cs.toArray,.int .i64 n],rfl,.agg cs.toArray,[.int .i64 n],cs,[.int .i64 n],rfl,rfl,⟨rfl,by rw [← hr.len,hl]⟩,.int .i64 n,[],[.int .i64 n],[],rfl,rfl,⟨rfl,rfl⟩,rfl,rfl⟩ (by simpa [zl] using hc) (by simpa [zl] using hs) (hr.append ⟨.i _ _ (wrap_i64 hn),trivial⟩) (by simp [zl,hl]) hF'
theorem z0da {d:Dt} {v:Value} {n:Int} (hr:Rep W' F' d v) (hn:I64 n) (hF':∀ b,F' b→F b∨(W.heap.size≤b∧b<W'.heap.size)):∃ us F',ResR W F W' ⟨pk,[(false,[.pure]),(false,[.scal])],b⟩ [d,I n] (.tuple #[v,.int .i64 n]) us F' :=
 zv9 (us:=[v,.int .i64 n]) (F':=F') ⟨[v,.int .i64 n],rfl,v,[.int .i64 n],[v],[.int .i64 n],rfl,rfl,⟨rfl,rfl⟩,.int .i64 n,[],[.int .i64 n],[],rfl,rfl,⟨rfl,rfl⟩,rfl,rfl⟩ rfl ⟨rfl,trivial⟩ ⟨hr,.i _ _ (wrap_i64 hn),trivial⟩ rfl hF'
theorem zed {W W':World} {F:Nat→Prop} {Γ:List Res}:∀ b,Free W.heap.size F Γ W' b→F b∨(W.heap.size≤b∧b<W'.heap.size):=fun b h=>h.1
end
theorem zbu {α:Type} {S:Sh α} {e:α→List Dt} (hE:ShE S e) {W:World} {F:Nat→Prop} (hF:∀ b,F b→b<W.heap.size) {x:α} {cs:List Value} (hr:Reps W F (e x) cs):Sep W F [rep x cs S] W:=(Sep.start W F hF).addRep (S:=S) (S.more (fun b hb=>⟨.inl hb,by simp⟩) (hE.of hr))
theorem z08b {α:Type} {S:Sh α} {x:α} {cs:List Value}:(rep x cs S).block=none:=by unfold rep zgd;rfl
theorem z0b0 {α:Type} {S:Sh α} {e:α→List Dt} (hE:ShE S e) {W:World} {F:Nat→Prop} {Γ:List Res} (hS:Sep W F Γ W) (hn:∀ r ∈ Γ,r.block=none) {x:α} {cs:List Value} (hr:Reps W F (e x) cs):Sep W F (rep x cs S::Γ) W:=hS.addRep (S:=S) (S.more (fun b hb=>⟨.inl hb,fun r hr'=>by rw [hn r hr'];simp⟩) (hE.of hr))
end
section
open Go.RowKit
theorem zo8 (ns:List Int) (bs:List Block) (b:Block) (m:Nat):Er (z3p ns bs b m):=z0d (z0d (z06 _ rfl) (z06 _ rfl)) (z0d (z06 _ rfl) (z0d (z06 _ rfl) (z06 _ rfl)))
theorem zyo (ns:List Int) (bs:List Block) (k:Nat) (n:Int) (b:Block):Er (z4s ns bs k n b):=z0d (z06 _ rfl) (z0d (zkg _) (z0d (z06 _ rfl) (zo8 ..)))
theorem zo9 (ns:List Int) (bs:List Block):∀ f k:Nat,Er (z62 ns bs k f)
 | 0,k=>by unfold z62;exact z06 _ rfl
 | f+1,k=>by unfold z62;exact z0d (zyo ..) (zo9 ns bs f _)
theorem zhy (t:Tree):Er (z01 t):=z0d (z06 _ rfl) (z0d (z06 _ rfl) (zo9 ..))
theorem z02h (t:Tree) (n:Int) (b:Block):Er (z1q t n b) :=
 z0d (zhy _) (z0d (z06 _ rfl) (z0d (zkg _) (z0d (z06 _ rfl) (z0d (zo8 ..) (z0d (z06 _ rfl) (z06 _ rfl))))))
end
section
open Go.RowKit
set_option maxRecDepth 100000
set_option maxHeartbeats 4000000
theorem zoa:∀ l s:List (List UInt8),Er (z78 l s)
 | [],_=>z06 _ rfl
 | x::l,s=>z0d (z06 _ rfl) (z0d (z06 _ rfl) (zoa l _))
theorem zhz (k:Book):Er (zf k):=z0d (z06 _ rfl) (zoa _ _)
theorem zvf (t:List (List UInt8)) (s:List UInt8):Er (z3d t s):=z0d (z06 _ rfl) (z0d (z06 _ rfl) (z06 _ rfl))
theorem z08g (k:Book) (s:List UInt8):Er (z2n k s):=z0d (zhz k) (z0d (z06 _ rfl) (zvf _ _))
theorem zvg:∀ (l t:List (List UInt8)) (o:List Int),Er (z7k l t o).2.2
 | [],t,o=>z06 _ rfl
 | s::l,t,o=>by
  rw [z7k]
  split
  ·exact z06 _ rfl
  ·split
   ·exact zvf _ _
   ·exact zvg l _ _
theorem z02k (k:Book) (l:List (List UInt8)):Er (z11 k l).2.2:=by
 unfold z11
 split
 ·exact zhz k
 ·exact zvg _ _ _
theorem zao {n:Int} (h:0≤n∧n≤1000):I64 n:=⟨by have:=h.1;omega,by have:=h.2;omega⟩
noncomputable def z1t:za:=spD (fun _:Book=>True) fun k=>zf k
theorem z9i (k:Book):z1t [.l 1 (k.texts.map z0e)]=some [I (zf k)]:=zp (f:=fun k:Book=>zf k) k trivial
theorem zdm:Meets Tryz.prog z1t 79 ⟨[.agg 1],[(false,[.scal])],true⟩ :=
 zkn rfl (z1u (fn:=Tryz.f79) (by kernel_rfl) (by kernel_rfl) (by kernel_rfl)) fun k _ W F us hF h=>by
  obtain ⟨cs,rfl,hr⟩:=z6a h
  exact ⟨(zhz k).i64,z87 k cs W F (she_book.of hr) hF.1⟩
theorem z05y {W W':World} {F:Nat→Prop}:∀ b,Mid W W' b→F b∨(W.heap.size≤b∧b<W'.heap.size):=fun b h=>.inr h
theorem z08h (k:Book) (s:List UInt8):I64 (z1b k s):=by
 unfold z1b
 split
 ·exact zao ⟨by decide,by decide⟩
 rename_i h
 split
 ·exact zao ⟨by decide,by decide⟩
 ·exact zao (zrm (z88 (Decidable.not_not.1 h)))
noncomputable def z6t:za:=spD (fun _:Book × List UInt8=>True) fun x=>(z55 x.1 x.2,z1b x.1 x.2,z2n x.1 x.2)
theorem zmm (k:Book) (s:List UInt8):z6t [.l 1 (k.texts.map z0e),.s s]=some [.l 1 ((z55 k s).map z0e),I (z1b k s),I (z2n k s)]:=zp (f:=fun x:Book × List UInt8=>(z55 x.1 x.2,z1b x.1 x.2,z2n x.1 x.2)) (k,s) trivial
theorem z02l:Meets Tryz.prog z6t 193 ⟨[.agg 1,.one],[(true,[.pure]),(false,[.scal]),(false,[.scal])],false⟩ :=
 z1x rfl (z1u (fn:=Tryz.f193) (by kernel_rfl) (by kernel_rfl) (by kernel_rfl)) fun x _ W F us hF h=>by
  obtain ⟨k,s⟩:=x
  obtain ⟨cs,us,rfl,h1,h⟩:=zbr (d1:=z92 k) (d2:=z0e s) h rfl
  obtain ⟨v,us,rfl,h2,h⟩:=z17 h
  obtain rfl:=z2g h
  obtain ⟨rfl,hs⟩:=ze8 h2
  refine (z04s k cs s W F (she_book.of h1) hF.1 hs).mono ?_
  rintro e w' ⟨A,n,c,rfl,hr,hb⟩
  refine ⟨_,rfl,hb,?_⟩
  exact zv9 (us:=[.slice A n c,.int .i64 (z1b k s),.int .i64 (z2n k s)]) (F':=Mid W w') ⟨[.agg #[.slice A n c],.int .i64 (z1b k s),.int .i64 (z2n k s)],rfl,.agg #[.slice A n c],_,[.slice A n c],_,rfl,rfl,⟨rfl,rfl⟩,.int .i64 (z1b k s),_,[.int .i64 (z1b k s)],_,rfl,rfl,⟨rfl,rfl⟩,.int .i64 (z2n k s),[],[.int .i64 (z2n k s)],[],rfl,rfl,⟨rfl,rfl⟩,rfl,rfl⟩ rfl ⟨rfl,rfl,trivial⟩ ⟨zbq z9y hr,.i _ _ (wrap_i64 (z08h k s)),.i _ _ (wrap_i64 (z08g k s).i64),trivial⟩ rfl z05y
noncomputable def z9j:za:=spD (fun x:Book × List (List UInt8)=>x.2.length≤8796093022207) fun x=>z11 x.1 x.2
theorem zpr (k:Book) (l:List (List UInt8)) (h:l.length≤8796093022207):z9j [.l 1 (k.texts.map z0e),.l 1 (l.map z0e)]=some [.l 1 ((z11 k l).1.map z0e),.l 1 ((z11 k l).2.1.map z03),I (z11 k l).2.2]:=zp (p:=fun x:Book × List (List UInt8)=>x.2.length≤8796093022207) (f:=fun x:Book × List (List UInt8)=>z11 x.1 x.2) (k,l) h
theorem z05z:Meets Tryz.prog z9j 109 ⟨[.agg 1,.one],[(true,[.pure]),(false,[.pure]),(false,[.scal])],false⟩ :=
 z1x rfl (z1u (fn:=Tryz.f109) (by kernel_rfl) (by kernel_rfl) (by kernel_rfl)) fun x hx W F us hF h=>by
  obtain ⟨k,l⟩:=x
  obtain ⟨cs,us,rfl,h1,h⟩:=zbr (d1:=z92 k) (d2:=Enc.e l) h rfl
  obtain ⟨v,us,rfl,h2,h⟩:=z17 h
  obtain rfl:=z2g h
  obtain ⟨A,n,c,rfl,hl⟩:=z5w z9y h2
  have:=hl.1
  simp only at hx
  refine (z0a7 k cs l A n c W F (she_book.of h1) hl hF.1 (by omega)).mono ?_
  rintro e w' ⟨A,n,c,A',n',c',rfl,hr,hr',hb⟩
  refine ⟨_,rfl,hb,?_⟩
  exact zv9 (us:=[.slice A n c,.slice A' n' c',.int .i64 (z11 k l).2.2]) (F':=Mid W w') ⟨[.agg #[.slice A n c],.slice A' n' c',.int .i64 (z11 k l).2.2],rfl,.agg #[.slice A n c],_,[.slice A n c],_,rfl,rfl,⟨rfl,rfl⟩,.slice A' n' c',_,[.slice A' n' c'],_,rfl,rfl,⟨rfl,rfl⟩,.int .i64 (z11 k l).2.2,[],[.int .i64 (z11 k l).2.2],[],rfl,rfl,⟨rfl,rfl⟩,rfl,rfl⟩ rfl ⟨rfl,trivial⟩ ⟨zbq z9y hr,zbq z3n hr',.i _ _ (wrap_i64 (z02k k l).i64),trivial⟩ rfl z05y
noncomputable def z6u:za:=spD (fun _:Block=>True) fun k=>zh k
theorem zmn (b:Block):z6u [I b.parent,I b.height,I b.work,I b.nonce,.l 3 (b.txs.map eTx)]=some [I (zh b)]:=zp (f:=fun k:Block=>zh k) b trivial
theorem z02m:Meets Tryz.prog z6u 14 ⟨[.agg 5],[(false,[.scal])],true⟩ :=
 zkn rfl (z1u (fn:=Tryz.f14) (by kernel_rfl) (by kernel_rfl) (by kernel_rfl)) fun k _ W F us hF h=>by
  obtain ⟨cs,rfl,hr⟩:=z6a h
  exact ⟨(zkg k).i64,z7o k cs W F (she_block.of hr) hF.1⟩
theorem zh0 (n:Int):0≤z0u n∧z0u n≤1000:=by
  unfold z0u
  split
  ·exact ⟨by decide,by decide⟩
  ·rename_i h
   have h1:(0:Int)≤2 ^ (min ((n - 1) / 8) 30).toNat:=Int.pow_nonneg (by decide)
   have h2:=Int.ediv_nonneg (show (0:Int)≤64 by decide) h1
   have h3:=Int.ediv_le_self (2 ^ (min ((n - 1) / 8) 30).toNat) (show (0:Int)≤64 by decide)
   exact ⟨h2,by omega⟩
theorem zob (n:Int):I64 (z0u n)∧I64 (z42 n):=by
 have h1:=zh0 n
 have h2:0≤z42 n∧z42 n≤1000:=by
  unfold z42
  split <;> exact ⟨by decide,by decide⟩
 exact ⟨zao h1,zao h2⟩
noncomputable def z3t:za:=spD (fun _:Int=>True) fun n=>(z0u n,z42 n)
theorem zcj (n:Int):z3t [I n]=some [I (z0u n),I (z42 n)]:=zp (f:=fun n:Int=>(z0u n,z42 n)) n trivial
theorem z0b3 (n:Int) (w:World):Calls Tryz.prog 110 #[.int .i64 n] w fun e w'=>e = .returned (.tuple #[.int .i64 (z0u n),.int .i64 (z42 n)])∧w=w':=by
 by_cases h:n<1∨1000<n
 ·go_enter Tryz.func110,Tryz.ntmps110
  go_wp2
  all_goals (go_ret2;refine ⟨z8g ?_ ?_,rfl⟩)
  all_goals simp [z0u,z42,h]
 ·have h1:1≤n:=by omega
  have h2:n≤1000:=by omega
  go_enter Tryz.func110,Tryz.ntmps110
  go_wp2
  all_goals (go_ret2;refine ⟨z8g ?_ ?_,rfl⟩)
  all_goals first|(simp only [z0u];rw [if_neg (by omega)])|(simp [z42];omega)
theorem zh1:Meets Tryz.prog z3t 110 ⟨[.one],[(false,[.scal]),(false,[.scal])],true⟩ :=
 z1x rfl (z1u (fn:=Tryz.f110) (by kernel_rfl) (by kernel_rfl) (by kernel_rfl)) fun n _ W F us hF h=>by
  obtain ⟨v,us,rfl,h2,h⟩:=z17 (d:=I n) h
  obtain rfl:=z2g h
  obtain ⟨rfl,hn⟩:=z8q h2
  refine (z0b3 n W).mono ?_
  rintro e w' ⟨rfl,rfl⟩
  exact ⟨_,rfl,Below.refl _ _,zbs rfl rfl (.i _ _ (wrap_i64 (zob n).1)) (.i _ _ (wrap_i64 (zob n).2))⟩
noncomputable def zck:za:=spD (fun l:List (List UInt8)=>l.length≤1000000) fun l=>l
theorem zyp (l:List (List UInt8)) (h:l.length≤1000000):zck [.l 1 (l.map z0e)]=some [.l 1 (l.map z0e)]:=zp (p:=fun l:List (List UInt8)=>l.length≤1000000) (f:=fun l:List (List UInt8)=>l) l h
theorem z0b4:Meets Tryz.prog zck 142 ⟨[.one],[(false,[.fresh 9 1])],false⟩ :=
 za9 (e:=fun x:{ l:List (List UInt8) // l.length≤1000000 }=>Enc.e x.1) (xs:=fun x=>x.1) z9y rfl rfl (by decide) (z1u (fn:=Tryz.f142) (by kernel_rfl) (by kernel_rfl) (by kernel_rfl)) fun x W F us hF h=>by
  obtain ⟨v,us,rfl,h1,h⟩:=z17 h
  obtain rfl:=z2g h
  obtain ⟨A,n,c,rfl,k1⟩:=z5w z9y h1
  have:=x.2
  have:=k1.1
  exact (zcv x.1 A n c W F k1 hF (by omega)).mono fun r W' h=>⟨n,h⟩
noncomputable def z5h:za:=spD TxSmall fun t=>t
theorem zh2 (t:Tx) (h:TxSmall t):z5h [I t.height,.l 3 (t.ins.map eIn),.l 2 (t.outs.map z69)]=some (eTx t):=zp (p:=TxSmall) (f:=fun t:Tx=>t) t h
theorem zvh:Meets Tryz.prog z5h 137 ⟨[.agg 3],[(true,[.scal,.pure,.pure])],false⟩ :=
 z1x rfl (z1u (fn:=Tryz.f137) (by kernel_rfl) (by kernel_rfl) (by kernel_rfl)) fun t ht W F us hF h=>by
  obtain ⟨cs,rfl,hr⟩:=z6a h
  refine (zva t cs (zbu she_tx hF.1 hr) At.z ht).mono ?_
  rintro e w' ⟨cs',rfl,hS⟩
  exact ⟨_,rfl,hS.below,z09b rfl ⟨rfl,trivial⟩ (she_tx.to (hS.getRep At.z)) rfl zed⟩
theorem z08i (t:Tree) (m:Int):Er (z3v t m).2:=by
 unfold z3v
 repeat' split
 all_goals first|exact zhy t|exact z06 _ rfl
noncomputable def z83:za:=spD (fun _:Tree × Int=>True) fun x=>z3v x.1 x.2
theorem zmo (t:Tree) (m:Int):z83 [.l 1 (t.names.map z03),.l 5 (t.blocks.map z0b),I m]=some [.l 1 ((z3v t m).1.map z03),I (z3v t m).2]:=zp (f:=fun x:Tree × Int=>z3v x.1 x.2) (t,m) trivial
theorem z02n:Meets Tryz.prog z83 77 ⟨[.agg 2,.one],[(false,[.pure]),(false,[.scal])],false⟩ :=
 z1x rfl (z1u (fn:=Tryz.f77) (by kernel_rfl) (by kernel_rfl) (by kernel_rfl)) fun x _ W F us hF h=>by
  obtain ⟨t,m⟩:=x
  obtain ⟨cs,us,rfl,h1,h⟩:=zbr (d1:=z7i t) (d2:=z03 m) h rfl
  obtain ⟨v,us,rfl,h2,h⟩:=z17 h
  obtain rfl:=z2g h
  obtain ⟨rfl,hn⟩:=z8q h2
  refine (z0dd t cs m (zbu she_tree hF.1 h1) At.z).mono ?_
  rintro e w' ⟨A,n,c,rfl,hS⟩
  exact ⟨_,rfl,hS.below,z0da (zbq z3n (hS.getRds At.z)) (z08i t m).i64 zed⟩
theorem z060 (t:Tree) (m:Int):Er (z0v t m):=by
 unfold z0v
 repeat' split
 all_goals first|exact zhy t|exact z06 _ rfl
noncomputable def z2b:za:=spD (fun _:Tree × Int=>True) fun x=>(z0w x.1 x.2,z0v x.1 x.2)
theorem z9k (t:Tree) (m:Int):z2b [.l 1 (t.names.map z03),.l 5 (t.blocks.map z0b),I m]=some (z0b (z0w t m)++[I (z0v t m)]):=zp (f:=fun x:Tree × Int=>(z0w x.1 x.2,z0v x.1 x.2)) (t,m) trivial
theorem zdn:Meets Tryz.prog z2b 21 ⟨[.agg 2,.one],[(true,[.scal,.scal,.scal,.scal,.pure]),(false,[.scal])],false⟩ :=
 z1x rfl (z1u (fn:=Tryz.f21) (by kernel_rfl) (by kernel_rfl) (by kernel_rfl)) fun x _ W F us hF h=>by
  obtain ⟨t,m⟩:=x
  obtain ⟨cs,us,rfl,h1,h⟩:=zbr (d1:=z7i t) (d2:=z03 m) h rfl
  obtain ⟨v,us,rfl,h2,h⟩:=z17 h
  obtain rfl:=z2g h
  obtain ⟨rfl,hn⟩:=z8q h2
  refine (z0b2 t cs m (zbu she_tree hF.1 h1) At.z).mono ?_
  rintro e w' ⟨cs',rfl,hS⟩
  exact ⟨_,rfl,hS.below,z05v rfl ⟨rfl,rfl,rfl,rfl,rfl,trivial⟩ (she_block.to (hS.getRep At.z)) rfl (z060 t m).i64 zed⟩
noncomputable def z9l:za:=spD (fun _:Tree × Int × Block=>True) fun x=>(z37 x.1 x.2.1 x.2.2,z1q x.1 x.2.1 x.2.2)
theorem zps (t:Tree) (m:Int) (b:Block):z9l [.l 1 (t.names.map z03),.l 5 (t.blocks.map z0b),I m,I b.parent,I b.height,I b.work,I b.nonce,.l 3 (b.txs.map eTx)]=some [.l 1 ((z37 t m b).names.map z03),.l 5 ((z37 t m b).blocks.map z0b),I (z1q t m b)]:=zp (f:=fun x:Tree × Int × Block=>(z37 x.1 x.2.1 x.2.2,z1q x.1 x.2.1 x.2.2)) (t,m,b) trivial
theorem z061:Meets Tryz.prog z9l 71 ⟨[.agg 2,.one,.agg 5],[(true,[.pure,.pure]),(false,[.scal])],false⟩ :=
 z1x rfl (z1u (fn:=Tryz.f71) (by kernel_rfl) (by kernel_rfl) (by kernel_rfl)) fun x _ W F us hF h=>by
  obtain ⟨t,m,b⟩:=x
  obtain ⟨cs,us,rfl,h1,h⟩:=zbr (d1:=z7i t) (d2:=z03 m++z0b b) h rfl
  obtain ⟨v,us,rfl,h2,h⟩:=z17 h
  obtain ⟨cb,rfl,h3⟩:=z6a h
  obtain ⟨rfl,hn⟩:=z8q h2
  refine (z05x t cs m b cb (z0b0 she_block (zbu she_tree hF.1 h1) (fun r hr=>by rcases List.mem_cons.1 hr with rfl|hr;exact z08b;cases hr) h3) (At.s At.z) At.z hn).mono ?_
  rintro e w' ⟨cs',rfl,hS⟩
  exact ⟨_,rfl,hS.below,z05v rfl ⟨rfl,trivial⟩ (she_tree.to (hS.getRep At.z)) rfl (z02h t m b).i64 zed⟩
end
section
open Go.RowKit
open Go.Lib (itoa)
set_option maxRecDepth 100000
set_option maxHeartbeats 4000000
def zi0 (b:Block):List (List UInt8):=b.txs.map fun t=>(zo t).1
def zfe (k:Book) (s:List UInt8) (l:List (List UInt8)):List (List UInt8) × Int × List Int × Int :=
 if (z11 k (l++[s])).2.2≠0 then ([],0,[],(z11 k (l++[s])).2.2) else
 ((z11 k (l++[s])).1,((z11 k (l++[s])).2.1).getD l.length 0,((z11 k (l++[s])).2.1).take l.length,0)
def z05 (k:Book) (b:Block):List (List UInt8) × Int × List Int × Int :=
 if (z0l b).2≠0 then ([],0,[],(z0l b).2) else zfe k (z0l b).1 (zi0 b)
theorem zoc:∀ (l t:List (List UInt8)) (o:List Int),(z7k l t o).2.2=0→(z7k l t o).2.1.length=o.length+l.length
 | [],t,o,_=>by simp [z7k]
 | s::l,t,o,h=>by
  rw [z7k] at h ⊢
  split at h
  ·cases h
  rename_i h1
  rw [if_neg h1]
  split at h
  ·rename_i h2;exact absurd h h2
  rename_i h2
  rw [if_neg h2]
  rw [zoc l _ _ h]
  simp;omega
theorem zig {k:Book} {l:List (List UInt8)} (h:(z11 k l).2.2=0):(z11 k l).2.1.length=l.length:=by
 unfold z11 at h ⊢
 split at h
 ·rename_i h1;exact absurd h h1
 rename_i h1
 rw [if_neg h1]
 simpa using zoc l k.texts [] h
theorem zfs {b:Block} (h:(z0l b).2=0):zh b=0:=by
 unfold z0l at h
 by_cases hb:zh b=0
 ·exact hb
 ·rw [if_pos hb] at h;exact absurd h hb
attribute [local irreducible] z0k spD z11 z0l zo
attribute [local irreducible] den denX z19 z1z
noncomputable def z48:za:=spD (fun _:Book × Block=>True) fun x=>z05 x.1 x.2
theorem zeg (k:Book) (b:Block):z48 [.l 1 (k.texts.map z0e),I b.parent,I b.height,I b.work,I b.nonce,.l 3 (b.txs.map eTx)]=some [.l 1 ((z05 k b).1.map z0e),I (z05 k b).2.1,.l 1 ((z05 k b).2.2.1.map z03),I (z05 k b).2.2.2]:=zp (f:=fun x:Book × Block=>z05 x.1 x.2) (k,b) trivial
theorem zd5 (b:Block):z30 [I b.parent,I b.height,I b.work,I b.nonce,.l 3 (b.txs.map eTx)]=some [.s (z0l b).1,I (z0l b).2]:=zmf b
theorem za3 (t:Tx):z34 [I t.height,.l 3 (t.ins.map eIn),.l 2 (t.outs.map z69)]=some [.s (zo t).1,I (zo t).2]:=zpl t
def zvi:T :=
 .lets [.call 64 [.v 13,.v 14,.v 15] 0,.call 64 [.v 13,.v 14,.v 15] 1] [] (.lets [.mk 1 [[.v 16]]] [] (.lets [.app 1 (.v 10) (.v 18)] [] (.lets [.bin .add (.v 11) (.c (.i .i64
 1))] [] (.again 0 [.v 19,.v 20]))))
def zvj:T :=
 .lets [.len (.v 10)] [] (.lets [.sub 1 (.v 16) none (some (.v 21)),.sub 1 (.v 16) (some (.v 21)) (some (.v 22))] [] (.ret [.v 15,.v 20,.v 23,.c (.i .i64 0)]))
def zvk:T :=
 .ite (.v 18) (.ret [.c (.nil 1),.c (.i .i64 0),.c (.nil 1),.v 17]) (.lets [.len (.v 10)] [] (.lets [] [.inr 1 (.v 16) (.v 19)] (.lets [.idx (.v 16) (.v 19) 0] [] (.lets [.len (.v
 10)] [] zvj))))
def zvl:T :=
 .lets [.app 1 (.v 10) (.v 13)] [] (.lets [.call 71 [.v 0,.v 14] 0,.call 71 [.v 0,.v 14] 1,.call 71 [.v 0,.v 14] 2] [] (.lets [.bin .neq (.v 17) (.c (.i .i64 0))] []
 zvk))
def zvm:T :=
 .ite (.v 12) (.lets [] [.inr 3 (.v 5) (.v 11)] (.lets [.idx (.v 5) (.v 11) 0,.idx (.v 5) (.v 11) 1,.idx (.v 5) (.v 11) 2] [] zvi)) (.lets [.mk 1 [[.v 6]]] []
 zvl)
def zvn:T :=
 .ite (.v 8) (.ret [.c (.nil 1),.c (.i .i64 0),.c (.nil 1),.v 7]) (.lets [.len (.v 5)] [] (.loop [.c (.nil 1),.c (.i .i64 0)] (.lets [.bin .lss (.v 11) (.v 9)] [] zvm)))
def zff:T :=
 .lets [.call 65 [.v 1,.v 2,.v 3,.v 4,.v 5] 0,.call 65 [.v 1,.v 2,.v 3,.v 4,.v 5] 1] [] (.lets [.bin .neq (.v 7) (.c (.i .i64 0))] [] zvn)
attribute [local irreducible] z30 z9j z34
theorem zl0:Meets Tryz.prog z48 50 ⟨[.agg 1,.agg 5],[(true,[.pure]),(false,[.scal]),(false,[.pure]),(false,[.scal])],false⟩:=by
 refine z04 (sp:=(z0z [(64,z34),(65,z30),(71,z9j)])) (sigs:=z1c) (cut:=[]) (hints:=[⟨6,[.r 9 9 1,.t 27]⟩]) (fn:=Tryz.f50) (t:=zff) (by kernel_rfl) (by kernel_rfl) (by kernel_rfl) ?_ ?_
 ·exact (z0o (L:=[(64,z34),(65,z30),(71,z9j)]) ⟨z9 rfl zgw,z9 rfl zku,z9 rfl z05z,trivial⟩)
 ·rintro ds rs hok h
  obtain ⟨⟨k,b⟩,-,rfl,rfl⟩:=z02 h
  clear h
  refine ⟨⟨100,?_⟩,z3s ⟨rfl,rfl,trivial⟩⟩
  show den _ _ zff [.l 1 (k.texts.map z0e),I b.parent,I b.height,I b.work,I b.nonce,.l 3 (b.txs.map eTx)] []=ret (z05 k b)
  have a1:=zd5 b
  unfold zff z05
  have hpz:=fun h=>(z5o (zfs (b:=b) h)).len
  generalize z0l b=pb at *
  obtain ⟨s,e⟩:=pb
  simp only at *
  repeat' (first|refine dq1 ?_|refine dqK rfl (a1) ?_|exact z8 rfl rfl|refine tR (fun h=>?_) fun h=>?_|fail)
  have hlen:b.txs.length≤4:=hpz (by omega)
  (refine z14 (fun (a:List (List UInt8)) k=>[.l 1 (a.map z0e),I k]) (fun (a:List (List UInt8)) _ (r:List Tx)=>zfe k s (a++r.map fun t=>(zo t).1)) (fun a k=>a.length=k) [] b.txs ?_ ?_ ?_ ?_ ?_;rfl;exact rfl;omega)
  ·rintro a i x r hx hd hk ha again hag
   have a2:=za3 x
   have e:a++((x::r).map fun t=>(zo t).1)=(a++[(zo x).1])++r.map fun t=>(zo t).1:=by simp
   rw [e]
   have hag':=hag (a++[(zo x).1]) (by simp;omega)
   generalize zo x=px at *
   obtain ⟨z,f⟩:=px
   simp only at *
   repeat' (first|refine dq1 ?_|refine dqc ?_|refine dqm ?_|refine dqK rfl (a2) ?_|refine zd (z6j rfl rfl (by simp)) ?_|refine dqT ?_|fail)
   exact z09 rfl rfl hag'
  ·rintro a ha again
   simp only [List.map_nil,List.append_nil]
   have a3:=zpr k (a++[s]) (by simp;omega)
   have hl:=fun h=>zig (k:=k) (l:=a++[s]) h
   unfold zfe
   generalize z11 k (a++[s])=q at *
   obtain ⟨tx,ns,e2⟩:=q
   simp only at *
   repeat' (first|refine dq1 ?_|refine dqK rfl (a3) ?_|refine zd (z6j rfl rfl (by simp)) ?_|exact z8 rfl rfl|refine tR (fun h=>?_) fun h=>?_|refine dqF ?_|fail)
   have hl:=hl (by omega)
   simp only [List.length_append,List.length_cons,List.length_nil] at hl
   have hg:ns[((a.length:Int)).toNat]? = some (ns.getD a.length 0):=by
    rw [Int.toNat_natCast,List.getD_eq_getElem?_getD,List.getElem?_eq_getElem (by omega)]
    rfl
   generalize ns.getD a.length 0=y at *
   have ht:ns.take ((a.length:Int)).toNat=ns.take a.length:=by rw [Int.toNat_natCast]
   repeat' (first|refine dq1 ?_|refine dqc ?_|fail)
   refine z9z (z32 (z00h rfl rfl (by omega) (by omega) ht) (z32 (z054 (m:=(a.length:Int)) (n:=(a.length:Int)) rfl rfl rfl (by omega) (by omega) (by omega)) zga)) ?_ rfl
   exact z8 rfl rfl
end
section
open Go.RowKit
set_option maxRecDepth 100000
set_option maxHeartbeats 4000000
section
variable {ρ:Type}
def z4h (h:Int) (bad:Int→ρ) (K:List Coin→List Coin→ρ):List Coin→List Coin→List In→ρ
 | r,s,[]=>K r s
 | r,s,x::xs=>if z36 r x.p=true then
   if ((r[zt r x.p]?).getD z8b).reward=true then
    if h<((r[zt r x.p]?).getD z8b).height+2 then bad 10
    else if (z57 ((r[zt r x.p]?).getD z8b).o.lock x.key h).1=true then z4h h bad K (r.take (zt r x.p)++r.drop (zt r x.p+1)) (s++[(r[zt r x.p]?).getD z8b]) xs else bad 8
   else if (z57 ((r[zt r x.p]?).getD z8b).o.lock x.key h).1=true then z4h h bad K (r.take (zt r x.p)++r.drop (zt r x.p+1)) (s++[(r[zt r x.p]?).getD z8b]) xs else bad 8
  else bad 7
def z4w (nm h:Int) (rw:Bool) (bad:Int→ρ) (K:List Coin→ρ):List Coin→Nat→List Out→ρ
 | r,_,[]=>K r
 | r,i,o::os=>if z36 r ⟨nm,i⟩=true then bad 6 else z4w nm h rw bad K (r.take (zt r ⟨nm,i⟩)++[⟨⟨nm,i⟩,o,h,rw⟩]++r.drop (zt r ⟨nm,i⟩)) (i+1) os
end
def z5a (e:Int):List Coin × List Coin × Int:=([],[],e)
def zaz (s r:List Coin):List Coin × List Coin × Int:=if zq r≠0 then z5a (zq r) else (r,s,0)
def zu (l:List Coin) (t:Tx) (nm h:Int):List Coin × List Coin × Int :=
 if zq l≠0 then z5a (zq l) else if zi t≠0 then z5a (zi t) else
 if nm<1∨120<nm∨h<1∨1000<h then z5a 3 else
 if (t.ins.length:Int)=0 then
  if t.height≠h then z5a 4 else z4h h z5a (fun r s=>z4w nm h (decide ((t.ins.length:Int)=0)) z5a (zaz s) r 0 t.outs) l [] t.ins
 else z4h h z5a (fun r s=>if z1p t s<0 then z5a 9 else z4w nm h (decide ((t.ins.length:Int)=0)) z5a (zaz s) r 0 t.outs) l [] t.ins
section
variable {ρ:Type}
def zqg (nm:Int) (bad:Int→ρ) (K:List Coin→ρ):List Coin→Nat→List Out→ρ
 | r,_,[]=>K r
 | r,i,o::os=>if z36 r ⟨nm,i⟩=true then (if decide (((r[zt r ⟨nm,i⟩]?).getD z8b).o=o)=true then zqg nm bad K (r.take (zt r ⟨nm,i⟩)++r.drop (zt r ⟨nm,i⟩+1)) (i+1) os else bad 7) else bad 7
def zqh (ins:List In) (bad:Int→ρ) (K:List Coin→ρ):List Coin→Nat→List Coin→ρ
 | r,_,[]=>K r
 | r,i,c::cs=>if z36 r c.p=true then bad 6 else if ((ins[i]?).getD ⟨⟨0,0⟩,[]⟩).p≠c.p then bad 6 else zqh ins bad K (r.take (zt r c.p)++[c]++r.drop (zt r c.p)) (i+1) cs
end
def zj9 (e:Int):List Coin × Int:=([],e)
def endR (r:List Coin):List Coin × Int:=if zq r≠0 then zj9 (zq r) else (r,0)
def z6h (l:List Coin) (t:Tx) (nm:Int) (u:List Coin):List Coin × Int :=
 if zq l≠0 then zj9 (zq l) else if zi t≠0 then zj9 (zi t) else if (u.length:Int)≠t.ins.length then zj9 4 else
  zqg nm zj9 (fun r=>zqh t.ins zj9 endR r 0 u) l 0 t.outs
theorem z9m {r:List Coin} (h:z0a r) (k:Nat):z0a (r.take k++r.drop (k+1)):=by
 have:(r.take k++r.drop (k+1))=r.eraseIdx k:=(List.eraseIdx_eq_take_drop_succ r k).symm
 rw [this]
 exact h.sublist (List.eraseIdx_sublist r k)
theorem z9n {r:List Coin} (h:z0a r) {c:Coin} (hc:z36 r c.p=false):z0a (r.take (zt r c.p)++[c]++r.drop (zt r c.p)):=by
 obtain ⟨i1,i2⟩:=zia h c.p
 have hle:=zj1 r c.p
 have hne:∀ t (ht:t<r.length),r[t].p≠c.p:=fun t ht he=>by
  have:z36 r c.p=true:=List.any_eq_true.2 ⟨_,List.getElem_mem ht,by simpa using he⟩
  rw [this] at hc;cases hc
 unfold z0a
 rw [List.append_assoc,List.pairwise_append]
 refine ⟨List.Pairwise.sublist (List.take_sublist _ _) h,?_,?_⟩
 ·rw [List.singleton_append,List.pairwise_cons]
  refine ⟨fun d hd=>?_,List.Pairwise.sublist (List.drop_sublist _ _) h⟩
  obtain ⟨t,ht,rfl⟩:=List.getElem_of_mem hd
  rw [List.length_drop] at ht
  rw [List.getElem_drop]
  have:=i2 (zt r c.p+t) (by omega) (by omega)
  rcases z00f c.p r[zt r c.p+t].p with h|h|h
  ·exact h
  ·exact absurd h.symm (hne _ (by omega))
  ·exact absurd h this
 ·intro a ha b hb
  obtain ⟨t,ht,rfl⟩:=List.getElem_of_mem ha
  rw [List.length_take] at ht
  rw [List.getElem_take]
  have hat:=i1 t (by omega) (by omega)
  rw [List.singleton_append,List.mem_cons] at hb
  rcases hb with rfl|hb
  ·exact hat
  ·obtain ⟨u,hu,rfl⟩:=List.getElem_of_mem hb
   rw [List.length_drop] at hu
   rw [List.getElem_drop]
   have:=i2 (zt r c.p+u) (by omega) (by omega)
   rcases z00f r[t].p r[zt r c.p+u].p with h|h|h
   ·exact h
   ·exact absurd (h ▸ hat) this
   ·exact absurd (z8m h hat) this
structure SpI (l:List Coin) (st:List Coin × List Coin) (k:Nat):Prop where
 sorted:z0a st.1
 len:st.1.length≤l.length
 good:∀ c ∈ st.1,z60 c=0
 cnt:st.2.length=k
 spent:∀ c ∈ st.2,z60 c=0
theorem SpI.cut {l:List Coin} {r s:List Coin} {k:Nat} {c:Coin} {j:Nat} (h:SpI l (r,s) k) (hc:r[j]? = some c):SpI l (r.take j++r.drop (j+1),s++[c]) (k+1):=by
 refine ⟨z9m h.sorted j,?_,fun d hd=>?_,?_,fun d hd=>?_⟩
 ·have:=h.len
  simp only [List.length_append,List.length_take,List.length_drop] at this ⊢
  omega
 ·rcases List.mem_append.1 hd with hd|hd
  ·exact h.good d (List.mem_of_mem_take hd)
  ·exact h.good d (List.mem_of_mem_drop hd)
 ·have:=h.cnt
  simp only [List.length_append,List.length_singleton] at this ⊢
  omega
 ·rcases List.mem_append.1 hd with hd|hd
  ·exact h.spent d hd
  ·simp only [List.mem_singleton] at hd
   subst hd
   exact h.good d (List.mem_of_getElem? hc)
theorem SpI.fee {l:List Coin} {r s:List Coin} {t:Tx} (h:SpI l (r,s) t.ins.length) (ht:TxOK t):zeb (t,s) :=
 ⟨by have:=h.cnt;have:=ht.ins;simp only at *;omega,fun c hc=>by have:=z4y (h.spent c hc);omega,by have:=ht.outs;simp only;omega,fun o ho=>by have:=ht.good o ho;omega⟩
end
section
open Go.RowKit
section
variable {P:Program} {W:World}
theorem zeh {g o t:Nat} {vs cs:List Value} (hg:W.heap[g]? = some (.cells vs.toArray t (0,0))) (hn:o+cs.length≤vs.length) (h1:∀ v ∈ cs,v.oneCell'=true):(storeCells ⟨g,o,none⟩ cs 0).run P W = .ok () (W.setCells g o cs):=by
 have h:=zfy (fr:=(0,0)) hg (o:=o) (n:=cs.length) hn
 have:=run_storeCells_cells (P:=P) g o cs 0 W (fun j hj=>by rw [Nat.add_zero];exact (h j hj).1) (fun j hj=>by rw [Nat.add_zero];exact (h j hj).2) h1
 simpa using this
theorem z062 {t e ty sz:Nat} {z:Value} (ht:P.underlying t=some (.slice e)) (hv:∀ w,(zeroValue e).run P w = .ok z w) (hz:z.cells.size=sz) (h1:∀ v ∈ z.cells.toList,v.oneCell'=true) {g o n c tt:Nat} {vs:List Value} (hg:W.heap[g]? = some (.cells vs.toArray tt (0,0))) (hn:o+n * sz≤vs.length) :
  (Builtin.clear_ #[t] ty #[.slice (some ⟨g,o,none⟩) n c]).run P W = .ok (.tuple #[]) (W.setCells g o (Builtin.zeroCells z.cells n).toList):=by
 have hzl:(Builtin.zeroCells z.cells n).toList.length=n * sz:=by simp [Builtin.zeroCells,hz]
 cases n with
 | zero =>
  have:(Builtin.zeroCells z.cells 0).toList=[]:=List.eq_nil_of_length_eq_zero (by rw [hzl];simp)
  rw [this]
  simp [Builtin.clear_,run_underlying ht,World.setCells]
 | succ n =>
  have hs:=zeh (P:=P) (cs:=(Builtin.zeroCells z.cells (n+1)).toList) hg (by rw [hzl];exact hn) (fun v hv=>by
   rw [Array.mem_toList_iff] at hv
   simp only [Builtin.zeroCells,Array.mem_map] at hv
   obtain ⟨i,hi,rfl⟩:=hv
   have hpos:0<z.cells.size:=by
    rcases Nat.eq_zero_or_pos z.cells.size with h|h
    ·rw [h] at hi;simp at hi
    ·exact h
   have hlt:i % z.cells.size<z.cells.size:=Nat.mod_lt _ hpos
   rw [getElem!_pos z.cells _ hlt]
   exact h1 _ (by simp))
  simp [Builtin.clear_,run_underlying ht,hv,hs]
theorem zfg {t t' e ty sz:Nat} (ht:P.underlying t=some (.slice e)) (hsz:(P.info? e).map (·.size)=some sz) {g o dLen dCap sLen sCap tt:Nat} {a:Addr} {vs cs:List Value} (hg:W.heap[g]? = some (.cells vs.toArray tt (0,0))) (hl:cs.length=Nat.min sLen dLen * sz) (hsrc:∀ j v,cs[j]? = some v→W.cell? (a.add j)=some v) (hn:o+cs.length≤vs.length) (h1:∀ v ∈ cs,v.oneCell'=true) :
  (Builtin.copy_ #[t,t'] ty #[.slice (some ⟨g,o,none⟩) dLen dCap,.slice (some a) sLen sCap]).run P W = .ok (goInt (Nat.min sLen dLen)) (W.setCells g o cs):=by
 have hs:=zeh (P:=P) hg hn h1
 have hlc:=run_loadCells_list (P:=P) W a cs hsrc
 cases hq:P.info? e with
 | none=>simp [hq] at hsz
 | some i =>
  have hi:i.size=sz:=by simpa [hq] using hsz
  simp [Builtin.copy_,run_underlying ht,Builtin.lenOf,Builtin.firstCells,sizeOf,typeInfo,hq,hi,← hl,hlc,hs]
end
theorem z08k {pre mid post us:List Value} {o:Nat} (ho:o=pre.length) (h:us.length=mid.length):z1k (pre++mid++post) o us=pre++us++post:=by subst ho;exact zir us pre mid post h
theorem z8t {vs us:List Value} {o:Nat} (h:o+us.length≤vs.length):z1k vs o us=vs.take o++us++vs.drop (o+us.length):=by
 have e:vs=vs.take o++(vs.drop o).take us.length++vs.drop (o+us.length):=by
  rw [List.append_assoc,← List.drop_drop,List.take_append_drop,List.take_append_drop]
 have h1:o=(vs.take o).length:=by rw [List.length_take];omega
 have h2:us.length=((vs.drop o).take us.length).length:=by rw [List.length_take,List.length_drop];omega
 conv=>lhs;rw [e]
 exact z08k h1 h2
theorem zh3 {sz:Nat}:∀ {xs:List (List Dt)},(∀ x ∈ xs,x.length=sz)→xs.flatten.length=xs.length * sz
 | [],_=>by simp
 | x::xs,h=>by rw [List.flatten_cons,List.length_append,h x (List.mem_cons_self ..),zh3 fun y hy=>h y (List.mem_cons_of_mem _ hy),List.length_cons,Nat.succ_mul,Nat.add_comm]
theorem zfh {sz:Nat}:∀ {xs:List (List Dt)} (i:Nat),(∀ x ∈ xs,x.length=sz)→(xs.take i).flatten=xs.flatten.take (i * sz)
 | [],i,_=>by simp
 | x::xs,0,_=>by simp
 | x::xs,i+1,h=>by
  have hx:=h x (List.mem_cons_self ..)
  rw [List.take_succ_cons,List.flatten_cons,List.flatten_cons,zfh i fun y hy=>h y (List.mem_cons_of_mem _ hy),List.take_append,hx,List.take_of_length_le (show x.length≤(i+1) * sz by rw [hx,Nat.succ_mul];omega),Nat.succ_mul,Nat.add_sub_cancel]
theorem zl1 {sz:Nat} {xs:List (List Dt)} (i:Nat) (h:∀ x ∈ xs,x.length=sz):(xs.drop i).flatten=xs.flatten.drop (i * sz):=by
 have e:xs.flatten=(xs.take i).flatten++(xs.drop i).flatten:=by rw [← List.flatten_append,List.take_append_drop]
 by_cases hi:i≤xs.length
 ·have h1:(xs.take i).flatten.length=i * sz:=by rw [zh3 fun y hy=>h y (List.mem_of_mem_take hy),List.length_take,Nat.min_eq_left hi]
  rw [e,← h1,List.drop_left]
 ·rw [List.drop_of_length_le (by omega),List.drop_of_length_le]
  ·rfl
  ·rw [zh3 h];exact Nat.mul_le_mul_right _ (by omega)
section
variable {P:Program}
theorem z063 {α:Type} [Enc α] {f e sz:Nat} (hn:Enc.n α=sz) (hpos:0<sz) (hen:En P f) (zc:Array Value) (hzc:zc.size=sz)
  (h0:∀ (W:World) (A:Option Addr) (n cap i:Nat),i≤n→n≤cap→cap≤maxLen→Calls P f #[.slice A n cap,.int .i64 i,.int .i64 i] W fun r W'=>r = .returned (.slice A n cap)∧W'=W)
  (hw:∀ (W:World) (g n cap i j:Nat) (vs:List Value),W.heap[g]? = some (.cells vs.toArray e (0,0))→n≤cap→cap≤maxLen→vs.length=cap * sz→(∀ u ∈ vs.take (n * sz),u.oneCell'=true)→i<j→j≤n →
   Calls P f #[.slice (some ⟨g,0,none⟩) n cap,.int .i64 i,.int .i64 j] W fun r W'=>r = .returned (.slice (some ⟨g,0,none⟩) (n - (j - i)) cap)∧W'=((W.drewN 1).setCells g (i * sz) ((vs.take (n * sz)).drop (j * sz))).setCells g ((i+(n - j)) * sz) (Builtin.zeroCells zc (j - i)).toList) :
  Meets P (spD (fun x:List α × Int × Int=>0≤x.2.1∧x.2.1≤x.2.2∧x.2.2≤x.1.length) fun x=>x.1.take x.2.1.toNat++x.1.drop x.2.2.toNat) f ⟨[.mine e sz,.one,.one],[(false,[.fresh e sz])],false⟩:=by
 refine ⟨fun h=>(by cases h),?_⟩
 intro e' sz' ps hps
 injection hps with h1 h2
 injection h1 with h1 h1'
 subst h1;subst h1';subst h2
 intro W F base v xs cells ds args rs hF hbase hvF hxs hown hreps hargs hsp
 obtain ⟨⟨l,i,j⟩,⟨hi0,hij,hjl⟩,he,rfl⟩:=z02 hsp
 have he':Dt.l sz xs::ds=Dt.l (Enc.n α) (l.map Enc.e)::[I i,I j]:=he
 injection he' with g1 g2
 injection g1 with g3 g1
 subst g2;subst g1
 simp only at hi0 hij hjl
 obtain ⟨va,vas,rfl,ha,hargs⟩:=z17 hargs
 obtain ⟨vb,vbs,rfl,hb,hargs⟩:=z17 hargs
 obtain rfl:=z2g hargs
 obtain ⟨rfl,_⟩:=z3c ha
 obtain ⟨rfl,_⟩:=z3c hb
 obtain ⟨a,rfl⟩:∃ a:Nat,i=a:=⟨i.toNat,by omega⟩
 obtain ⟨b,rfl⟩:∃ b:Nat,j=b:=⟨j.toNat,by omega⟩
 have hlen:(l.map Enc.e).length=l.length:=List.length_map _
 rw [hlen] at hown
 refine ⟨(l.take a++l.drop b).map Enc.e,?_,fun x hx=>hxs x ?_,?_⟩
 ·show [Dt.l (Enc.n α) _]=_
  rw [hn];rfl
 ·rw [List.map_append,List.map_take,List.map_drop] at hx
  rcases List.mem_append.1 hx with hx|hx
  ·exact List.mem_of_mem_take hx
  ·exact List.mem_of_mem_drop hx
 by_cases hab:a=b
 ·subst hab
  have hsame:l.take a++l.drop a=l:=List.take_append_drop ..
  simp only [Int.toNat_natCast,hsame]
  have hv:∃ A cap,v = .slice A l.length cap∧l.length≤cap∧cap≤maxLen:=by
   rcases hown.2 with ⟨rfl,h0⟩|⟨g,cap,cur,rfl,_,_,h1,h2,_⟩
   ·exact ⟨none,0,by rw [h0],by omega,by unfold maxLen;omega⟩
   ·exact ⟨_,cap,rfl,h1,h2⟩
  obtain ⟨A,cap,rfl,h1,h2⟩:=hv
  refine .inl ⟨hen.run _ _,(h0 W A l.length cap a (by omega) h1 h2).mono ?_⟩
  rintro r W' ⟨rfl,rfl⟩
  exact ⟨_,rfl,_,cells,⟨fun h=>(by cases h),fun _=>rfl⟩,World.grownBy.refl _ _,by rw [hlen];exact hown,hreps,fun _ h=>.inl h⟩
 ·rcases hown.2 with ⟨rfl,h0⟩|⟨g,cap,cur,rfl,hbg,hg,h1,h2,hcs,htk⟩
  ·omega
  ·have hkeep:=hown
   have hml:cells.length=l.length * sz:=hown.1
   have hcs':cur.toList.length=cap * sz:=by simpa using hcs
   have hones:∀ u ∈ cur.toList.take (l.length * sz),u.oneCell'=true:=by rw [htk];exact hreps.one
   refine .inl ⟨hen.run _ _,(hw W g l.length cap a b cur.toList (by simpa using hg) h1 h2 hcs' hones (by omega) (by omega)).mono ?_⟩
   rintro r W' ⟨rfl,rfl⟩
   have hgF:¬ F g:=hvF g rfl
   generalize hW1:(W.drewN 1).setCells g (a * sz) ((cur.toList.take (l.length * sz)).drop (b * sz))=W1
   have hg0:(W.drewN 1).heap[g]? = some (.cells cur.toList.toArray e (0,0)):=by simpa using hg
   have hnl:((cur.toList.take (l.length * sz)).drop (b * sz)).length=(l.length - b) * sz:=by
    rw [htk,List.length_drop,hml,Nat.sub_mul]
   have hzl:(Builtin.zeroCells zc (b - a)).toList.length=(b - a) * sz:=by simp [Builtin.zeroCells,hzc]
   have hg1:=z1w ((cur.toList.take (l.length * sz)).drop (b * sz)) (a * sz) (W.drewN 1) cur.toList hg0
   rw [hW1] at hg1
   have hg2:=z1w (Builtin.zeroCells zc (b - a)).toList ((a+(l.length - b)) * sz) W1 _ hg1
   have hmul1:a * sz+(l.length - b) * sz=(a+(l.length - b)) * sz:=(Nat.add_mul ..).symm
   have hle1:(a+(l.length - b)) * sz≤cap * sz:=Nat.mul_le_mul_right _ (by omega)
   have hle2:(a+(l.length - b)) * sz+(b - a) * sz≤cap * sz:=by rw [← Nat.add_mul];exact Nat.mul_le_mul_right _ (by omega)
   have hle3:a * sz≤l.length * sz:=Nat.mul_le_mul_right _ (by omega)
   have hle4:l.length * sz≤cap * sz:=Nat.mul_le_mul_right _ h1
   have hfar:∀ k,k≠g→(W1.setCells g ((a+(l.length - b)) * sz) (Builtin.zeroCells zc (b - a)).toList).heap[k]? = W.heap[k]?:=by
    intro k hk
    rw [z2f g _ _ _ k hk,← hW1,z2f g _ _ _ k hk]
    rfl
   refine ⟨_,rfl,_,cells.take (a * sz)++cells.drop (b * sz),⟨fun h=>(by cases h),fun _=>rfl⟩,?_,?_,?_,fun _ h=>.inl h⟩
   ·obtain ⟨k1,k2,k3,k4⟩:=z4d g (Builtin.zeroCells zc (b - a)).toList ((a+(l.length - b)) * sz) W1
    obtain ⟨q1,q2,q3,q4⟩:=z4d g ((cur.toList.take (l.length * sz)).drop (b * sz)) (a * sz) (W.drewN 1)
    rw [hW1] at q1 q2 q3 q4
    refine ⟨k1.trans q1,k2.trans q2,k3.trans q3,?_,fun k hk hne=>hfar k fun h=>hne (by rw [h];rfl)⟩
    rw [k4,q4]
    exact Nat.le_refl _
   ·have hl2:((l.take a++l.drop b).map (Enc.e (α:=α))).length=a+(l.length - b):=by
     rw [List.length_map,List.length_append,List.length_take,List.length_drop];omega
    rw [hl2]
    refine ⟨?_,.inr ⟨g,cap,_,by rw [show l.length - (b - a)=a+(l.length - b) by omega],hbg,hg2,by omega,h2,?_,?_⟩⟩
    ·rw [List.length_append,List.length_take,List.length_drop,hml,Nat.min_eq_left hle3,← Nat.sub_mul,hmul1]
    ·rw [List.size_toArray,z1l,z1l];exact hcs'
    ·rw [List.toList_toArray,z8t (by rw [z1l,hzl];omega),List.append_assoc,List.take_append_of_le_length (by rw [List.length_take,z1l];omega),List.take_take,Nat.min_self,z8t (by rw [hnl];omega),List.take_append_of_le_length (by rw [List.length_append,List.length_take,hnl];omega),List.take_of_length_le (by rw [List.length_append,List.length_take,hnl];omega),htk]
     congr 1
     rw [← htk,List.take_take,Nat.min_eq_left hle3]
   ·rw [List.map_append,List.map_take,List.map_drop,List.flatten_append,zfh a hxs,zl1 b hxs]
    have hag:Agree F W (W1.setCells g ((a+(l.length - b)) * sz) (Builtin.zeroCells zc (b - a)).toList):=fun k hk=>hfar k fun h=>hgF (h ▸ hk)
    exact ((hreps.take (a * sz)).append (hreps.drop (b * sz))).mono hag (fun _ h=>h)
theorem zvo {tS tR e sz:Nat} {W:World} (ht:P.underlying tS=some (.slice e)) (hz:∀ w,(sizeOf e).run P w = .ok sz w) {g o b off la ca lb cb t:Nat} {vs:List Value} (hg:W.heap[g]? = some (.cells vs.toArray t (0,0))) (hvs:0<vs.length) (hne:b≠g) {u:Value} (hb:W.cell? ⟨b,off,none⟩=some u) :
  (Extern.SlicesOverlaps.overlaps #[tS,tS] #[tR] #[.slice (some ⟨b,off,none⟩) la ca,.slice (some ⟨g,o,none⟩) lb cb]).run P W = .ok (.bool false) W:=by
 have hnb:(b != g)=true:=by simpa using hne
 have hnb':(b == g)=false:=by simpa using hne
 obtain ⟨arr,tb,fr,hbh,hsz⟩:∃ arr tb fr,W.heap[b]? = some (.cells arr tb fr)∧0<arr.size:=by
  unfold World.cell? at hb
  split at hb
  ·rename_i arr tb fr h
   simp at hb
   obtain ⟨hlt,_⟩:=Array.getElem?_eq_some_iff.1 hb
   exact ⟨arr,tb,fr,h,by omega⟩
  ·cases hb
 have hsa:W.shape? b=some (tb,arr.size):=by simp [World.shape?,hbh]
 have hsb:W.shape? g=some (t,vs.length):=by simp [World.shape?,hg]
 have hfg:∀ k,W.frozen? ⟨g,k,none⟩=false:=fun k=>by simp [World.frozen?,hg]
 obtain ⟨n1,hn1⟩:∃ n,arr.size=n+1:=⟨arr.size - 1,by omega⟩
 obtain ⟨n2,hn2⟩:∃ n,vs.length=n+1:=⟨vs.length - 1,by omega⟩
 rw [hn1] at hsa
 rw [hn2] at hsb
 change Sem.run P (α:=Value) (do
  let some t:=(#[tS,tS]:Array TypeId)[0]? | stuck "slices.overlaps: no parameter types"
  let .slice elem ← underlying t|stuck "slices.overlaps: slice type expected"
  let size ← sizeOf elem
  match (some ⟨b,off,none⟩:Option Addr),(some ⟨g,o,none⟩:Option Addr) with
  | some a,some b =>
   if la=0∨lb=0∨size=0 then pure (Value.bool false)
   else if a.block != b.block && (← frozen a) && (← frozen b) then unsupported .addressObserved
   else do
    if a.block != b.block then do
     noView a;noView b
     if ← mayBeOne a b then return Value.bool ((← choose (.extern "sameAddr.stringBytes" 2)) == 1)
    pure (Value.bool (a.block == b.block && a.off<b.off+lb * size && b.off<a.off+la * size))
  | _,_=>pure (Value.bool false)) W=_
 by_cases h0:la=0∨lb=0∨sz=0
 ·simp [run_underlying ht,hz,h0]
 ·cases hf1:W.frozen? ⟨b,off,none⟩ <;> cases hf2:W.frozen? ⟨b,n1+1,none⟩ <;>
   simp [run_underlying ht,hz,h0,hnb,hnb',frozen,noView,viewAt,mayBeOne,stringish,shape,Sem.run,hsa,hsb,hfg,hf1,hf2]
theorem zih {W:World} {b k:Nat} {v:Value} (o:Obj) (h:W.cell? ⟨b,k,none⟩=some v):(W.alloc o).cell? ⟨b,k,none⟩=some v:=by
 have hlt:b<W.heap.size:=by
  rcases Nat.lt_or_ge b W.heap.size with h'|h'
  ·exact h'
  ·simp [World.cell?,Array.getElem?_eq_none h'] at h
 rw [← h]
 simp only [World.cell?,World.alloc,Array.getElem?_push,Nat.ne_of_lt hlt,if_false]
theorem z064 {W:World} {g o b k:Nat} {us:List Value} (h:b≠g):(W.setCells g o us).cell? ⟨b,k,none⟩=W.cell? ⟨b,k,none⟩:=by
 simp only [World.cell?,z2f g us o W b h]
theorem z065 {W:World} {o:Oper} {a:Act} {K:Act→World→Prop} {Q:Exit→Act→World→Prop} (d s:Operand) (t t':TypeId)
  (ho:o.op = .call { callee:=.builtin .copy,args:=#[d,s],argTypes:=#[t,t'] }) (v u:Value) (hd:a.eval d=v) (hs:a.eval s=u) {v':Value} {w':World}
  (hr:(Builtin.copy_ #[t,t'] o.type #[v,u]).run P W = .ok v' w') (h:K (a.put o.dst v') w'):o.wp P a W K Q:=by
 unfold Oper.wp execOp
 simp only [ho,resolve,invoke,builtin,Sem.run_bind,Sem.run_pure,Result.andThen_ok,List.map_toArray,List.map_cons,List.map_nil,hd,hs,hr]
 exact h
theorem zpt {W:World} {ops:Array Oper} {rest:List Oper} {o:Oper} {a:Act} {Q:Exit→Act→World→Prop} (hgd:o.guard=none) (d s:Operand) (t t':TypeId)
  (ho:o.op = .call { callee:=.builtin .copy,args:=#[d,s],argTypes:=#[t,t'] }) (v u:Value) (hd:a.eval d=v) (hs:a.eval s=u) {v':Value} {w':World}
  (hr:(Builtin.copy_ #[t,t'] o.type #[v,u]).run P W = .ok v' w') (h:wpList P ops Q rest (a.put o.dst v') w'):wpList P ops Q (o::rest) a W :=
 wpList_plain hgd fun _ hK=>z065 d s t t' ho v u hd hs hr (hK _ _ h)
theorem zii {ops:Array Oper} {o:Oper} {a:Act} {W:World} {K:Act→World→Prop} {Q:Exit→Act→World→Prop} {E:Prop}
  (hg:o.guard=none) (d x:Operand) (dT sT:TypeId) (hop:o.op=Op.call { callee:=Callee.builtin Builtin.copy,args:=#[d,x],argTypes:=#[dT,sT] })
  (v u:Value) (hd:a.eval d=v) (hx:a.eval x=u) {v':Value} {w':World} (hr:(Builtin.copy_ #[dT,sT] o.type #[v,u]).run P W = .ok v' w') (hK:K (a.put o.dst v') w') :
  if Region.wanted o (yielded ops a.tmps)=true then Oper.wp P o a W K Q else E:=by
 have hw:Region.wanted o (yielded ops a.tmps)=true:=by simp [Region.wanted,hg]
 rw [if_pos hw]
 unfold Oper.wp
 simp [execOp,hop,resolve,invoke,builtin,hd,hx,hr,Result.andThen]
 exact hK
theorem z066 {α:Type} [Enc α] {f e sz:Nat} (hn:Enc.n α=sz) (hpos:0<sz) (hen:En P f)
  (hroom:∀ (W:World) (g n cap i b off c:Nat) (vs cs:List Value),W.heap[g]? = some (.cells vs.toArray e (0,0))→n<cap→cap≤maxLen→vs.length=cap * sz→(∀ u ∈ vs.take (n * sz),u.oneCell'=true)→i<n→b≠g→cs.length=sz→(∀ j v,cs[j]? = some v→W.cell? ⟨b,off+j,none⟩=some v)→(∀ v ∈ cs,v.oneCell'=true) →
   Calls P f #[.slice (some ⟨g,0,none⟩) n cap,.int .i64 i,.slice (some ⟨b,off,none⟩) 1 c] W fun r W'=>r = .returned (.slice (some ⟨g,0,none⟩) (n+1) cap)∧W'=((W.drewN 1).setCells g ((i+1) * sz) ((vs.take (n * sz)).drop (i * sz))).setCells g (i * sz) cs)
  (hend:∀ (W:World) (base:Nat) (v:Value) (n b off c:Nat) (olds cs:List Value),W.ownsRow base e sz v n olds→base≤W.heap.size→n≤1000000→cs.length=sz→(∀ j v,cs[j]? = some v→W.cell? ⟨b,off+j,none⟩=some v)→(∀ v ∈ cs,v.oneCell'=true) →
   Calls P f #[v,.int .i64 n,.slice (some ⟨b,off,none⟩) 1 c] W fun r W'=>∃ v',r = .returned v'∧W'.ownsRow base e sz v' (n+1) (olds++cs)∧W.grownBy W' v.ownBlock∧(v'.ownBlock=v.ownBlock∨v'.ownBlock=some W.heap.size))
  (hgrow:∀ (W:World) (g n cap i b off c:Nat) (vs cs:List Value),W.heap[g]? = some (.cells vs.toArray e (0,0))→n=cap→n≤1000000→vs.length=cap * sz→(∀ u ∈ vs.take (n * sz),u.oneCell'=true)→i<n→cs.length=sz→(∀ j v,cs[j]? = some v→W.cell? ⟨b,off+j,none⟩=some v)→(∀ v ∈ cs,v.oneCell'=true) →
   Calls P f #[.slice (some ⟨g,0,none⟩) n cap,.int .i64 i,.slice (some ⟨b,off,none⟩) 1 c] W fun r W'=>∃ G,∃ row:List Value,n+1≤G∧G≤maxLen∧row.length=G * sz∧r = .returned (.slice (some ⟨W.heap.size,0,none⟩) (n+1) G)∧(∀ u ∈ row.take (i * sz),u.oneCell'=true)∧row.take (i * sz)=vs.take (i * sz) ∧
    W'=(((W.alloc (.cells row.toArray e)).drew.setCells W.heap.size (i * sz) cs).drew).setCells W.heap.size ((i+1) * sz) ((vs.take (n * sz)).drop (i * sz))) :
  Meets P (spD (fun x:List α × Int × List α=>0≤x.2.1∧x.2.1≤x.1.length∧x.1.length≤1000000∧x.2.2.length=1) fun x=>x.1.take x.2.1.toNat++x.2.2++x.1.drop x.2.1.toNat) f ⟨[.mine e sz,.one,.one],[(false,[.fresh e sz])],false⟩:=by
 refine ⟨fun h=>(by cases h),?_⟩
 intro e' sz' ps hps
 injection hps with h1 h2
 injection h1 with h1 h1'
 subst h1;subst h1';subst h2
 intro W F base v xs cells ds args rs hF hbase hvF hxs hown hreps hargs hsp
 obtain ⟨⟨l,i,ys⟩,⟨hi0,hil,hlm,hy1⟩,he,rfl⟩:=z02 hsp
 have he':Dt.l sz xs::ds=Dt.l (Enc.n α) (l.map Enc.e)::[I i,.l (Enc.n α) (ys.map Enc.e)]:=he
 injection he' with g1 g2
 injection g1 with g3 g1
 subst g2;subst g1
 simp only at hi0 hil hlm hy1
 obtain ⟨y,rfl⟩:=List.length_eq_one_iff.1 hy1
 obtain ⟨va,vas,rfl,ha,hargs⟩:=z17 hargs
 obtain ⟨vb,vbs,rfl,hb,hargs⟩:=z17 hargs
 obtain rfl:=z2g hargs
 obtain ⟨rfl,_⟩:=z3c ha
 obtain ⟨a,rfl⟩:∃ a:Nat,i=a:=⟨i.toNat,by omega⟩
 have hlen:(l.map Enc.e).length=l.length:=List.length_map _
 have hyl:(Enc.e y).length=sz:=by rw [Enc.len,hn]
 rw [hlen] at hown
 have hml:cells.length=l.length * sz:=hown.1
 obtain ⟨b,off,c,cs,rfl,hFb,hcl,hcell,hcr⟩:∃ b off c,∃ cs:List Value,vb = .slice (some ⟨b,off,none⟩) 1 c∧F b∧cs.length=sz∧(∀ j v,cs[j]? = some v→W.cell? ⟨b,off+j,none⟩=some v)∧Reps W F (Enc.e y) cs:=by
  generalize hd:Dt.l (Enc.n α) ([y].map Enc.e)=d at hb
  cases hb with
  | l sz0 zs A n c b o vs k0 k1 k2 k3 k4 k5 k6 =>
   injection hd with e1 e2
   subst e2
   obtain ⟨rfl,hFb⟩:=k4 (by simp)
   refine ⟨b,o,c,(List.range sz).map (vs 0),by rw [k0];rfl,hFb,by simp,fun j v hv=>?_,Reps.of (by simp [hyl]) fun j d v hd hv=>?_⟩
   ·obtain ⟨hj,rfl⟩:=z2w hv
    have h:=k5 0 j (Enc.e y) _ rfl (List.getElem?_eq_getElem (by omega))
    rwa [Nat.zero_mul,Nat.add_zero] at h
   ·obtain ⟨hj,rfl⟩:=z2w hv
    exact k6 0 j (Enc.e y) d rfl hd
  | _=>cases hd
 have hc1:∀ v ∈ cs,v.oneCell'=true:=hcr.one
 refine ⟨(l.take a++[y]++l.drop a).map Enc.e,?_,fun x hx=>?_,?_⟩
 ·show [Dt.l (Enc.n α) _]=_
  rw [hn];rfl
 ·obtain ⟨z,_,rfl⟩:=List.mem_map.1 hx
  rw [Enc.len,hn]
 have hl2:((l.take a++[y]++l.drop a).map (Enc.e (α:=α))).length=l.length+1:=by
  rw [List.length_map,List.length_append,List.length_append,List.length_take,List.length_drop,List.length_singleton];omega
 have hflat:((l.take a++[y]++l.drop a).map (Enc.e (α:=α))).flatten=(l.map Enc.e).flatten.take (a * sz)++Enc.e y++(l.map Enc.e).flatten.drop (a * sz):=by
  rw [List.map_append,List.map_append,List.map_take,List.map_drop,List.flatten_append,List.flatten_append,zfh a hxs,zl1 a hxs]
  simp
 rw [hl2,hflat]
 have hle3:a * sz≤l.length * sz:=Nat.mul_le_mul_right _ (by omega)
 have hnew:∀ {W':World},Agree F W W'→Reps W' F ((l.map Enc.e).flatten.take (a * sz)++Enc.e y++(l.map Enc.e).flatten.drop (a * sz)) (cells.take (a * sz)++cs++cells.drop (a * sz)):=fun hag=>(((hreps.take (a * sz)).append hcr).append (hreps.drop (a * sz))).mono hag (fun _ h=>h)
 have hnl:(cells.take (a * sz)++cs++cells.drop (a * sz)).length=(l.length+1) * sz:=by
  rw [List.length_append,List.length_append,List.length_take,List.length_drop,hcl,hml,Nat.min_eq_left hle3,Nat.succ_mul];omega
 by_cases hend':a=l.length
 ·subst hend'
  refine .inl ⟨hen.run _ _,(hend W base v l.length b off c cells cs hown hbase (by omega) hcl hcell hc1).mono ?_⟩
  rintro r W' ⟨v',rfl,q1,q2,q3⟩
  have hag:Agree F W W':=fun k hk=>q2.block k (hF.1 k hk) fun h=>hvF k h.symm hk
  refine ⟨_,rfl,v',_,⟨fun h=>(by cases h),fun _=>rfl⟩,q2,?_,hnew hag,fun k hk=>?_⟩
  ·rw [List.take_of_length_le (by omega),List.drop_of_length_le (by omega),List.append_nil];exact q1
  ·rcases q3 with q3|q3
   ·exact .inl (q3 ▸ hk)
   ·rw [q3] at hk;injection hk with hk;exact .inr (Nat.le_of_eq hk)
 ·rcases hown.2 with ⟨rfl,h0⟩|⟨g,cap,cur,rfl,hbg,hg,h1,h2,hcs,htk⟩
  ·omega
  ·have hcs':cur.toList.length=cap * sz:=by simpa using hcs
   have hones:∀ u ∈ cur.toList.take (l.length * sz),u.oneCell'=true:=by rw [htk];exact hreps.one
   have hgF:¬ F g:=hvF g rfl
   have hbg':b≠g:=fun h=>hgF (h ▸ hFb)
   have hg':W.heap[g]? = some (.cells cur.toList.toArray e (0,0)):=by simpa using hg
   have hal:a<l.length:=by omega
   have hmvl:((cur.toList.take (l.length * sz)).drop (a * sz)).length=(l.length - a) * sz:=by rw [htk,List.length_drop,hml,Nat.sub_mul]
   have e1:(a+1) * sz=a * sz+sz:=Nat.succ_mul ..
   have e2:(a+1) * sz+(l.length - a) * sz=(l.length+1) * sz:=by rw [← Nat.add_mul];congr 1;omega
   have hsplit:∀ vs':List Value,(l.length+1) * sz≤vs'.length→vs'.take (a * sz)=cells.take (a * sz)→(z1k (z1k vs' ((a+1) * sz) ((cur.toList.take (l.length * sz)).drop (a * sz))) (a * sz) cs).take ((l.length+1) * sz)=cells.take (a * sz)++cs++cells.drop (a * sz):=by
    intro vs' hl' ht'
    have k1:a * sz+cs.length≤(z1k vs' ((a+1) * sz) ((cur.toList.take (l.length * sz)).drop (a * sz))).length:=by rw [z1l];omega
    rw [z8t k1,z8t (by rw [hmvl];omega),hcl,hmvl,e2,htk]
    have k2:(vs'.take ((a+1) * sz)++cells.drop (a * sz)++vs'.drop ((l.length+1) * sz)).take (a * sz)=cells.take (a * sz):=by
     rw [List.append_assoc,List.take_append_of_le_length (by rw [List.length_take];omega),List.take_take,Nat.min_eq_left (by omega),ht']
    have k3:(vs'.take ((a+1) * sz)++cells.drop (a * sz)++vs'.drop ((l.length+1) * sz)).drop (a * sz+sz)=cells.drop (a * sz)++vs'.drop ((l.length+1) * sz):=by
     rw [List.append_assoc,List.drop_append,List.drop_of_length_le (by rw [List.length_take];omega),List.length_take,Nat.min_eq_left (by omega),e1,Nat.sub_self,List.nil_append,List.drop_zero]
    rw [k2,k3,← List.append_assoc,List.take_append_of_le_length (by rw [hnl];omega),List.take_of_length_le (by rw [hnl];omega)]
   rcases Nat.lt_or_ge l.length cap with hr|hr
   ·have hcapm:(l.length+1) * sz≤cap * sz:=Nat.mul_le_mul_right _ hr
    refine .inl ⟨hen.run _ _,(hroom W g l.length cap a b off c cur.toList cs hg' hr h2 hcs' hones hal hbg' hcl hcell hc1).mono ?_⟩
    rintro r W' ⟨rfl,rfl⟩
    have hfar:∀ k,k≠g→(((W.drewN 1).setCells g ((a+1) * sz) ((cur.toList.take (l.length * sz)).drop (a * sz))).setCells g (a * sz) cs).heap[k]? = W.heap[k]?:=by
     intro k hk
     rw [z2f g _ _ _ k hk,z2f g _ _ _ k hk]
     rfl
    have hag:Agree F W (((W.drewN 1).setCells g ((a+1) * sz) ((cur.toList.take (l.length * sz)).drop (a * sz))).setCells g (a * sz) cs):=fun k hk=>hfar k fun h=>hgF (h ▸ hk)
    refine ⟨_,rfl,_,_,⟨fun h=>(by cases h),fun _=>rfl⟩,?_,⟨hnl,.inr ⟨g,cap,_,rfl,hbg,z1w cs (a * sz) _ _ (z1w _ ((a+1) * sz) (W.drewN 1) _ hg'),hr,h2,by rw [List.size_toArray,z1l,z1l];exact hcs',?_⟩⟩,hnew hag,fun _ h=>.inl h⟩
    ·obtain ⟨k1,k2,k3,k4⟩:=z4d g cs (a * sz) ((W.drewN 1).setCells g ((a+1) * sz) ((cur.toList.take (l.length * sz)).drop (a * sz)))
     obtain ⟨q1,q2,q3,q4⟩:=z4d g ((cur.toList.take (l.length * sz)).drop (a * sz)) ((a+1) * sz) (W.drewN 1)
     exact ⟨k1.trans q1,k2.trans q2,k3.trans q3,by rw [k4,q4];exact Nat.le_refl _,fun k hk hne=>hfar k fun h=>hne (by rw [h];rfl)⟩
    ·rw [List.toList_toArray]
     refine hsplit _ (by omega) ?_
     rw [← htk,List.take_take,Nat.min_eq_left hle3]
   ·have hcap:l.length=cap:=by omega
    refine .inl ⟨hen.run _ _,(hgrow W g l.length cap a b off c cur.toList cs hg' hcap (by omega) hcs' hones hal hcl hcell hc1).mono ?_⟩
    rintro r W' ⟨G,row,r1,r2,r3,rfl,r4,r5,rfl⟩
    have hGm:(l.length+1) * sz≤G * sz:=Nat.mul_le_mul_right _ r1
    generalize hW0:(W.alloc (.cells row.toArray e)).drew=W0
    have hs0:W0.heap.size=W.heap.size+1:=by rw [← hW0];show (W.heap.push _).size=_;simp
    have hn0:W0.heap[W.heap.size]? = some (.cells row.toArray e (0,0)):=by rw [← hW0];exact heap_alloc_new W _
    have ho0:∀ k,k<W.heap.size→W0.heap[k]? = W.heap[k]?:=fun k hk=>by
     rw [← hW0]
     show (W.alloc (.cells row.toArray e)).heap[k]? = _
     simp only [World.alloc,Array.getElem?_push,Nat.ne_of_lt hk,if_false]
    have hfar:∀ k,k<W.heap.size→(((W0.setCells W.heap.size (a * sz) cs).drew).setCells W.heap.size ((a+1) * sz) ((cur.toList.take (l.length * sz)).drop (a * sz))).heap[k]? = W.heap[k]?:=by
     intro k hk
     rw [z2f _ _ _ _ k (by omega)]
     show (W0.setCells W.heap.size (a * sz) cs).heap[k]? = _
     rw [z2f _ _ _ _ k (by omega),ho0 k hk]
    obtain ⟨z1,z2,z3⟩:W0.os=W.os∧W0.tape=W.tape∧W0.output=W.output:=by rw [← hW0];exact ⟨rfl,rfl,rfl⟩
    have hag:Agree F W (((W0.setCells W.heap.size (a * sz) cs).drew).setCells W.heap.size ((a+1) * sz) ((cur.toList.take (l.length * sz)).drop (a * sz))):=fun k hk=>hfar k (hF.1 k hk)
    have hheap:=z1w ((cur.toList.take (l.length * sz)).drop (a * sz)) ((a+1) * sz) ((W0.setCells W.heap.size (a * sz) cs).drew) _ (z1w cs (a * sz) W0 _ hn0)
    refine ⟨_,rfl,_,_,⟨fun h=>(by cases h),fun _=>rfl⟩,?_,⟨hnl,.inr ⟨W.heap.size,G,_,rfl,hbase,hheap,r1,r2,by rw [List.size_toArray,z1l,z1l];exact r3,?_⟩⟩,hnew hag,fun k hk=>?_⟩
    ·obtain ⟨k1,k2,k3,k4⟩:=z4d W.heap.size ((cur.toList.take (l.length * sz)).drop (a * sz)) ((a+1) * sz) ((W0.setCells W.heap.size (a * sz) cs).drew)
     obtain ⟨q1,q2,q3,q4⟩:=z4d W.heap.size cs (a * sz) W0
     refine ⟨k1.trans (q1.trans z1),k2.trans (q2.trans z2),k3.trans (q3.trans z3),?_,fun k hk hne=>hfar k hk⟩
     rw [k4]
     show W.heap.size≤(W0.setCells W.heap.size (a * sz) cs).heap.size
     rw [q4,hs0];omega
    ·rw [List.toList_toArray]
     have hswap:z1k (z1k row (a * sz) cs) ((a+1) * sz) ((cur.toList.take (l.length * sz)).drop (a * sz))=z1k (z1k row ((a+1) * sz) ((cur.toList.take (l.length * sz)).drop (a * sz))) (a * sz) cs:=by
      have hL:a * sz+cs.length≤row.length:=by omega
      have hR:(a+1) * sz+((cur.toList.take (l.length * sz)).drop (a * sz)).length≤row.length:=by rw [hmvl];omega
      rw [z8t (vs:=z1k row (a * sz) cs) (by rw [z1l];exact hR),z8t hL,z8t (vs:=z1k row ((a+1) * sz) _) (by rw [z1l];exact hL),z8t hR]
      have t1:(row.take (a * sz)++cs++row.drop (a * sz+cs.length)).take ((a+1) * sz)=row.take (a * sz)++cs:=by
       rw [List.take_append_of_le_length (by rw [List.length_append,List.length_take];omega),List.take_of_length_le (by rw [List.length_append,List.length_take];omega)]
      have t2:(row.take (a * sz)++cs++row.drop (a * sz+cs.length)).drop ((a+1) * sz+((cur.toList.take (l.length * sz)).drop (a * sz)).length)=row.drop ((a+1) * sz+((cur.toList.take (l.length * sz)).drop (a * sz)).length):=by
       rw [List.drop_append,List.drop_of_length_le (by rw [List.length_append,List.length_take];omega),List.nil_append,List.drop_drop]
       congr 1
       rw [List.length_append,List.length_take];omega
      have t3:(row.take ((a+1) * sz)++((cur.toList.take (l.length * sz)).drop (a * sz))++row.drop ((a+1) * sz+((cur.toList.take (l.length * sz)).drop (a * sz)).length)).take (a * sz)=row.take (a * sz):=by
       rw [List.append_assoc,List.take_append_of_le_length (by rw [List.length_take];omega),List.take_take,Nat.min_eq_left (by omega)]
      have t4:(row.take ((a+1) * sz)++((cur.toList.take (l.length * sz)).drop (a * sz))++row.drop ((a+1) * sz+((cur.toList.take (l.length * sz)).drop (a * sz)).length)).drop (a * sz+cs.length)=((cur.toList.take (l.length * sz)).drop (a * sz))++row.drop ((a+1) * sz+((cur.toList.take (l.length * sz)).drop (a * sz)).length):=by
       rw [List.append_assoc,List.drop_append,List.drop_of_length_le (by rw [List.length_take];omega),List.nil_append,List.length_take,Nat.min_eq_left (by omega),hcl,e1,Nat.sub_self,List.drop_zero]
      rw [t1,t2,t3,t4,List.append_assoc,List.append_assoc]
     rw [hswap]
     refine hsplit _ (by omega) ?_
     rw [r5,← htk,List.take_take,Nat.min_eq_left hle3]
    ·simp only [Value.ownBlock,Option.some.injEq] at hk
     exact .inr (Nat.le_of_eq hk)
end
end
section
open Go.RowKit
set_option maxRecDepth 100000
set_option maxHeartbeats 4000000
theorem z08l {W:World} {g n cap i j:Nat} {vs:List Value} (hg:W.heap[g]? = some (.cells vs.toArray 120 (0,0))) (hn:n≤cap) (hm:cap≤maxLen) (hcs:vs.length=cap * 6) (h1:∀ u ∈ vs.take (n * 6),u.oneCell'=true) (hij:i<j) (hj:j≤n) :
  Calls Tryz.prog 211 #[.slice (some ⟨g,0,none⟩) n cap,.int .i64 i,.int .i64 j] W fun e w'=>e = .returned (.slice (some ⟨g,0,none⟩) (n - (j - i)) cap) ∧
   w'=((W.drewN 1).setCells g (i * 6) ((vs.take (n * 6)).drop (j * 6))).setCells g ((i+(n - j)) * 6) (Builtin.zeroCells #[.int .i64 0,.int .i64 0,.int .i64 0,.slice none 0 0,.int .i64 0,.bool false] (j - i)).toList:=by
 have hm':cap≤9223372036854775807:=hm
 obtain ⟨news,hnews⟩:∃ news,news=(vs.take (n * 6)).drop (j * 6):=⟨_,rfl⟩
 have hlen:news.length=(n - j) * 6:=by rw [hnews,List.length_drop,List.length_take];omega
 have hg1:W.drew.heap[g]? = some (.cells vs.toArray 120 (0,0)):=hg
 obtain ⟨A,hA,hsrc⟩:∃ A:Addr,(if cap=j then some (⟨g,0,none⟩:Addr) else some ⟨g,j * 6,none⟩)=some A∧Hid (∀ t u,news[t]? = some u→W.drew.cell? (A.add t)=some u):=by
  by_cases h:cap=j
  ·refine ⟨⟨g,0,none⟩,by simp [h],fun t u hu=>?_⟩
   have:=(List.getElem?_eq_some_iff.1 hu).1
   omega
  ·refine ⟨⟨g,j * 6,none⟩,by simp [h],fun t u hu=>?_⟩
   have ht:=(List.getElem?_eq_some_iff.1 hu).1
   rw [hnews,List.getElem?_drop,List.getElem?_take,if_pos (by omega)] at hu
   rw [z54,cell_of_row _ g _ _ 120 (0,0) hg1]
   simpa using hu
 have s1:Hid (news.length=(n - j) * 6):=hlen
 have s2:Hid (∀ u ∈ news,u.oneCell'=true):=by
  intro u hu
  rw [hnews] at hu
  exact h1 u (List.mem_of_mem_drop hu)
 have s3:Hid (∀ t,t<news.length→(W.drew.cell? ⟨g,0+i * 6+t,none⟩).isSome=true∧W.drew.frozen? ⟨g,0+i * 6+t,none⟩=false):=by
  intro t ht
  have:=zfy (fr:=(0,0)) hg1 (o:=0+i * 6) (n:=news.length) (by omega)
  exact this t ht
 obtain ⟨W1,hW1⟩:∃ W1,W1=W.drew.setCells g (0+i * 6) news:=⟨_,rfl⟩
 have hg2:W1.heap[g]? = some (.cells (z1k vs (0+i * 6) news).toArray 120 (0,0)):=by rw [hW1];exact z1w _ _ _ _ hg1
 have hcl:∀ ty,(Builtin.clear_ #[44] ty #[.slice (some ⟨g,(i+(n - j)) * 6,none⟩) (n - (i+(n - j))) (cap - (i+(n - j)))]).run Tryz.prog W1 = .ok (.tuple #[]) (W1.setCells g ((i+(n - j)) * 6) (Builtin.zeroCells #[.int .i64 0,.int .i64 0,.int .i64 0,.slice none 0 0,.int .i64 0,.bool false] (n - (i+(n - j)))).toList) :=
  fun ty=>z062 (sz:=6) Tryz.underlying44 Tryz.zeroValue120 rfl (by simp [Value.cells,Value.oneCell']) hg2 (by rw [z1l];omega)
 have hW:Hid (W1=W.drew.setCells g (0+i * 6) news):=hW1
 have hic:i≤cap:=by omega
 have hjc:j≤cap:=by omega
 have hnews:=Lib.hid hnews
 clear hW1 hg2 hg hg1 hlen
 go_enter Tryz.func211,Tryz.ntmps211
 go_wp2_with fail
 obtain ⟨ht,ie,zv,he,hz0,hsz,hbz,hzs⟩:=z2j
 go_region_law (refine step_append_room rfl (.tmp 22) (.tmp 25) 44 rfl 120 ie 6 ht he hsz g 0 i cap (by simp [Act.eval,Act.put]) A (n - j) (cap - j) news (by simp [Act.eval,Act.put,hA]) s1.out hsrc.out s2.out (by omega) s3.out ?_;rw [← hW.out])
 go_wp2
 go_ret
 refine ⟨by rw [show n - (j - i)=i+(n - j) by omega];rfl,?_⟩
 rw [hW.out,Nat.zero_add,hnews.out,show n - (i+(n - j))=j - i by omega]
 rfl
theorem z08m {W:World} {A:Option Addr} {n cap i:Nat} (hi:i≤n) (hn:n≤cap) (hm:cap≤maxLen):Calls Tryz.prog 211 #[.slice A n cap,.int .i64 i,.int .i64 i] W fun r W'=>r = .returned (.slice A n cap)∧W'=W:=by
 have hm':cap≤9223372036854775807:=hm
 have hic:i≤cap:=by omega
 go_enter Tryz.func211,Tryz.ntmps211
 go_wp2_with fail
 all_goals (go_ret;exact ⟨rfl,rfl⟩)
noncomputable def zbg:za:=spD (fun x:List Coin × Int × Int=>0≤x.2.1∧x.2.1≤x.2.2∧x.2.2≤x.1.length) fun x=>x.1.take x.2.1.toNat++x.1.drop x.2.2.toNat
theorem z067:Meets Tryz.prog zbg 211 ⟨[.mine 120 6,.one,.one],[(false,[.fresh 120 6])],false⟩ :=
 z063 rfl (by decide) (z1u (fn:=Tryz.f211) (by kernel_rfl) (by kernel_rfl) (by kernel_rfl)) #[.int .i64 0,.int .i64 0,.int .i64 0,.slice none 0 0,.int .i64 0,.bool false] rfl (fun W A n cap i h1 h2 h3=>z08m h1 h2 h3) (fun W g n cap i j vs h1 h2 h3 h4 h5 h6 h7=>z08l h1 h2 h3 h4 h5 h6 h7)
end
section
open Go.RowKit
set_option maxRecDepth 100000
set_option maxHeartbeats 4000000
theorem z08n {W:World} {g o b off la ca lb cb:Nat} {vs:List Value} (hg:W.heap[g]? = some (.cells vs.toArray 120 (0,0))) (hvs:0<vs.length) (hne:b≠g) {u:Value} (hb:W.cell? ⟨b,off,none⟩=some u) :
  (callFunc 214 #[.slice (some ⟨b,off,none⟩) la ca,.slice (some ⟨g,o,none⟩) lb cb]).run Tryz.prog W = .ok (.value (.bool false)) W:=by
 rw [run_callFunc_extern Tryz.func214 (by kernel_rfl) (by kernel_rfl) (by kernel_rfl) (e:=Extern.SlicesOverlaps.overlaps #[44,44] #[4]) (by kernel_rfl),
  zvo (e:=120) (sz:=6) Tryz.underlying44 Tryz.sizeOf120 hg hvs hne hb]
 rfl
theorem z08o {W:World} {g n cap i b off c:Nat} {vs cs:List Value} (hg:W.heap[g]? = some (.cells vs.toArray 120 (0,0))) (hn:n<cap) (hm:cap≤maxLen) (hcs:vs.length=cap * 6) (h1:∀ u ∈ vs.take (n * 6),u.oneCell'=true) (hi:i<n) (hne:b≠g) (hcl:cs.length=6) (hb:∀ j v,cs[j]? = some v→W.cell? ⟨b,off+j,none⟩=some v) (h1c:∀ v ∈ cs,v.oneCell'=true) :
  Calls Tryz.prog 176 #[.slice (some ⟨g,0,none⟩) n cap,.int .i64 i,.slice (some ⟨b,off,none⟩) 1 c] W fun r W'=>r = .returned (.slice (some ⟨g,0,none⟩) (n+1) cap)∧W'=((W.drewN 1).setCells g ((i+1) * 6) ((vs.take (n * 6)).drop (i * 6))).setCells g (i * 6) cs:=by
 have hm':cap≤9223372036854775807:=hm
 obtain ⟨mv,hmv⟩:∃ mv,mv=(vs.take (n * 6)).drop (i * 6):=⟨_,rfl⟩
 have hlen:mv.length=(n - i) * 6:=by rw [hmv,List.length_drop,List.length_take];omega
 have hg1:W.drew.heap[g]? = some (.cells vs.toArray 120 (0,0)):=hg
 obtain ⟨u0,hu0⟩:∃ u,W.cell? ⟨b,off,none⟩=some u:=by
  have h:=hb 0 (cs[0]'(by omega)) (List.getElem?_eq_getElem (by omega))
  exact ⟨_,h⟩
 have hov:∀ lb cb,(callFunc 214 #[.slice (some ⟨b,off,none⟩) 1 c,.slice (some ⟨g,(i+1) * 6,none⟩) lb cb]).run Tryz.prog W = .ok (.value (.bool false)) W:=fun lb cb=>z08n hg (by omega) hne hu0
 have hsz:(Tryz.prog.info? 120).map (·.size)=some 6:=by kernel_rfl
 have hcp1:∀ ty dc sc,(Builtin.copy_ #[44,44] ty #[.slice (some ⟨g,(i+1) * 6,none⟩) (n - i) dc,.slice (some ⟨g,i * 6,none⟩) (n+1 - i) sc]).run Tryz.prog W.drew = .ok (goInt (Nat.min (n+1 - i) (n - i):Nat)) (W.drew.setCells g ((i+1) * 6) mv):=fun ty dc sc =>
  zfg Tryz.underlying44 hsz hg1 (by rw [hlen];show _=min _ _ * 6;rw [Nat.min_def];split <;> omega) (fun j v hj=>by
   rw [z54,cell_of_row _ g _ _ 120 (0,0) hg1]
   have hlt:=(List.getElem?_eq_some_iff.1 hj).1
   rw [hmv,List.getElem?_drop,List.getElem?_take,if_pos (by omega)] at hj
   simpa using hj) (by omega) (fun v hv=>h1 v (by rw [hmv] at hv;exact List.mem_of_mem_drop hv))
 obtain ⟨W1,hW1⟩:∃ W1,W1=W.drew.setCells g ((i+1) * 6) mv:=⟨_,rfl⟩
 have hg2:W1.heap[g]? = some (.cells (z1k vs ((i+1) * 6) mv).toArray 120 (0,0)):=by rw [hW1];exact z1w _ _ _ _ hg1
 have hcp2:∀ ty dc,(Builtin.copy_ #[44,44] ty #[.slice (some ⟨g,i * 6,none⟩) (n+1 - i) dc,.slice (some ⟨b,off,none⟩) 1 c]).run Tryz.prog W1 = .ok (goInt (Nat.min 1 (n+1 - i):Nat)) (W1.setCells g (i * 6) cs):=fun ty dc =>
  zfg Tryz.underlying44 hsz hg2 (by rw [hcl];show _=min _ _ * 6;rw [Nat.min_def];split <;> omega) (fun j v hj=>by
   rw [z54,hW1,z064 hne]
   exact hb j v hj) (by rw [z1l];omega) h1c
 rw [← hW1] at hcp1
 have hw1:IntKind.i64.wrap ((i:Int)+1)=(i:Int)+1:=by rw [IntKind.wrap_i64];omega
 have hw2:IntKind.i64.wrap ((n:Int)+1)=(n:Int)+1:=by rw [IntKind.wrap_i64];omega
 have hz2:¬ ((i:Int)=(n:Int)):=by omega
 have hp1:(i:Int)≤(n:Int)+1:=by omega
 have hp0:(0:Int)≤(i:Int)+1:=by omega
 have hb1:¬ (cap=i+1):=by omega
 have hb4:¬ (cap=i):=by omega
 have hin:i≤n:=by omega
 have hic:i≤cap:=by omega
 have hW:=Lib.hid hW1
 have hmv':=Lib.hid hmv
 clear hmv hlen hg hg1 hg2 hW1 hcs h1 hb h1c hcl hu0
 go_enter Tryz.func176,Tryz.ntmps176
 go_wp2_with (simp only [hov])
 go_region_law (refine zii rfl _ _ 44 44 rfl _ _ (by simp [Act.eval,Act.put]) (by simp [Act.eval,Act.put]) (hcp1 _ _ _) ?_)
 go_wp2_with (at_builtin;refine zpt rfl _ _ 44 44 rfl _ _ rfl rfl (hcp2 _ _) ?_)
 go_ret
 refine ⟨rfl,?_⟩
 rw [hW.out,hmv'.out]
 rfl
theorem z0b5 {W:World} {base:Nat} {v:Value} {n b off c:Nat} {olds cs:List Value} (hown:W.ownsRow base 120 6 v n olds) (hbase:base≤W.heap.size) (hn:n≤1000000) (hcl:cs.length=6) (hb:∀ j v,cs[j]? = some v→W.cell? ⟨b,off+j,none⟩=some v) (h1c:∀ v ∈ cs,v.oneCell'=true) :
  Calls Tryz.prog 176 #[v,.int .i64 n,.slice (some ⟨b,off,none⟩) 1 c] W fun r W'=>∃ v',r = .returned v'∧W'.ownsRow base 120 6 v' (n+1) (olds++cs)∧W.grownBy W' v.ownBlock∧(v'.ownBlock=v.ownBlock∨v'.ownBlock=some W.heap.size):=by
 obtain ⟨ht,ie,zv,he,hz0,hsz,hbz,hzs⟩:=z2j
 have hrun:∀ ty,∃ v' W',(Builtin.append_ #[44,44] ty #[v,.slice (some ⟨b,off,none⟩) 1 c]).run Tryz.prog W = .ok v' W'∧W'.ownsRow base 120 6 v' (n+1) (olds++cs)∧W.grownBy W' v.ownBlock∧(v'.ownBlock=v.ownBlock∨v'.ownBlock=some W.heap.size):=fun ty=>by
  obtain ⟨v',W',hr,h2,h3,_,h5⟩:=run_append_own_at (P:=Tryz.prog) W base 44 ty 120 ie zv 6 64 ht he hz0 hsz hbz hzs (by decide) v n olds hown ⟨b,off,none⟩ 1 c cs (by omega) (fun j u hj=>by rw [z54];exact hb j u hj) h1c (by unfold maxLen;omega) (by omega) hbase
  exact ⟨v',W',hr,h2,h3,h5⟩
 obtain ⟨v',W',hr,h2,h3,h4⟩:=hrun 44
 have hv:∃ A cap,v = .slice A n cap∧n≤cap∧cap≤maxLen:=by
  rcases hown.2 with ⟨rfl,h0⟩|⟨g,cap,cur,rfl,_,_,h1,h2,_⟩
  ·exact ⟨none,0,by rw [h0],by omega,by unfold maxLen;omega⟩
  ·exact ⟨_,cap,rfl,h1,h2⟩
 obtain ⟨A,cap,rfl,hc1,hc2⟩:=hv
 have hc3:cap≤9223372036854775807:=hc2
 have R:=Lib.hid (And.intro h2 (And.intro h3 h4))
 clear h2 h3 h4 hown hrun hb h1c hcl hbase
 go_enter Tryz.func176,Tryz.ntmps176
 go_wp2_with (at_builtin;refine Lib.wpList_append_run _ rfl _ _ _ _ rfl _ _ rfl rfl _ _ hr ?_)
 all_goals (go_ret;have R':=R.out;first|exact ⟨v',rfl,R'⟩|(subst_vars;exact ⟨v',rfl,R'⟩))
theorem z08p {W:World} {g n cap i b off c:Nat} {vs cs:List Value} (hg:W.heap[g]? = some (.cells vs.toArray 120 (0,0))) (hn:n=cap) (hm:n≤1000000) (hcs:vs.length=cap * 6) (h1:∀ u ∈ vs.take (n * 6),u.oneCell'=true) (hi:i<n) (hcl:cs.length=6) (hb:∀ j v,cs[j]? = some v→W.cell? ⟨b,off+j,none⟩=some v) (h1c:∀ v ∈ cs,v.oneCell'=true) :
  Calls Tryz.prog 176 #[.slice (some ⟨g,0,none⟩) n cap,.int .i64 i,.slice (some ⟨b,off,none⟩) 1 c] W fun r W'=>∃ G,∃ row:List Value,n+1≤G∧G≤maxLen∧row.length=G * 6∧r = .returned (.slice (some ⟨W.heap.size,0,none⟩) (n+1) G)∧(∀ u ∈ row.take (i * 6),u.oneCell'=true)∧row.take (i * 6)=vs.take (i * 6) ∧
   W'=(((W.alloc (.cells row.toArray 120)).drew.setCells W.heap.size (i * 6) cs).drew).setCells W.heap.size ((i+1) * 6) ((vs.take (n * 6)).drop (i * 6)):=by
 obtain ⟨ht,ie,zv,he,hz0,hszI,hbz,hzs⟩:=z2j
 have hz1:¬ ((1:Int)=0):=by decide
 have hz2:¬ ((i:Int)=(n:Int)):=by omega
 have hz3:(cap:Int)<(n:Int)+1:=by omega
 have hsz:(Tryz.prog.info? 120).map (·.size)=some 6:=by kernel_rfl
 have hgl:g<W.heap.size:=by
  rcases Nat.lt_or_ge g W.heap.size with h|h
  ·exact h
  ·rw [Array.getElem?_eq_none h] at hg;cases hg
 have hbl:b<W.heap.size:=block_lt_of_cell (hb 0 _ (List.getElem?_eq_getElem (by omega)))
 have hkk:(n:Int)+1 - (i:Int)=((n+1 - i:Nat):Int):=by omega
 have hik:i+(n+1 - i)=n+1:=by omega
 have hg1:W.drew.heap[g]? = some (.cells vs.toArray 120 (0,0)):=hg
 have hold:(Builtin.firstCells ie.size i (.slice (some ⟨g,0,none⟩) i cap)).run Tryz.prog W.drew = .ok (vs.take (i * 6)).toArray W.drew:=by
  rw [hszI]
  exact run_firstCells_some W.drew 6 i ⟨g,0,none⟩ i cap (vs.take (i * 6)) (by rw [List.length_take];omega) (fun j v hj=>by
   rw [z54,cell_of_row _ g _ _ 120 (0,0) hg1]
   rw [List.getElem?_take] at hj
   split at hj
   ·simpa using hj
   ·cases hj)
 have hrz:∀ ty,(Builtin.append_ #[44,3] ty #[.slice (some ⟨g,0,none⟩) i cap,.int .i64 ((n:Int)+1 - (i:Int))]).run Tryz.prog W =
   .ok (.slice (some ⟨W.heap.size,0,none⟩) (n+1) (grownCap W (n+1) cap 120)) (W.drew.alloc (.cells ((vs.take (i * 6)).toArray++Builtin.zeroCells zv.cells (n+1 - i)++Builtin.zeroCells zv.cells (grownCap W (n+1) cap 120 - (n+1))) 120)):=fun ty=>by
  have h:=Lib.run_append_grow_zeros W 44 3 ty 120 ie zv .i64 .i64 ht Tryz.underlying3 he hz0 (some ⟨g,0,none⟩) i cap (vs.take (i * 6)) hold (n+1 - i) (by omega) (by omega) (by omega) (by omega) (by rw [hbz];omega) (by rw [hbz,hik];exact growslice_fits (by omega) (by omega))
  rw [hik] at h
  rw [hkk]
  exact h
 obtain ⟨G,hG⟩:∃ G,G=grownCap W (n+1) cap 120:=⟨_,rfl⟩
 obtain ⟨row,hrow⟩:∃ row:List Value,row=vs.take (i * 6)++(Builtin.zeroCells zv.cells (n+1 - i)).toList++(Builtin.zeroCells zv.cells (G - (n+1))).toList:=⟨_,rfl⟩
 have hrowA:row.toArray=(vs.take (i * 6)).toArray++Builtin.zeroCells zv.cells (n+1 - i)++Builtin.zeroCells zv.cells (G - (n+1)):=by rw [hrow];simp
 rw [← hG,← hrowA] at hrz
 have hGn:n+1≤G:=by rw [hG];exact grownCap_ge W _ _ _
 have hGm:G≤maxLen:=by rw [hG];exact grownCap_le_maxLen W (n+1) cap 120 (by unfold maxLen;omega)
 have hG63:G≤9223372036854775807:=hGm
 have hrl:row.length=G * 6:=by
  rw [hrow]
  simp only [List.length_append,List.length_take,Array.length_toList,Builtin.zeroCells,Array.size_map,Array.size_range,hzs]
  omega
 have hrt:row.take (i * 6)=vs.take (i * 6):=by
  rw [hrow,List.append_assoc,List.take_append_of_le_length (by rw [List.length_take];omega),List.take_take,Nat.min_self]
 obtain ⟨mv,hmv⟩:∃ mv,mv=(vs.take (n * 6)).drop (i * 6):=⟨_,rfl⟩
 have hlen:mv.length=(n - i) * 6:=by rw [hmv,List.length_drop,List.length_take];omega
 have hcpA:∀ (W':World),W'.heap[W.heap.size]? = some (.cells row.toArray 120 (0,0))→(∀ k v,W.cell? ⟨b,k,none⟩=some v→W'.cell? ⟨b,k,none⟩=some v)→∀ ty dc,(Builtin.copy_ #[44,44] ty #[.slice (some ⟨W.heap.size,i * 6,none⟩) (n+1 - i) dc,.slice (some ⟨b,off,none⟩) 1 c]).run Tryz.prog W' = .ok (goInt (Nat.min 1 (n+1 - i):Nat)) (W'.setCells W.heap.size (i * 6) cs):=fun W' h1' h2' ty dc =>
  zfg ht hsz h1' (by rw [hcl];show _=min _ _ * 6;rw [Nat.min_def];split <;> omega) (fun j v hj=>by rw [z54];exact h2' _ v (hb j v hj)) (by omega) h1c
 have hcpB:∀ (W':World) (vs':List Value),vs'.length=G * 6→W'.heap[W.heap.size]? = some (.cells vs'.toArray 120 (0,0))→W'.heap[g]? = some (.cells vs.toArray 120 (0,0))→∀ ty dc sc,(Builtin.copy_ #[44,44] ty #[.slice (some ⟨W.heap.size,(i+1) * 6,none⟩) (n - i) dc,.slice (some ⟨g,i * 6,none⟩) (n - i) sc]).run Tryz.prog W' = .ok (goInt (Nat.min (n - i) (n - i):Nat)) (W'.setCells W.heap.size ((i+1) * 6) mv):=fun W' vs' hl' h1' h2' ty dc sc =>
  zfg ht hsz h1' (by rw [hlen];show _=min _ _ * 6;rw [Nat.min_def];split <;> omega) (fun j v hj=>by
   rw [z54,cell_of_row _ g _ _ 120 (0,0) h2']
   have hlt:=(List.getElem?_eq_some_iff.1 hj).1
   rw [hmv,List.getElem?_drop,List.getElem?_take,if_pos (by omega)] at hj
   simpa using hj) (by omega) (fun v hv=>h1 v (by rw [hmv] at hv;exact List.mem_of_mem_drop hv))
 have hA:=hcpA ((W.alloc (.cells row.toArray 120)).drew) (heap_alloc_new W _) (fun k v h=>zih _ h)
 have hA':=hcpA (W.drew.alloc (.cells row.toArray 120)) (heap_alloc_new W.drew _) (fun k v h=>zih (W:=W.drew) _ h)
 have hgold:(W.alloc (.cells row.toArray 120)).heap[g]? = some (.cells vs.toArray 120 (0,0)):=by
  have:(W.alloc (.cells row.toArray 120)).heap[g]? = W.heap[g]?:=by simp only [World.alloc,Array.getElem?_push,Nat.ne_of_lt hgl,if_false]
  rw [this];exact hg
 have hB:=hcpB (((W.alloc (.cells row.toArray 120)).drew.setCells W.heap.size (i * 6) cs).drew) (z1k row (i * 6) cs) (by rw [z1l,hrl]) (z1w _ _ (W.alloc (.cells row.toArray 120)).drew _ (heap_alloc_new W _)) (by
  show ((W.alloc (.cells row.toArray 120)).drew.setCells W.heap.size (i * 6) cs).heap[g]? = _
  rw [z2f _ _ _ _ _ (by omega)];exact hgold)
 have hw1:IntKind.i64.wrap ((i:Int)+1)=(i:Int)+1:=by rw [IntKind.wrap_i64];omega
 have hw2:IntKind.i64.wrap ((n:Int)+1)=(n:Int)+1:=by rw [IntKind.wrap_i64];omega
 have hp1:(i:Int)≤(n:Int)+1:=by omega
 have hp0:(0:Int)≤(i:Int)+1:=by omega
 have hGi:¬ (G=i):=by omega
 have hGi1:¬ (G=i+1):=by omega
 have hci:¬ (cap=i):=by omega
 have hin:i≤n:=by omega
 have R:Hid (n+1≤G∧G≤maxLen∧row.length=G * 6∧(∀ u ∈ row.take (i * 6),u.oneCell'=true)∧row.take (i * 6)=vs.take (i * 6)∧mv=(vs.take (n * 6)).drop (i * 6)):=Lib.hid ⟨hGn,hGm,hrl,fun u hu=>h1 u (by rw [hrt] at hu;exact (List.take_sublist_take_left (by omega)).subset hu),hrt,hmv⟩
 have hic:i≤cap:=by omega
 have hn':=Lib.hid hn
 clear hn hmv hlen hg hg1 hgold hcs h1 hb h1c hcl hcpA hcpB hrt hrl hrow hrowA hG hGm hold hkk hik
 go_enter Tryz.func176,Tryz.ntmps176
 go_wp2_with ((at_builtin;refine Lib.wpList_append_run _ rfl _ _ _ _ rfl _ _ rfl rfl _ _ (hrz _) ?_))
 go_region_law (refine zii rfl _ _ 44 44 rfl _ _ (by simp [Act.eval,Act.put]) (by simp [Act.eval,Act.put]) (hB _ _ _) ?_)
 go_wp2
 go_ret
 obtain ⟨r1,r2,r3,r4,r5,r6⟩:=R.out
 exact ⟨G,row,r1,r2,r3,rfl,r4,r5,by rw [r6]⟩
noncomputable def zbh:za:=spD (fun x:List Coin × Int × List Coin=>0≤x.2.1∧x.2.1≤x.1.length∧x.1.length≤1000000∧x.2.2.length=1) fun x=>x.1.take x.2.1.toNat++x.2.2++x.1.drop x.2.1.toNat
theorem z068:Meets Tryz.prog zbh 176 ⟨[.mine 120 6,.one,.one],[(false,[.fresh 120 6])],false⟩ :=
 z066 rfl (by decide) (z1u (fn:=Tryz.f176) (by kernel_rfl) (by kernel_rfl) (by kernel_rfl)) (fun W g n cap i b off c vs cs h1 h2 h3 h4 h5 h6 h7 h8 h9 h10=>z08o h1 h2 h3 h4 h5 h6 h7 h8 h9 h10) (fun W base v n b off c olds cs h1 h2 h3 h4 h5 h6=>z0b5 h1 h2 h3 h4 h5 h6) (fun W g n cap i b off c vs cs h1 h2 h3 h4 h5 h6 h7 h8 h9=>z08p h1 h2 h3 h4 h5 h6 h7 h8 h9)
end
section
open Go.RowKit
set_option maxRecDepth 100000
set_option maxHeartbeats 4000000
theorem zpu (l:List Coin) (i j:Int) (h:0≤i∧i≤j∧j≤l.length):zbg [.l 6 (l.map zr),I i,I j]=some [.l 6 ((l.take i.toNat++l.drop j.toNat).map zr)]:=zp (p:=fun x:List Coin × Int × Int=>0≤x.2.1∧x.2.1≤x.2.2∧x.2.2≤x.1.length) (f:=fun x:List Coin × Int × Int=>x.1.take x.2.1.toNat++x.1.drop x.2.2.toNat) (l,i,j) h
theorem zft (l:List Coin) (i:Int) (c:Coin) (h:0≤i∧i≤l.length∧l.length≤1000000):zbh [.l 6 (l.map zr),I i,.l 6 ([c].map zr)]=some [.l 6 ((l.take i.toNat++[c]++l.drop i.toNat).map zr)]:=zp (p:=fun x:List Coin × Int × List Coin=>0≤x.2.1∧x.2.1≤x.1.length∧x.1.length≤1000000∧x.2.2.length=1) (f:=fun x:List Coin × Int × List Coin=>x.1.take x.2.1.toNat++x.2.2++x.1.drop x.2.1.toNat) (l,i,[c]) ⟨h.1,h.2.1,h.2.2,rfl⟩
noncomputable def z5i:za:=spD (fun _:List Coin × Tx × Int × Int=>True) fun x=>zu x.1 x.2.1 x.2.2.1 x.2.2.2
theorem zb0 (l:List Coin) (t:Tx) (nm h:Int):z5i [.l 6 (l.map zr),I t.height,.l 3 (t.ins.map eIn),.l 2 (t.outs.map z69),I nm,I h]=some [.l 6 ((zu l t nm h).1.map zr),.l 6 ((zu l t nm h).2.1.map zr),I (zu l t nm h).2.2]:=zp (f:=fun x:List Coin × Tx × Int × Int=>zu x.1 x.2.1 x.2.2.1 x.2.2.2) (l,t,nm,h) trivial
theorem z02o {a b:Dt} {n:Int} {pk:List PK} {l:Bool} {g:Bool}:z76 ⟨pk,[(false,[.pure]),(g,[.pure]),(false,[.scal])],l⟩ [a,b,I n]:=by
 intro i d hi hd
 match i,hi,hd with
 | 0,hi,_=>simp [zl] at hi
 | 1,hi,_=>simp [zl] at hi
 | 2,_,hd=>simp only [List.getElem?_cons_succ,List.getElem?_cons_zero,Option.some.injEq] at hd;subst hd;rfl
 | i+3,hi,_=>simp [zl] at hi
attribute [local irreducible] z0k spD z24 zq zi z57 z1p z5e zg
theorem zpv (t:Tx):z9a [I t.height,.l 3 (t.ins.map eIn),.l 2 (t.outs.map z69)]=some [I (zi t)]:=zp (f:=fun t:Tx=>zi t) t trivial
def zyq:T :=
 .lets [.bin .add (.v 28) (.c (.i .i64 1))] [] (.lets [.call 14 [.v 22,.v 28,.v 44] 0] [] (.lets [.bin .add (.v 23) (.c (.i .i64 1))] [] (.again 0 [.v 19,.v 20,.v 43,.v 45,.v
 46])))
def zyr:T :=
 .ite (.v 41) (.ret [.c (.nil 6),.c (.nil 6),.c (.i .i64 8)]) (.lets [.mk 6 [[.v 31,.v 32,.v 33,.v 34,.v 35,.v 36]]] [] (.lets [.app 6 (.v 21) (.v 42)] [] zyq))
def zys:T :=
 .ite (.v 38) (.ret [.c (.nil 6),.c (.nil 6),.c (.i .i64 10)]) (.lets [.call 16 [.v 34,.v 27,.v 5] 0,.call 16 [.v 34,.v 27,.v 5] 1] [] (.lets [.not (.v 39)] [] zyr))
def zyt:T :=
 .lets [.bin .add (.v 28) (.c (.i .i64 1))] [] (.lets [.call 14 [.v 22,.v 28,.v 42] 0] [] (.lets [.bin .add (.v 23) (.c (.i .i64 1))] [] (.again 0 [.v 19,.v 20,.v 41,.v 43,.v
 44])))
def zyu:T :=
 .ite (.v 39) (.ret [.c (.nil 6),.c (.nil 6),.c (.i .i64 8)]) (.lets [.mk 6 [[.v 31,.v 32,.v 33,.v 34,.v 35,.v 36]]] [] (.lets [.app 6 (.v 21) (.v 40)] [] zyt))
def zyv:T :=
 .ite (.v 36) (.lets [.bin .add (.v 35) (.c (.i .i64 2))] [] (.lets [.bin .lss (.v 5) (.v 37)] [] zys)) (.lets [.call 16 [.v 34,.v 27,.v 5] 0,.call 16 [.v 34,.v 27,.v 5]
 1] [] (.lets [.not (.v 37)] [] zyu))
def zyw:T :=
 .lets [.idx (.v 22) (.v 28) 0,.idx (.v 22) (.v 28) 1,.idx (.v 22) (.v 28) 2,.idx (.v 22) (.v 28) 3,.idx (.v 22) (.v 28) 4,.idx (.v 22) (.v 28) 5] [] zyv
def zyx:T :=
 .lets [.call 6 [.v 22,.v 25,.v 26] 0,.call 6 [.v 22,.v 25,.v 26] 1] [] (.lets [.not (.v 29)] [] (.ite (.v 30) (.ret [.c (.nil 6),.c (.nil 6),.c (.i .i64 7)]) (.lets [] [.inr
 6 (.v 22) (.v 28)] zyw)))
def zyy:T :=
 .lets [.mk 6 [[.v 4,.v 29,.v 31,.v 35,.v 5,.v 15]]] [] (.lets [.call 15 [.v 28,.v 33,.v 36] 0] [] (.lets [.bin .add (.v 29) (.c (.i .i64 1))] [] (.again 1 [.v 26,.v 27,.v
 37,.v 38])))
def zyz:T :=
 .lets [.call 6 [.v 28,.v 4,.v 29] 0,.call 6 [.v 28,.v 4,.v 29] 1] [] (.ite (.v 34) (.ret [.c (.nil 6),.c (.nil 6),.c (.i .i64 6)]) (.lets [.call 10 [.v 32] 0] []
 zyy))
def zvp:T :=
 .lets [.call 8 [.v 28] 0] [] (.lets [.bin .neq (.v 31) (.c (.i .i64 0))] [] (.ite (.v 32) (.ret [.c (.nil 6),.c (.nil 6),.v 31]) (.ret [.v 28,.v 21,.c (.i .i64 0)])))
def zvq:T :=
 .lets [.bin .lss (.v 29) (.v 25)] [] (.ite (.v 30) (.lets [] [.inr 2 (.v 3) (.v 29)] (.lets [.idx (.v 3) (.v 29) 0,.idx (.v 3) (.v 29) 1] [] zyz)) zvp)
def zvr:T :=
 .ite (.v 24) (.lets [] [.inr 3 (.v 2) (.v 23)] (.lets [.idx (.v 2) (.v 23) 0,.idx (.v 2) (.v 23) 1,.idx (.v 2) (.v 23) 2] [] zyx)) (.lets [.len (.v 3)] [] (.loop [.c (.nil
 6),.c (.i .i64 0),.v 22,.c (.i .i64 0)] zvq))
def zvs:T :=
 .lets [.call 11 [.v 0] 0] [] (.lets [.len (.v 2)] [] (.loop [.c (.nil 6),.c (.i .i64 0),.c (.nil 6),.v 17,.c (.i .i64 0)] (.lets [.bin .lss (.v 23) (.v 18)] [] zvr)))
def zvt:T :=
 .lets [.bin .add (.v 27) (.c (.i .i64 1))] [] (.lets [.call 14 [.v 21,.v 27,.v 43] 0] [] (.lets [.bin .add (.v 22) (.c (.i .i64 1))] [] (.again 0 [.v 18,.v 19,.v 42,.v 44,.v
 45])))
def zvu:T :=
 .ite (.v 40) (.ret [.c (.nil 6),.c (.nil 6),.c (.i .i64 8)]) (.lets [.mk 6 [[.v 30,.v 31,.v 32,.v 33,.v 34,.v 35]]] [] (.lets [.app 6 (.v 20) (.v 41)] [] zvt))
def zvv:T :=
 .ite (.v 37) (.ret [.c (.nil 6),.c (.nil 6),.c (.i .i64 10)]) (.lets [.call 16 [.v 33,.v 26,.v 5] 0,.call 16 [.v 33,.v 26,.v 5] 1] [] (.lets [.not (.v 38)] [] zvu))
def zvw:T :=
 .lets [.bin .add (.v 27) (.c (.i .i64 1))] [] (.lets [.call 14 [.v 21,.v 27,.v 41] 0] [] (.lets [.bin .add (.v 22) (.c (.i .i64 1))] [] (.again 0 [.v 18,.v 19,.v 40,.v 42,.v
 43])))
def zvx:T :=
 .ite (.v 38) (.ret [.c (.nil 6),.c (.nil 6),.c (.i .i64 8)]) (.lets [.mk 6 [[.v 30,.v 31,.v 32,.v 33,.v 34,.v 35]]] [] (.lets [.app 6 (.v 20) (.v 39)] [] zvw))
def zvy:T :=
 .ite (.v 35) (.lets [.bin .add (.v 34) (.c (.i .i64 2))] [] (.lets [.bin .lss (.v 5) (.v 36)] [] zvv)) (.lets [.call 16 [.v 33,.v 26,.v 5] 0,.call 16 [.v 33,.v 26,.v
 5] 1] [] (.lets [.not (.v 36)] [] zvx))
def zvz:T :=
 .lets [.idx (.v 21) (.v 27) 0,.idx (.v 21) (.v 27) 1,.idx (.v 21) (.v 27) 2,.idx (.v 21) (.v 27) 3,.idx (.v 21) (.v 27) 4,.idx (.v 21) (.v 27) 5] [] zvy
def zw0:T :=
 .lets [.call 6 [.v 21,.v 24,.v 25] 0,.call 6 [.v 21,.v 24,.v 25] 1] [] (.lets [.not (.v 28)] [] (.ite (.v 29) (.ret [.c (.nil 6),.c (.nil 6),.c (.i .i64 7)]) (.lets [] [.inr
 6 (.v 21) (.v 27)] zvz)))
def zw1:T :=
 .lets [.mk 6 [[.v 4,.v 30,.v 32,.v 36,.v 5,.v 15]]] [] (.lets [.call 15 [.v 29,.v 34,.v 37] 0] [] (.lets [.bin .add (.v 30) (.c (.i .i64 1))] [] (.again 1 [.v 27,.v 28,.v
 38,.v 39])))
def zw2:T :=
 .lets [.call 6 [.v 29,.v 4,.v 30] 0,.call 6 [.v 29,.v 4,.v 30] 1] [] (.ite (.v 35) (.ret [.c (.nil 6),.c (.nil 6),.c (.i .i64 6)]) (.lets [.call 10 [.v 33] 0] []
 zw1))
def zw3:T :=
 .lets [.call 8 [.v 29] 0] [] (.lets [.bin .neq (.v 32) (.c (.i .i64 0))] [] (.ite (.v 33) (.ret [.c (.nil 6),.c (.nil 6),.v 32]) (.ret [.v 29,.v 20,.c (.i .i64 0)])))
def zw4:T :=
 .lets [.bin .lss (.v 30) (.v 26)] [] (.ite (.v 31) (.lets [] [.inr 2 (.v 3) (.v 30)] (.lets [.idx (.v 3) (.v 30) 0,.idx (.v 3) (.v 30) 1] [] zw2)) zw3)
def zw5:T :=
 .ite (.v 25) (.ret [.c (.nil 6),.c (.nil 6),.c (.i .i64 9)]) (.lets [.len (.v 3)] [] (.loop [.c (.nil 6),.c (.i .i64 0),.v 21,.c (.i .i64 0)] zw4))
def zw6:T :=
 .ite (.v 23) (.lets [] [.inr 3 (.v 2) (.v 22)] (.lets [.idx (.v 2) (.v 22) 0,.idx (.v 2) (.v 22) 1,.idx (.v 2) (.v 22) 2] [] zw0)) (.lets [.call 13 [.v 1,.v 2,.v 3,.v
 20] 0] [] (.lets [.bin .lss (.v 24) (.c (.i .i64 0))] [] zw5))
def zw7:T :=
 .lets [.call 11 [.v 0] 0] [] (.lets [.len (.v 2)] [] (.loop [.c (.nil 6),.c (.i .i64 0),.c (.nil 6),.v 16,.c (.i .i64 0)] (.lets [.bin .lss (.v 22) (.v 17)] [] zw6)))
def zw8:T :=
 .lets [.bin .eql (.v 14) (.c (.i .i64 0))] [] (.ite (.v 15) (.lets [.bin .neq (.v 1) (.v 5)] [] (.ite (.v 16) (.ret [.c (.nil 6),.c (.nil 6),.c (.i .i64 4)]) zvs))
 zw7)
def zw9:T :=
 .ite (.v 12) (.ret [.c (.nil 6),.c (.nil 6),.c (.i .i64 3)]) (.lets [.bin .gtr (.v 5) (.c (.i .i64 1000))] [] (.ite (.v 13) (.ret [.c (.nil 6),.c (.nil 6),.c (.i .i64 3)])
 (.lets [.len (.v 2)] [] zw8)))
def zwa:T :=
 .lets [.bin .gtr (.v 4) (.c (.i .i64 120))] [] (.ite (.v 11) (.ret [.c (.nil 6),.c (.nil 6),.c (.i .i64 3)]) (.lets [.bin .lss (.v 5) (.c (.i .i64 1))] [] zw9))
def zwb:T :=
 .ite (.v 9) (.ret [.c (.nil 6),.c (.nil 6),.v 8]) (.lets [.bin .lss (.v 4) (.c (.i .i64 1))] [] (.ite (.v 10) (.ret [.c (.nil 6),.c (.nil 6),.c (.i .i64 3)]) zwa))
def zwc:T :=
 .lets [.bin .neq (.v 6) (.c (.i .i64 0))] [] (.ite (.v 7) (.ret [.c (.nil 6),.c (.nil 6),.v 6]) (.lets [.call 17 [.v 1,.v 2,.v 3] 0] [] (.lets [.bin .neq (.v 8) (.c (.i .i64
 0))] [] zwb)))
def zh4:T :=
 .lets [.call 8 [.v 0] 0] [] zwc
theorem zod:Meets Tryz.prog z5i 111 ⟨[.one,.agg 3,.one,.one],[(false,[.pure]),(true,[.pure]),(false,[.scal])],false⟩:=by
 refine zaj (sp:=(z0z [(6,zbb),(8,z20),(10,z7p),(11,z7e),(13,z5p),(14,zbg),(15,zbh),(16,z9g),(17,z9a)])) (sigs:=z1c) (cut:=[]) (hints:=[⟨19,[.r 8 120 6,.t 10,.r 0 120 6,.t 111,.z 84,.z 83,.z 78]⟩]) (fns:=[z96 174 Tryz.f174 [⟨2,[.r 6 120 6,.t 8,.r 7 120 6,.r 0 120 6,.t 19]⟩] [],z96 173 Tryz.f173 [] []]) (dep:=2) (pool:=240) (fn:=Tryz.f111) (t:=zh4) (by kernel_rfl) (by kernel_rfl) (by kernel_rfl) ?_ ?_ ?_
 ·exact (z2s (fn:=Tryz.f174) (by kernel_rfl) (by kernel_rfl) (by kernel_rfl) (by kernel_rfl) (by kernel_rfl) (z2s (fn:=Tryz.f173) (by kernel_rfl) (by kernel_rfl) (by kernel_rfl) (by kernel_rfl) (by kernel_rfl) zca))
 ·exact (z0o (L:=[(6,zbb),(8,z20),(10,z7p),(11,z7e),(13,z5p),(14,zbg),(15,zbh),(16,z9g),(17,z9a)]) ⟨z9 rfl z058,z9 rfl zal,z9 rfl zs1,z9 rfl zv6,z9 rfl zmk,z9 rfl z067,z9 rfl z068,z9 rfl zy9,z9 rfl z056,trivial⟩)
 ·rintro ds rs - h
  obtain ⟨⟨l,t,nm,ht⟩,-,rfl,rfl⟩:=z02 h
  clear h
  refine ⟨⟨t.ins.length+t.outs.length+1,?_⟩,z02o⟩
  show den _ _ zh4 [.l 6 (l.map zr),I t.height,.l 3 (t.ins.map eIn),.l 2 (t.outs.map z69),I nm,I ht] []=ret (zu l t nm ht)
  unfold zh4 zu
  repeat' (first|refine dq1 ?_|refine dqk rfl (z4p _) ?_|refine dqk rfl (zpv _) ?_|exact z8 rfl rfl|((first|refine tR ?_ ?_|refine tO ?_ ?_) <;> intro h)|fail)
  all_goals
   have ok:CoinsOK l:=(z0q l).1 (Decidable.not_not.1 (by assumption))
   have okt:TxOK t:=z7r (Decidable.not_not.1 (by assumption))
   have hl:=ok.len
   have hti:=okt.ins
   have hto:=okt.outs
   repeat' (first|refine dq1 ?_|refine dqk rfl (zgy _ ok.short) ?_|fail)
  ·(refine z14 (fun (st:List Coin × List Coin) k=>[.l 6 (([]:List Coin).map zr),I 0,.l 6 (st.2.map zr),.l 6 (st.1.map zr),I k]) (fun (st:List Coin × List Coin) _ (xs:List In)=>z4h ht z5a (fun r s=>z4w nm ht (decide ((t.ins.length:Int)=0)) z5a (zaz s) r 0 t.outs) st.1 st.2 xs) (fun st k=>SpI l st k) (l,[]) t.ins ?_ ?_ ?_ ?_ ?_;rfl;exact ⟨ok.sorted,Nat.le_refl _,ok.good,rfl,fun c hc=>by cases hc⟩;omega)
   ·rintro ⟨r,s⟩ k x xs hx hd hk hI again hag
    rename_i h0 _
    omega
   ·rintro ⟨r,s⟩ hI again
    rw [z4h]
    repeat' (first|refine dq1 ?_|refine dqF ?_|fail)
    (refine z14 (fun (r:List Coin) k=>[.l 6 (([]:List Coin).map zr),I 0,.l 6 (r.map zr),I k]) (fun (r:List Coin) k (os:List Out)=>z4w nm ht (decide ((t.ins.length:Int)=0)) z5a (zaz s) r k os) (fun r k=>z0a r∧r.length≤l.length+k) r t.outs ?_ ?_ ?_ ?_ ?_;rfl;exact ⟨hI.sorted,hI.len⟩;omega)
    ·rintro r k o os hx hd hk ⟨hs,hrl⟩ again' hag
     rw [z4w]
     have hol:=z9c (okt.good o (List.mem_of_getElem? hx)).2.2
     have hpl:=zj1 r ⟨nm,k⟩
     have e1:((zt r ⟨nm,k⟩:Int)).toNat=zt r ⟨nm,k⟩:=by omega
     repeat' (first|refine dq1 ?_|refine dqc ?_|refine dqm ?_|refine dqK rfl (zax r ⟨nm,k⟩ hs (by omega)) ?_|refine dqk rfl (zba _ (by omega)) ?_|exact z8 rfl rfl|refine tB (fun h=>?_) fun h=>?_|refine dqT ?_|fail)
     have hno:=h
     refine zd (z6j (r:=[(⟨⟨nm,k⟩,o,ht,decide ((t.ins.length:Int)=0)⟩:Coin)].map zr) rfl rfl (by simp)) ?_
     refine zd (z3y rfl (zft _ _ _ ⟨by omega,by omega,by omega⟩) rfl) ?_
     refine zd (za0 rfl rfl (by omega)) ?_
     rw [e1]
     exact z09 rfl rfl (hag _ ⟨z9n hs (c:=⟨⟨nm,k⟩,o,ht,decide ((t.ins.length:Int)=0)⟩) hno,by simp only [List.length_append,List.length_take,List.length_drop,List.length_singleton];omega⟩)
    ·rintro r hr again'
     rw [z4w]
     unfold zaz
     repeat' (first|refine dq1 ?_|refine dqk rfl (z4p _) ?_|exact z8 rfl rfl|refine tR (fun h=>?_) fun h=>?_|refine dqF ?_|fail)
  ·(refine z14 (fun (st:List Coin × List Coin) k=>[.l 6 (([]:List Coin).map zr),I 0,.l 6 (st.2.map zr),.l 6 (st.1.map zr),I k]) (fun (st:List Coin × List Coin) _ (xs:List In)=>z4h ht z5a (fun r s=>if z1p t s<0 then z5a 9 else z4w nm ht (decide ((t.ins.length:Int)=0)) z5a (zaz s) r 0 t.outs) st.1 st.2 xs) (fun st k=>SpI l st k) (l,[]) t.ins ?_ ?_ ?_ ?_ ?_;rfl;exact ⟨ok.sorted,Nat.le_refl _,ok.good,rfl,fun c hc=>by cases hc⟩;omega)
   ·rintro ⟨r,s⟩ k x xs hx hd hk hI again hag
    rw [z4h]
    simp only
    have hs:=hI.sorted
    have hrl:=hI.len
    simp only at hs hrl
    repeat' (first|refine dq1 ?_|refine dqc ?_|refine dqm ?_|refine dqK rfl (zax _ _ hs (by omega)) ?_|exact z8 rfl rfl|refine tN (fun h=>?_) fun h=>?_|refine dqT ?_|fail)
    obtain ⟨hlt,hp⟩:=(zj2 hs x.p).1 h
    have hc:r[zt r x.p]? = some r[zt r x.p]:=List.getElem?_eq_getElem hlt
    rw [hc]
    generalize r[zt r x.p]=c at *
    have hcb:=z4y (hI.good c (List.mem_of_getElem? hc))
    have e1:((zt r x.p:Int)).toNat=zt r x.p:=by omega
    have e2:((zt r x.p:Int)+1).toNat=zt r x.p+1:=by omega
    simp only [Option.getD_some]
    have hxo:=hx
    have hx:=hc
    repeat' (first|refine dq1 ?_|refine dqc ?_|refine dqm ?_|refine dqK rfl (zkk _ _ _) ?_|exact z8 rfl rfl|((first|refine tR ?_ ?_|refine tB ?_ ?_|refine tN ?_ ?_) <;> intro h)|fail)
    all_goals (refine zd (z6j (r:=[c].map zr) rfl rfl (by simp)) ?_;refine zd (zkf (l:=s) (l':=[c]) rfl rfl (by have:=hI.cnt;simp only at this ⊢;simp only [List.length_singleton];omega)) ?_;refine zd (za0 rfl rfl (by omega)) ?_;refine zd (z3y rfl (zpu _ _ _ ⟨by omega,by omega,by omega⟩) rfl) ?_;refine zd (za0 rfl rfl (by omega)) ?_;rw [e1,e2];exact z09 rfl rfl (hag (r.take (zt r x.p)++r.drop (zt r x.p+1),s++[c]) (hI.cut hc)))
   ·rintro ⟨r,s⟩ hI again
    rw [z4h]
    repeat' (first|refine dq1 ?_|refine dqk rfl (zad t s (hI.fee okt)) ?_|exact z8 rfl rfl|refine tR (fun h=>?_) fun h=>?_|refine dqF ?_|fail)
    (refine z14 (fun (r:List Coin) k=>[.l 6 (([]:List Coin).map zr),I 0,.l 6 (r.map zr),I k]) (fun (r:List Coin) k (os:List Out)=>z4w nm ht (decide ((t.ins.length:Int)=0)) z5a (zaz s) r k os) (fun r k=>z0a r∧r.length≤l.length+k) r t.outs ?_ ?_ ?_ ?_ ?_;rfl;exact ⟨hI.sorted,hI.len⟩;omega)
    ·rintro r k o os hx hd hk ⟨hs,hrl⟩ again' hag
     rw [z4w]
     have hol:=z9c (okt.good o (List.mem_of_getElem? hx)).2.2
     have hpl:=zj1 r ⟨nm,k⟩
     have e1:((zt r ⟨nm,k⟩:Int)).toNat=zt r ⟨nm,k⟩:=by omega
     repeat' (first|refine dq1 ?_|refine dqc ?_|refine dqm ?_|refine dqK rfl (zax r ⟨nm,k⟩ hs (by omega)) ?_|refine dqk rfl (zba _ (by omega)) ?_|exact z8 rfl rfl|refine tB (fun h=>?_) fun h=>?_|refine dqT ?_|fail)
     have hno:=h
     refine zd (z6j (r:=[(⟨⟨nm,k⟩,o,ht,decide ((t.ins.length:Int)=0)⟩:Coin)].map zr) rfl rfl (by simp)) ?_
     refine zd (z3y rfl (zft _ _ _ ⟨by omega,by omega,by omega⟩) rfl) ?_
     refine zd (za0 rfl rfl (by omega)) ?_
     rw [e1]
     exact z09 rfl rfl (hag _ ⟨z9n hs (c:=⟨⟨nm,k⟩,o,ht,decide ((t.ins.length:Int)=0)⟩) hno,by simp only [List.length_append,List.length_take,List.length_drop,List.length_singleton];omega⟩)
    ·rintro r hr again'
     rw [z4w]
     unfold zaz
     repeat' (first|refine dq1 ?_|refine dqk rfl (z4p _) ?_|exact z8 rfl rfl|refine tR (fun h=>?_) fun h=>?_|refine dqF ?_|fail)
end
section
open Go.RowKit
set_option maxRecDepth 100000
set_option maxHeartbeats 4000000
attribute [local irreducible] z0k spD z24 zq zi zg
end
section
open Go.RowKit
theorem hasP_mem {l:List Coin} {p:Point}:z36 l p=true↔∃ c ∈ l,c.p=p:=by
 unfold z36
 rw [List.any_eq_true]
 constructor
 ·rintro ⟨c,hc,h⟩;exact ⟨c,hc,of_decide_eq_true h⟩
 ·rintro ⟨c,hc,h⟩;exact ⟨c,hc,decide_eq_true h⟩
theorem hasP_not {l:List Coin} {p:Point}:z36 l p=false↔∀ c ∈ l,c.p≠p:=by
 rw [← Bool.not_eq_true,hasP_mem]
 constructor
 ·intro h c hc he;exact h ⟨c,hc,he⟩
 ·rintro h ⟨c,hc,he⟩;exact h c hc he
theorem zij {l:List Coin} (h:z0a l) {c d:Coin} (hc:c ∈ l) (hd:d ∈ l) (hp:c.p=d.p):c=d:=by
 obtain ⟨i,hi,rfl⟩:=List.getElem_of_mem hc
 obtain ⟨j,hj,rfl⟩:=List.getElem_of_mem hd
 rcases Nat.lt_trichotomy i j with hij|rfl|hij
 ·have:=z8n h hij hj;rw [hp] at this;exact absurd this (z6e _)
 ·rfl
 ·have:=z8n h hij hi;rw [hp] at this;exact absurd this (z6e _)
theorem zwd {l:List Coin} (h:z0a l) {c:Coin} (hc:c ∈ l):l[zt l c.p]? = some c:=by
 obtain ⟨hlt,hp⟩:=(zj2 h c.p).1 (hasP_mem.2 ⟨c,hc,rfl⟩)
 rw [List.getElem?_eq_getElem hlt]
 exact congrArg some (zij h (List.getElem_mem hlt) hc hp)
theorem z0b6 {l:List Coin} (h:z0a l) {p:Point} (hp:z36 l p=true):∃ c,l[zt l p]? = some c∧c ∈ l∧c.p=p:=by
 obtain ⟨c,hc,rfl⟩:=hasP_mem.1 hp
 exact ⟨c,zwd h hc,hc,rfl⟩
theorem zfi:∀ {a b:List Coin},z0a a→z0a b→(∀ c,c ∈ a↔c ∈ b)→a=b
 | [],[],_,_,_=>rfl
 | [],y::b,_,_,h=>by have:=(h y).2 (List.mem_cons_self ..);cases this
 | x::a,[],_,_,h=>by have:=(h x).1 (List.mem_cons_self ..);cases this
 | x::a,y::b,ha,hb,h=>by
  have ha':=List.pairwise_cons.1 ha
  have hb':=List.pairwise_cons.1 hb
  have hxy:x=y:=by
   rcases List.mem_cons.1 ((h x).1 (List.mem_cons_self ..)) with e|hx
   ·exact e
   ·rcases List.mem_cons.1 ((h y).2 (List.mem_cons_self ..)) with e|hy
    ·exact e.symm
    ·exact absurd (hb'.1 x hx) (znt (ha'.1 y hy))
  subst hxy
  congr 1
  refine zfi ha'.2 hb'.2 fun c=>⟨fun hc=>?_,fun hc=>?_⟩
  ·rcases List.mem_cons.1 ((h c).1 (List.mem_cons_of_mem _ hc)) with rfl|h'
   ·exact absurd (ha'.1 c hc) (z6e _)
   ·exact h'
  ·rcases List.mem_cons.1 ((h c).2 (List.mem_cons_of_mem _ hc)) with rfl|h'
   ·exact absurd (hb'.1 c hc) (z6e _)
   ·exact h'
theorem zmp {l:List Coin} (h:z0a l) {c:Coin} {k:Nat} (hk:l[k]? = some c) {d:Coin}:d ∈ l.take k++l.drop (k+1)↔d ∈ l∧d.p≠c.p:=by
 obtain ⟨hlt,rfl⟩:=List.getElem?_eq_some_iff.1 hk
 have hsplit:l=l.take k++l[k]::l.drop (k+1):=by rw [List.getElem_cons_drop,List.take_append_drop]
 have hs:z0a (l.take k++l[k]::l.drop (k+1)):=by rw [← hsplit];exact h
 obtain ⟨_,h2,h3⟩:=List.pairwise_append.1 hs
 have h2':=List.pairwise_cons.1 h2
 constructor
 ·intro hd
  refine ⟨?_,?_⟩
  ·rcases List.mem_append.1 hd with hd|hd
   ·exact List.mem_of_mem_take hd
   ·exact List.mem_of_mem_drop hd
  ·rcases List.mem_append.1 hd with hd|hd
   ·intro e;have:=h3 d hd l[k] (List.mem_cons_self ..);rw [e] at this;exact z6e _ this
   ·intro e;have:=h2'.1 d hd;rw [e] at this;exact z6e _ this
 ·rintro ⟨hd,hne⟩
  rw [hsplit] at hd
  rcases List.mem_append.1 hd with hd|hd
  ·exact List.mem_append_left _ hd
  ·rcases List.mem_cons.1 hd with rfl|hd
   ·exact absurd rfl hne
   ·exact List.mem_append_right _ hd
theorem put_mem {l:List Coin} {c d:Coin} {k:Nat}:d ∈ l.take k++[c]++l.drop k↔d=c∨d ∈ l:=by
 have:d ∈ l↔d ∈ l.take k∨d ∈ l.drop k:=by rw [← List.mem_append,List.take_append_drop]
 rw [List.mem_append,List.mem_append,List.mem_singleton,this]
 constructor
 ·rintro ((h|h)|h)
  ·exact .inr (.inl h)
  ·exact .inl h
  ·exact .inr (.inr h)
 ·rintro (h|h|h)
  ·exact .inl (.inr h)
  ·exact .inl (.inl h)
  ·exact .inr h
theorem z069 {l:List Coin} {c:Coin} {k:Nat} (hk:l[k]? = some c):zb l=zb (l.take k++l.drop (k+1))+c.o.coin:=by
 obtain ⟨hlt,rfl⟩:=List.getElem?_eq_some_iff.1 hk
 have hsplit:l=l.take k++l[k]::l.drop (k+1):=by rw [List.getElem_cons_drop,List.take_append_drop]
 have e:zb l=zb (l.take k++l[k]::l.drop (k+1)):=by rw [← hsplit]
 rw [e,z56,z56,zb]
 omega
theorem z06a {l:List Coin} {c:Coin} {k:Nat}:zb (l.take k++[c]++l.drop k)=zb l+c.o.coin:=by
 have e:zb l=zb (l.take k++l.drop k):=by rw [List.take_append_drop]
 rw [e,z56,z56,z56,zb,zb]
 omega
structure Fine (h:Int) (x:In) (c:Coin):Prop where
 p:c.p=x.p
 ripe:c.reward=true→c.height+2≤h
 opens:(z57 c.o.lock x.key h).1=true
inductive Spent (h:Int):List Coin→List Coin→List In→List Coin→List Coin→Prop
 | nil (r s):Spent h r s [] r s
 | cons {r s x xs r' s' c}:c ∈ r→r[zt r x.p]? = some c→Fine h x c→Spent h (r.take (zt r x.p)++r.drop (zt r x.p+1)) (s++[c]) xs r' s'→Spent h r s (x::xs) r' s'
theorem zl2 {ρ:Type} {h:Int} {bad:Int→ρ} {K:List Coin→List Coin→ρ} {r s:List Coin} {x:In} {xs:List In} {c:Coin} (hm:c ∈ r) (hc:r[zt r x.p]? = some c) (hf:Fine h x c):z4h h bad K r s (x::xs)=z4h h bad K (r.take (zt r x.p)++r.drop (zt r x.p+1)) (s++[c]) xs:=by
 have hp:z36 r x.p=true:=hasP_mem.2 ⟨c,hm,hf.p⟩
 rw [z4h,if_pos hp,hc]
 simp only [Option.getD_some]
 rw [if_pos hf.opens]
 by_cases hr:c.reward=true
 ·rw [if_pos hr,if_neg (by have:=hf.ripe hr;omega)]
 ·rw [if_neg hr]
theorem Spent.run {ρ:Type} {h:Int} {bad:Int→ρ} {K:List Coin→List Coin→ρ} {r s r' s':List Coin} {xs:List In} (hs:Spent h r s xs r' s'):z4h h bad K r s xs=K r' s':=by
 induction hs with
 | nil r s=>rfl
 | cons hm hc hf _ ih=>rw [zl2 hm hc hf,ih]
theorem zja {h:Int} {K:List Coin→List Coin→List Coin × List Coin × Int}:∀ {xs:List In} {r s:List Coin},z0a r→(z4h h z5a K r s xs).2.2=0→∃ r' s',Spent h r s xs r' s'∧z4h h z5a K r s xs=K r' s'
 | [],r,s,_,_=>⟨r,s,.nil r s,rfl⟩
 | x::xs,r,s,hr,h0=>by
  by_cases hp:z36 r x.p=true
  ·obtain ⟨c,hc,hm,hcp⟩:=z0b6 hr hp
   have hf:Fine h x c:=by
    rw [z4h,if_pos hp,hc] at h0
    simp only [Option.getD_some] at h0
    by_cases hrw:c.reward=true
    ·rw [if_pos hrw] at h0
     by_cases hh:h<c.height+2
     ·rw [if_pos hh] at h0;cases h0
     ·rw [if_neg hh] at h0
      by_cases ho:(z57 c.o.lock x.key h).1=true
      ·exact ⟨hcp,fun _=>by omega,ho⟩
      ·rw [if_neg ho] at h0;cases h0
    ·rw [if_neg hrw] at h0
     by_cases ho:(z57 c.o.lock x.key h).1=true
     ·exact ⟨hcp,fun h=>absurd h hrw,ho⟩
     ·rw [if_neg ho] at h0;cases h0
   have e:=zl2 (bad:=z5a) (K:=K) (s:=s) (xs:=xs) hm hc hf
   rw [e] at h0 ⊢
   obtain ⟨r',s',h1,h2⟩:=zja (z9m hr _) h0
   exact ⟨r',s',.cons hm hc hf h1,h2⟩
  ·rw [z4h,if_neg hp] at h0
   cases h0
structure SpentAs (h:Int) (r:List Coin) (xs:List In) (r' cs:List Coin):Prop where
 sorted:z0a r'
 mem:∀ c,c ∈ r'↔c ∈ r∧∀ x ∈ xs,x.p≠c.p
 len:cs.length=xs.length
 fine:∀ (i:Nat) (x:In),xs[i]? = some x→∃ c,cs[i]? = some c∧c ∈ r∧Fine h x c
 apart:xs.Pairwise fun x y=>x.p≠y.p
 total:zb r=zb r'+zb cs
theorem Spent.as {h:Int} {r s r' s':List Coin} {xs:List In} (hs:Spent h r s xs r' s'):z0a r→∃ cs,s'=s++cs∧SpentAs h r xs r' cs:=by
 induction hs with
 | nil r s=>exact fun hr=>⟨[],(List.append_nil s).symm,hr,fun c=>by simp,rfl,fun i x hx=>by simp at hx,.nil,by simp [zb]⟩
 | @cons r s x xs r' s' c hm hc hf hs ih =>
  intro hr
  obtain ⟨cs,rfl,H⟩:=ih (z9m hr _)
  have hcm:=fun d=>zmp hr hc (d:=d)
  refine ⟨c::cs,by simp,H.sorted,fun d=>?_,by simp [H.len],fun i y hy=>?_,?_,?_⟩
  ·rw [H.mem,hcm]
   constructor
   ·rintro ⟨⟨h1,h2⟩,h3⟩
    refine ⟨h1,fun y hy=>?_⟩
    rcases List.mem_cons.1 hy with rfl|hy
    ·rw [← hf.p];exact fun e=>h2 e.symm
    ·exact h3 y hy
   ·rintro ⟨h1,h2⟩
    exact ⟨⟨h1,fun e=>h2 x (List.mem_cons_self ..) (by rw [← hf.p,e])⟩,fun y hy=>h2 y (List.mem_cons_of_mem _ hy)⟩
  ·cases i with
   | zero =>
    simp only [List.getElem?_cons_zero,Option.some.injEq] at hy
    subst hy
    exact ⟨c,rfl,hm,hf⟩
   | succ i =>
    obtain ⟨d,h1,h2,h3⟩:=H.fine i y (by simpa using hy)
    exact ⟨d,by simpa using h1,(hcm d).1 h2 |>.1,h3⟩
  ·refine List.pairwise_cons.2 ⟨fun y hy=>?_,H.apart⟩
   obtain ⟨i,hi⟩:=List.getElem?_of_mem hy
   obtain ⟨d,_,h2,h3⟩:=H.fine i y hi
   have:=((hcm d).1 h2).2
   rw [h3.p,hf.p] at this
   exact fun e=>this e.symm
  ·rw [z069 hc,H.total,zb];omega
theorem Spent.of {h:Int}:∀ {xs:List In} {r s cs:List Coin},z0a r→xs.Pairwise (fun x y=>x.p≠y.p)→cs.length=xs.length→(∀ (i:Nat) (x:In),xs[i]? = some x→∃ c,cs[i]? = some c∧c ∈ r∧Fine h x c)→∃ r',Spent h r s xs r' (s++cs)
 | [],r,s,cs,hr,ha,hl,hf=>by
  have:cs=[]:=List.eq_nil_of_length_eq_zero hl
  subst this
  exact ⟨r,by rw [List.append_nil];exact .nil r s⟩
 | x::xs,r,s,[],hr,ha,hl,hf=>by cases hl
 | x::xs,r,s,c::cs,hr,ha,hl,hf=>by
  obtain ⟨c',h1,hm,hfx⟩:=hf 0 x rfl
  simp only [List.getElem?_cons_zero,Option.some.injEq] at h1
  subst h1
  have hc:r[zt r x.p]? = some c:=by rw [← hfx.p];exact zwd hr hm
  have ha':=List.pairwise_cons.1 ha
  obtain ⟨r',hs⟩:=Spent.of (s:=s++[c]) (cs:=cs) (z9m hr (zt r x.p)) ha'.2 (by simpa using hl) fun i y hy=>by
   obtain ⟨d,k1,k2,k3⟩:=hf (i+1) y (by simpa using hy)
   refine ⟨d,by simpa using k1,(zmp hr hc).2 ⟨k2,?_⟩,k3⟩
   rw [k3.p,hfx.p]
   exact fun e=>ha'.1 y (List.mem_of_getElem? hy) e.symm
  exact ⟨r',.cons hm hc hfx (by rw [List.append_assoc] at hs;exact hs)⟩
def z6v (nm h:Int) (rw:Bool) (i:Nat) (o:Out):Coin:=⟨⟨nm,i⟩,o,h,rw⟩
inductive Brought (nm h:Int) (rw:Bool):List Coin→Nat→List Out→List Coin→Prop
 | nil (r i):Brought nm h rw r i [] r
 | cons {r:List Coin} {i:Nat} {o:Out} {os:List Out} {m:List Coin}:z36 r ⟨nm,i⟩=false→Brought nm h rw (r.take (zt r ⟨nm,i⟩)++[z6v nm h rw i o]++r.drop (zt r ⟨nm,i⟩)) (i+1) os m→Brought nm h rw r i (o::os) m
theorem Brought.run {ρ:Type} {nm h:Int} {rw:Bool} {bad:Int→ρ} {K:List Coin→ρ} {r m:List Coin} {i:Nat} {os:List Out} (hb:Brought nm h rw r i os m):z4w nm h rw bad K r i os=K m:=by
 induction hb with
 | nil r i=>rfl
 | cons hn _ ih=>rw [z4w,if_neg (by simp [hn])];exact ih
theorem zjb {nm h:Int} {rw:Bool} {K:List Coin→List Coin × List Coin × Int}:∀ {os:List Out} {r:List Coin} {i:Nat},(z4w nm h rw z5a K r i os).2.2=0→∃ m,Brought nm h rw r i os m∧z4w nm h rw z5a K r i os=K m
 | [],r,i,_=>⟨r,.nil r i,rfl⟩
 | o::os,r,i,h0=>by
  rw [z4w] at h0 ⊢
  cases hp:z36 r ⟨nm,i⟩ with
  | true=>rw [hp,if_pos rfl] at h0;cases h0
  | false =>
   rw [hp,if_neg (by simp)] at h0
   rw [if_neg (by simp)]
   obtain ⟨m,h1,h2⟩:=zjb h0
   exact ⟨m,.cons hp h1,h2⟩
def z2c (os:List Out):Int:=(os.map Out.coin).sum
structure BroughtAs (nm h:Int) (rw:Bool) (r:List Coin) (i:Nat) (os:List Out) (m:List Coin):Prop where
 sorted:z0a m
 mem:∀ c,c ∈ m↔c ∈ r∨∃ (j:Nat) (o:Out),os[j]? = some o∧c=z6v nm h rw (i+j) o
 free:∀ c ∈ r,∀ j,j<os.length→c.p≠⟨nm,((i+j:Nat):Int)⟩
 total:zb m=zb r+z2c os
 len:m.length=r.length+os.length
theorem Brought.as {nm h:Int} {rw:Bool} {r m:List Coin} {i:Nat} {os:List Out} (hb:Brought nm h rw r i os m):z0a r→BroughtAs nm h rw r i os m:=by
 induction hb with
 | nil r i=>exact fun hr=>⟨hr,fun c=>by simp,fun c _ j hj=>by simp at hj,by simp [z2c],by simp⟩
 | @cons r i o os m hn hb ih =>
  intro hr
  have H:=ih (z9n hr (c:=z6v nm h rw i o) hn)
  refine ⟨H.sorted,fun c=>?_,fun c hc j hj=>?_,?_,?_⟩
  ·rw [H.mem,put_mem]
   constructor
   ·rintro ((rfl|h1)|⟨j,q,h1,h2⟩)
    ·exact .inr ⟨0,o,rfl,rfl⟩
    ·exact .inl h1
    ·exact .inr ⟨j+1,q,by simpa using h1,by rw [h2,show i+1+j=i+(j+1) by omega]⟩
   ·rintro (h1|⟨j,q,h1,h2⟩)
    ·exact .inl (.inr h1)
    ·cases j with
     | zero =>
      simp only [List.getElem?_cons_zero,Option.some.injEq] at h1
      subst h1
      exact .inl (.inl h2)
     | succ j=>exact .inr ⟨j,q,by simpa using h1,by rw [h2,show i+1+j=i+(j+1) by omega]⟩
  ·cases j with
   | zero=>exact hasP_not.1 hn c hc
   | succ j =>
    have:=H.free c (put_mem.2 (.inr hc)) j (by simpa using hj)
    rwa [show i+1+j=i+(j+1) by omega] at this
  ·rw [H.total,z06a]
   simp only [z2c,List.map_cons,List.sum_cons,z6v]
   omega
  ·rw [H.len]
   simp only [List.length_append,List.length_take,List.length_drop,List.length_cons,List.length_nil]
   omega
theorem Brought.of {nm h:Int} {rw:Bool}:∀ {os:List Out} {r:List Coin} {i:Nat},z0a r→(∀ c ∈ r,∀ j,j<os.length→c.p≠⟨nm,((i+j:Nat):Int)⟩)→∃ m,Brought nm h rw r i os m
 | [],r,i,_,_=>⟨r,.nil r i⟩
 | o::os,r,i,hr,hf=>by
  have hn:z36 r ⟨nm,i⟩=false:=hasP_not.2 fun c hc=>hf c hc 0 (by simp)
  obtain ⟨m,hb⟩:=Brought.of (os:=os) (i:=i+1) (z9n hr (c:=z6v nm h rw i o) hn) fun c hc j hj=>by
   rcases put_mem.1 hc with rfl|hc
   ·simp only [z6v,ne_eq,Point.mk.injEq,not_and]
    intro _
    omega
   ·have:=hf c hc (j+1) (by simpa using hj)
    rwa [show i+(j+1)=i+1+j by omega] at this
  exact ⟨m,.cons hn hb⟩
theorem z06b (os:List Out):∀ s:Int,os.foldl (fun s o=>s - o.coin) s=s - z2c os:=by
 induction os with
 | nil=>intro s;simp [z2c]
 | cons o os ih=>intro s;rw [List.foldl_cons,ih];simp only [z2c,List.map_cons,List.sum_cons];omega
theorem zfj (t:Tx) (s:List Coin):z1p t s=zb s - z2c t.outs:=by
 unfold z1p
 rw [z06b,zif]
 omega
structure Done (l:List Coin) (t:Tx) (nm h:Int) (r s m:List Coin):Prop where
 ok:CoinsOK l
 tx:zi t=0
 nm1:1≤nm
 nm2:nm≤120
 h1:1≤h
 h2:h≤1000
 height:t.ins.length=0→t.height=h
 spent:Spent h l [] t.ins r s
 fee:t.ins.length≠0→0≤z1p t s
 brought:Brought nm h (decide ((t.ins.length:Int)=0)) r 0 t.outs m
 end_:CoinsOK m
theorem Done.run {l:List Coin} {t:Tx} {nm h:Int} {r s m:List Coin} (d:Done l t nm h r s m):zu l t nm h=(m,s,0):=by
 unfold zu
 have hE:zaz s m=(m,s,0):=by
  unfold zaz
  rw [if_neg (by rw [(z0q m).2 d.end_];decide)]
 have a:=d.nm1;have b:=d.nm2;have c:=d.h1;have e:=d.h2
 rw [if_neg (by rw [(z0q l).2 d.ok];decide),if_neg (by rw [d.tx];decide),if_neg (by omega)]
 by_cases h0:(t.ins.length:Int)=0
 ·rw [if_pos h0,if_neg (by rw [d.height (by omega)];simp),d.spent.run,d.brought.run,hE]
 ·rw [if_neg h0,d.spent.run,if_neg (by have:=d.fee (by omega);omega),d.brought.run,hE]
theorem z9o {l:List Coin} {t:Tx} {nm h:Int} (h0:(zu l t nm h).2.2=0):∃ r,Done l t nm h r (zu l t nm h).2.1 (zu l t nm h).1:=by
 have key:∃ r s m,Done l t nm h r s m:=by
  unfold zu at h0
  by_cases k1:zq l=0
  ·rw [if_neg (by rw [k1];decide)] at h0
   have ok:=(z0q l).1 k1
   by_cases k2:zi t=0
   ·rw [if_neg (by rw [k2];decide)] at h0
    by_cases k3:nm<1∨120<nm∨h<1∨1000<h
    ·rw [if_pos k3] at h0;cases h0
    ·rw [if_neg k3] at h0
     by_cases k4:(t.ins.length:Int)=0
     ·rw [if_pos k4] at h0
      by_cases k5:t.height≠h
      ·rw [if_pos k5] at h0;cases h0
      ·rw [if_neg k5] at h0
       obtain ⟨r,s,q1,q2⟩:=zja ok.sorted h0
       rw [q2] at h0
       obtain ⟨m,q3,q4⟩:=zjb h0
       rw [q4] at h0
       unfold zaz at h0
       by_cases k6:zq m=0
       ·exact ⟨r,s,m,ok,k2,by omega,by omega,by omega,by omega,fun _=>Decidable.not_not.1 k5,q1,fun h=>absurd (by omega) h,q3,(z0q m).1 k6⟩
       ·rw [if_pos k6] at h0;exact absurd h0 k6
     ·rw [if_neg k4] at h0
      obtain ⟨r,s,q1,q2⟩:=zja ok.sorted h0
      rw [q2] at h0
      by_cases k5:z1p t s<0
      ·simp only [if_pos k5] at h0;cases h0
      ·simp only [if_neg k5] at h0
       obtain ⟨m,q3,q4⟩:=zjb h0
       rw [q4] at h0
       unfold zaz at h0
       by_cases k6:zq m=0
       ·exact ⟨r,s,m,ok,k2,by omega,by omega,by omega,by omega,fun h=>absurd (by omega) k4,q1,fun _=>by omega,q3,(z0q m).1 k6⟩
       ·rw [if_pos k6] at h0;exact absurd h0 k6
   ·rw [if_pos k2] at h0;exact absurd h0 k2
  ·rw [if_pos k1] at h0;exact absurd h0 k1
 obtain ⟨r,s,m,d⟩:=key
 refine ⟨r,?_⟩
 rw [d.run]
 exact d
end
section
open Go.RowKit
theorem zwe {ρ:Type} {nm h:Int} {rw:Bool} {bad:Int→ρ} {K:List Coin→ρ}:∀ {os:List Out} {r m:List Coin} {i:Nat},z0a r→Brought nm h rw r i os m→zqg nm bad K m i os=K r
 | [],r,m,i,hr,hb=>by cases hb;rfl
 | o::os,r,m,i,hr,hb=>by
  have B:=hb.as hr
  have hmem:z6v nm h rw i o ∈ m:=(B.mem _).2 (.inr ⟨0,o,rfl,rfl⟩)
  have hp:z36 m ⟨nm,i⟩=true:=hasP_mem.2 ⟨_,hmem,rfl⟩
  have hat:m[zt m ⟨nm,i⟩]? = some (z6v nm h rw i o):=zwd B.sorted hmem
  have hfree:∀ c ∈ r,∀ j,j<os.length→c.p≠⟨nm,((i+1+j:Nat):Int)⟩:=fun c hc j hj=>by
   have:=B.free c hc (j+1) (by simpa using hj)
   rwa [show i+(j+1)=i+1+j by omega] at this
  obtain ⟨m2,hb2⟩:=Brought.of (nm:=nm) (h:=h) (rw:=rw) (os:=os) (r:=r) (i:=i+1) hr hfree
  have B2:=hb2.as hr
  have he:m.take (zt m ⟨nm,i⟩)++m.drop (zt m ⟨nm,i⟩+1)=m2:=by
   refine zfi (z9m B.sorted _) B2.sorted fun c=>?_
   rw [zmp B.sorted hat,B.mem,B2.mem]
   constructor
   ·rintro ⟨h1|⟨j,q,h1,rfl⟩,h2⟩
    ·exact .inl h1
    ·cases j with
     | zero=>exact absurd rfl h2
     | succ j=>exact .inr ⟨j,q,by simpa using h1,by rw [show i+1+j=i+(j+1) by omega]⟩
   ·rintro (h1|⟨j,q,h1,rfl⟩)
    ·exact ⟨.inl h1,by have:=B.free c h1 0 (by simp);exact this⟩
    ·refine ⟨.inr ⟨j+1,q,by simpa using h1,by rw [show i+1+j=i+(j+1) by omega]⟩,?_⟩
     simp only [z6v,ne_eq,Point.mk.injEq,not_and]
     intro _
     omega
  rw [zqg,if_pos hp,hat]
  simp only [Option.getD_some]
  rw [if_pos (by simp [z6v]),he]
  exact zwe hr hb2
theorem zwf {ρ:Type} {ins:List In} {bad:Int→ρ} {K:List Coin→ρ}:∀ {cs r:List Coin} {k:Nat},z0a r→(∀ c ∈ cs,∀ d ∈ r,d.p≠c.p)→cs.Pairwise (fun c d=>c.p≠d.p)→(∀ (j:Nat) (c:Coin),cs[j]? = some c→∃ x,ins[k+j]? = some x∧x.p=c.p)→∃ q,zqh ins bad K r k cs=K q∧z0a q∧∀ c,c ∈ q↔c ∈ r∨c ∈ cs
 | [],r,k,hr,_,_,_=>⟨r,rfl,hr,fun c=>by simp⟩
 | c::cs,r,k,hr,hd,hp,hi=>by
  have hn:z36 r c.p=false:=hasP_not.2 fun d hd'=>hd c (List.mem_cons_self ..) d hd'
  obtain ⟨x,hx,hxp⟩:=hi 0 c rfl
  have hp':=List.pairwise_cons.1 hp
  obtain ⟨q,h1,h2,h3⟩:=zwf (bad:=bad) (K:=K) (cs:=cs) (r:=r.take (zt r c.p)++[c]++r.drop (zt r c.p)) (k:=k+1) (z9n hr hn) (fun e he d hd'=>by
   rcases put_mem.1 hd' with rfl|hd'
   ·exact hp'.1 e he
   ·exact hd e (List.mem_cons_of_mem _ he) d hd') hp'.2 fun j e he=>by
    obtain ⟨y,hy,hyp⟩:=hi (j+1) e (by simpa using he)
    exact ⟨y,by rwa [show k+(j+1)=k+1+j by omega] at hy,hyp⟩
  refine ⟨q,?_,h2,fun e=>?_⟩
  ·rw [zqh,if_neg (by simp [hn]),show k=k+0 from rfl,hx]
   simp only [Option.getD_some]
   rw [if_neg (by simp [hxp])]
   exact h1
  ·rw [h3,put_mem,List.mem_cons]
   constructor
   ·rintro ((rfl|h)|h)
    ·exact .inr (.inl rfl)
    ·exact .inl h
    ·exact .inr (.inr h)
   ·rintro (h|rfl|h)
    ·exact .inl (.inr h)
    ·exact .inl (.inl rfl)
    ·exact .inr h
theorem SpentAs.apart' {h:Int} {l:List Coin} {xs:List In} {r cs:List Coin} (S:SpentAs h l xs r cs):cs.Pairwise fun c d=>c.p≠d.p:=by
 rw [List.pairwise_iff_getElem]
 intro i j hi hj hij
 have hl:=S.len
 obtain ⟨c,h1,_,h2⟩:=S.fine i xs[i] (List.getElem?_eq_getElem (by omega))
 obtain ⟨d,h3,_,h4⟩:=S.fine j xs[j] (List.getElem?_eq_getElem (by omega))
 rw [List.getElem?_eq_getElem hi] at h1
 rw [List.getElem?_eq_getElem hj] at h3
 injection h1 with h1
 injection h3 with h3
 rw [h1,h3,h2.p,h4.p]
 exact List.pairwise_iff_getElem.1 S.apart i j (by omega) (by omega) hij
theorem SpentAs.from {h:Int} {l:List Coin} {xs:List In} {r cs:List Coin} (S:SpentAs h l xs r cs) {c:Coin} (hc:c ∈ cs):c ∈ l∧∃ x ∈ xs,x.p=c.p:=by
 obtain ⟨i,hi,rfl⟩:=List.getElem_of_mem hc
 have hl:=S.len
 obtain ⟨c,h1,h2,h3⟩:=S.fine i xs[i] (List.getElem?_eq_getElem (by omega))
 rw [List.getElem?_eq_getElem hi] at h1
 injection h1 with h1
 rw [h1]
 exact ⟨h2,_,List.getElem_mem _,h3.p.symm⟩
theorem SpentAs.all {h:Int} {l:List Coin} {xs:List In} {r cs:List Coin} (S:SpentAs h l xs r cs) (hs:z0a l) {c:Coin}:c ∈ l↔c ∈ r∨c ∈ cs:=by
 constructor
 ·intro hc
  by_cases hx:∃ x ∈ xs,x.p=c.p
  ·obtain ⟨x,hx,he⟩:=hx
   obtain ⟨i,hi⟩:=List.getElem?_of_mem hx
   obtain ⟨d,h1,h2,h3⟩:=S.fine i x hi
   have:d=c:=zij hs h2 hc (h3.p.trans he)
   subst this
   exact .inr (List.mem_of_getElem? h1)
  ·exact .inl ((S.mem c).2 ⟨hc,fun x hx' he=>hx ⟨x,hx',he⟩⟩)
 ·rintro (hc|hc)
  ·exact ((S.mem c).1 hc).1
  ·exact (S.from hc).1
theorem Done.spentAs {l:List Coin} {t:Tx} {nm h:Int} {r s m:List Coin} (d:Done l t nm h r s m):SpentAs h l t.ins r s:=by
 obtain ⟨cs,e,S⟩:=d.spent.as d.ok.sorted
 rw [List.nil_append] at e
 exact e ▸ S
theorem Done.broughtAs {l:List Coin} {t:Tx} {nm h:Int} {r s m:List Coin} (d:Done l t nm h r s m):BroughtAs nm h (decide ((t.ins.length:Int)=0)) r 0 t.outs m:=d.brought.as d.spentAs.sorted
theorem Done.back {l:List Coin} {t:Tx} {nm h:Int} {r s m:List Coin} (d:Done l t nm h r s m):z6h m t nm s=(l,0):=by
 have S:=d.spentAs
 unfold z6h
 rw [if_neg (by rw [(z0q m).2 d.end_];decide),if_neg (by rw [d.tx];decide),if_neg (by have:=S.len;omega),zwe S.sorted d.brought]
 obtain ⟨q,h1,h2,h3⟩:=zwf (ins:=t.ins) (bad:=zj9) (K:=endR) (cs:=s) (r:=r) (k:=0) S.sorted (fun c hc e he=>by
  obtain ⟨_,x,hx,hxp⟩:=S.from hc
  rw [← hxp]
  exact fun e'=>((S.mem e).1 he).2 x hx e'.symm) S.apart' fun j c hc=>by
   have hj:=(List.getElem?_eq_some_iff.1 hc).1
   have hl:=S.len
   obtain ⟨c',k1,_,k3⟩:=S.fine j t.ins[j] (List.getElem?_eq_getElem (by omega))
   rw [hc] at k1
   injection k1 with k1
   exact ⟨t.ins[j],by rw [Nat.zero_add];exact List.getElem?_eq_getElem (by omega),by rw [k1,k3.p]⟩
 rw [h1]
 have:q=l:=zfi h2 d.ok.sorted fun c=>by rw [h3,S.all d.ok.sorted]
 subst this
 unfold endR
 rw [if_neg (by rw [(z0q q).2 d.ok];decide)]
theorem Done.short {l:List Coin} {t:Tx} {nm h:Int} {r s m:List Coin} (d:Done l t nm h r s m):z4z s:=by
 have S:=d.spentAs
 exact ⟨by have:=S.len;have:=(z7r d.tx).ins;omega,fun c hc=>d.ok.short.2 c (S.from hc).1⟩
theorem z02p {l:List Coin} (h:CoinsOK l):z7u l=(zb l,0):=by
 unfold z7u
 rw [if_neg (by rw [(z0q l).2 h];decide),zif]
 simp
theorem zwg {t:Tx} (ok:TxOK t):0<z2c t.outs:=by
 have key:∀ os:List Out,(∀ o ∈ os,1≤o.coin)→(os.length:Int)≤z2c os:=by
  intro os
  induction os with
  | nil=>intro _;simp [z2c]
  | cons o os ih =>
   intro h
   have h1:=h o (List.mem_cons_self ..)
   have h2:=ih fun x hx=>h x (List.mem_cons_of_mem _ hx)
   simp only [z2c,List.map_cons,List.sum_cons,List.length_cons] at h2 ⊢
   omega
 have:=key t.outs fun o ho=>(ok.good o ho).1
 have:=ok.some
 omega
theorem z06c {m:List Coin} {p:Point} (ok:CoinsOK m) (h:z36 m p=false):zv7 m p=(z8b,7):=by
 unfold zv7
 rw [if_neg (by rw [(z0q m).2 ok];decide),if_neg (by simp [h])]
theorem Done.gone {l:List Coin} {t:Tx} {nm h:Int} {r s m:List Coin} (d:Done l t nm h r s m) {x:In} (hx:x ∈ t.ins) (hn:x.p.tx≠nm):zv7 m x.p=(z8b,7):=by
 have S:=d.spentAs
 have B:=d.broughtAs
 refine z06c d.end_ (hasP_not.2 fun c hc e=>?_)
 rcases (B.mem c).1 hc with hc|⟨j,o,_,rfl⟩
 ·exact ((S.mem c).1 hc).2 x hx e.symm
 ·exact hn (by rw [← e];rfl)
end
section
open Go.RowKit
open Go.Lib (itoa)
set_option maxRecDepth 100000
set_option maxHeartbeats 4000000
def zbv (b:Block) (ns:List Int) (l:List Coin) (us:List Undo) (most:Int):List Coin × List Undo × Int :=
 if most < -z1p (b.txs.getD 0 zTx) [] then ([],[],9) else
 if (zu l (b.txs.getD 0 zTx) (ns.getD 0 0) b.height).2.2≠0 then ([],[],(zu l (b.txs.getD 0 zTx) (ns.getD 0 0) b.height).2.2) else
 ((zu l (b.txs.getD 0 zTx) (ns.getD 0 0) b.height).1,us.set 0 ⟨(zu l (b.txs.getD 0 zTx) (ns.getD 0 0) b.height).2.1⟩,0)
def z6o (b:Block) (ns:List Int) (l:List Coin) (us:List Undo) (most:Int) (i:Nat):List Tx→List Coin × List Undo × Int
 | []=>zbv b ns l us most
 | t::r=>if (zu l t (ns.getD i 0) b.height).2.2≠0 then ([],[],(zu l t (ns.getD i 0) b.height).2.2) else
  z6o b ns (zu l t (ns.getD i 0) b.height).1 (us.set i ⟨(zu l t (ns.getD i 0) b.height).2.1⟩) (most+z1p t (zu l t (ns.getD i 0) b.height).2.1) (i+1) r
def z2d (k:Book) (l:List Coin) (b:Block):List Coin × List Undo × Int :=
 if zq l≠0 then ([],[],zq l) else
 if (z05 k b).2.2.2≠0 then ([],[],(z05 k b).2.2.2) else
 z6o b (z05 k b).2.2.1 l (List.replicate b.txs.length ⟨[]⟩) (z0u b.height) 1 (b.txs.drop 1)
theorem zl3 {k:Book} {b:Block} (h:(z05 k b).2.2.2=0):zh b=0∧(z05 k b).2.2.1.length=b.txs.length:=by
 unfold z05 at h ⊢
 by_cases hp:(z0l b).2=0
 ·rw [if_neg (fun k=>k hp)] at h ⊢
  refine ⟨zfs hp,?_⟩
  unfold zfe at h ⊢
  by_cases ha:(z11 k (zi0 b++[(z0l b).1])).2.2=0
  ·rw [if_neg (fun k=>k ha)]
   have:=zig ha
   have h1:(zi0 b).length=b.txs.length:=by simp [zi0]
   show (List.take _ _).length=_
   rw [List.length_take,this,List.length_append,h1,List.length_singleton]
   omega
  ·rw [if_pos ha] at h;exact absurd h ha
 ·rw [if_pos hp] at h;exact absurd h hp
theorem z08q {t:Tx} (h:zi t=0):zeb (t,[]):=by
 have ok:=z7r h
 exact ⟨by simp,by simp,by have:=ok.outs;simp only;omega,fun o ho=>by have:=ok.good o ho;omega⟩
theorem z0b7 {t:Tx} (ok:TxOK t):z2c t.outs≤1000000000 * t.outs.length:=by
 have key:∀ os:List Out,(∀ o ∈ os,o.coin≤1000000000)→z2c os≤1000000000 * os.length:=by
  intro os
  induction os with
  | nil=>intro _;simp [z2c]
  | cons o os ih =>
   intro h
   have h1:=h o (List.mem_cons_self ..)
   have h2:=ih fun x hx=>h x (List.mem_cons_of_mem _ hx)
   simp only [z2c,List.map_cons,List.sum_cons,List.length_cons] at h2 ⊢
   omega
 exact key t.outs fun o ho=>(ok.good o ho).2.1
theorem z0b8 {t:Tx} (h:zi t=0) : -10000000000≤z1p t []∧z1p t []<0:=by
 have ok:=z7r h
 have h1:=zwg ok
 have h2:=z0b7 ok
 have h3:=ok.outs
 rw [zfj]
 simp only [zb]
 omega
theorem zh5 {l:List Coin} {t:Tx} {nm h:Int} (h0:(zu l t nm h).2.2=0):zeb (t,(zu l t nm h).2.1) ∧ -10000000000≤z1p t (zu l t nm h).2.1∧z1p t (zu l t nm h).2.1≤10000000000:=by
 obtain ⟨r,d⟩:=z9o h0
 generalize (zu l t nm h).2.1=s at *
 generalize (zu l t nm h).1=m at *
 have ok:=z7r d.tx
 have S:=d.spentAs
 have B:=d.broughtAs
 have h1:=S.total
 have h2:=B.total
 have hl:=d.ok.total
 have hm:=d.end_.total
 have hr:0≤zb r:=z9b fun c hc=>d.ok.good c ((S.mem c).1 hc).1
 have hs:0≤zb s:=z9b fun c hc=>d.ok.good c (S.from hc).1
 have ho:=zwg ok
 have hsl:=S.len
 have:=ok.ins
 have:=ok.outs
 refine ⟨⟨by simp only;omega,fun c hc=>by have:=z4y (d.ok.good c (S.from hc).1);omega,by simp only;omega,fun o ho=>by have:=ok.good o ho;omega⟩,?_⟩
 rw [zfj]
 omega
section
variable {sp:Nat→za} {N:Nat} {E E':Env} {ks:List (List Dt→Option (List Dt))} {res:Option (List Dt)} {k:T}
theorem z08r {a:Atom} {n:Nat} (ha:a.val E=some (I n)) (h:n≤1000):denX sp E (.mkz 1 [.nil 6] a)=some (.l 1 ((List.replicate n (⟨[]⟩:Undo)).map zb7)):=by
 rw [z0cs (sz:=1) (z:=[.nil 6]) ha (by omega) (by omega) rfl,Int.toNat_natCast,List.map_replicate]
 rfl
theorem zi1 {α:Type} {f:α→List Dt} {l:List α} {x y:α} {sz j n:Nat} {m:Int} {a b:Atom} {vs:List Atom} {ds:List Dt} (hm:m.toNat=n) (ha:a.val E=some (.l sz (l.map f))) (hb:b.val E=some (I m)) (hv:vals E vs=some ds) (h0:0≤m) (hs:j+ds.length≤sz) (hx:l[n]? = some x) (hy:z6z (f x) j ds=f y):denX sp E (.set a b j vs)=some (.l sz ((l.set n y).map f)):=by
 subst hm
 exact z055 ha hb hv h0 hs hx hy
end
theorem zcl {α:Type} {l:List α} {i:Nat} (d:α) (h:i<l.length):l[i]? = some (l.getD i d):=by
 rw [List.getD_eq_getElem?_getD,List.getElem?_eq_getElem h]
 rfl
def zl4 (b:Block) (ns:List Int) (us:List Undo) (l:List Coin):Nat→List Coin × Int
 | 0=>(l,0)
 | i+1=>if (z6h l (b.txs.getD (i+1) zTx) (ns.getD (i+1) 0) (us.getD (i+1) ⟨[]⟩).spent).2≠0 then ([],(z6h l (b.txs.getD (i+1) zTx) (ns.getD (i+1) 0) (us.getD (i+1) ⟨[]⟩).spent).2) else
  zl4 b ns us (z6h l (b.txs.getD (i+1) zTx) (ns.getD (i+1) 0) (us.getD (i+1) ⟨[]⟩).spent).1 i
def z02q (k:Book) (l:List Coin) (b:Block) (us:List Undo):List Coin × Int :=
 if zq l≠0 then ([],zq l) else
 if (z05 k b).2.2.2≠0 then ([],(z05 k b).2.2.2) else
 if (us.length:Int)≠b.txs.length then ([],4) else
 if (z6h l (b.txs.getD 0 zTx) ((z05 k b).2.2.1.getD 0 0) (us.getD 0 ⟨[]⟩).spent).2≠0 then ([],(z6h l (b.txs.getD 0 zTx) ((z05 k b).2.2.1.getD 0 0) (us.getD 0 ⟨[]⟩).spent).2) else
 zl4 b (z05 k b).2.2.1 us (z6h l (b.txs.getD 0 zTx) ((z05 k b).2.2.1.getD 0 0) (us.getD 0 ⟨[]⟩).spent).1 (b.txs.length - 1)
noncomputable def z5c:za:=spD (fun _:Book × List Coin × Block=>True) fun x=>z2d x.1 x.2.1 x.2.2
theorem zjc (k:Book) (l:List Coin) (b:Block):z5c [.l 1 (k.texts.map z0e),.l 6 (l.map zr),I b.parent,I b.height,I b.work,I b.nonce,.l 3 (b.txs.map eTx)]=some [.l 6 ((z2d k l b).1.map zr),.l 1 ((z2d k l b).2.1.map zb7),I (z2d k l b).2.2]:=zp (f:=fun x:Book × List Coin × Block=>z2d x.1 x.2.1 x.2.2) (k,l,b) trivial
def z6i (us:List Undo):Prop:=∀ u ∈ us,z4z u.spent
theorem z06d:z4z []:=⟨by simp,by simp⟩
theorem zwh (n:Int):0≤z0u n∧z0u n≤1000:=by
 have h:=zh0 n
 exact h
attribute [local irreducible] den denX z19 z1z
attribute [local irreducible] z0k spD zu z6h z1p z05 zq z0u
def zmq:T :=
 .lets [.call 13 [.v 35,.v 36,.v 37,.v 38] 0] [] (.lets [.bin .add (.v 22) (.v 39)] [] (.lets [.bin .add (.v 23) (.c (.i .i64 1))] [] (.again 0 [.v 30,.v 19,.v 33,.v 32,.v 40,
 .v 41])))
def zmr:T :=
 .lets [.idx (.v 6) (.v 23) 0,.idx (.v 6) (.v 23) 1,.idx (.v 6) (.v 23) 2] [] (.lets [] [.inr 1 (.v 33) (.v 23)] (.lets [.idx (.v 33) (.v 23) 0] [] zmq))
def zms:T :=
 .lets [.set (.v 20) (.v 23) 0 [.v 31]] [] (.lets [.bin .neq (.v 32) (.c (.i .i64 0))] [] (.ite (.v 34) (.ret [.c (.nil 6),.c (.nil 1),.v 32]) (.lets [] [.inr 3 (.v 6) (.v 23)]
 zmr)))
def zmt:T :=
 .lets [.call 18 [.v 18,.v 26,.v 27,.v 28,.v 29,.v 3] 0,.call 18 [.v 18,.v 26,.v 27,.v 28,.v 29,.v 3] 1,.call 18 [.v 18,.v 26,.v 27,.v 28,.v 29,.v 3] 2] [] (.lets []
 [.inr 1 (.v 20) (.v 23)] zms)
def zmu:T :=
 .lets [.idx (.v 6) (.v 23) 0,.idx (.v 6) (.v 23) 1,.idx (.v 6) (.v 23) 2] [] (.lets [] [.inr 1 (.v 11) (.v 23)] (.lets [.idx (.v 11) (.v 23) 0] [] zmt))
def zmv:T :=
 .lets [.set (.v 20) (.c (.i .i64 0)) 0 [.v 37]] [] (.lets [.bin .neq (.v 38) (.c (.i .i64 0))] [] (.ite (.v 40) (.ret [.c (.nil 6),.c (.nil 1),.v 38]) (.ret [.v 36,.v 39,.c (.i
 .i64 0)])))
def zmw:T :=
 .lets [.call 18 [.v 18,.v 32,.v 33,.v 34,.v 35,.v 3] 0,.call 18 [.v 18,.v 32,.v 33,.v 34,.v 35,.v 3] 1,.call 18 [.v 18,.v 32,.v 33,.v 34,.v 35,.v 3] 2] [] (.lets []
 [.inr 1 (.v 20) (.c (.i .i64 0))] zmv)
def zmx:T :=
 .lets [.idx (.v 6) (.c (.i .i64 0)) 0,.idx (.v 6) (.c (.i .i64 0)) 1,.idx (.v 6) (.c (.i .i64 0)) 2] [] (.lets [] [.inr 1 (.v 11) (.c (.i .i64 0))] (.lets [.idx (.v 11) (.c (.i
 .i64 0)) 0] [] zmw))
def zmy:T :=
 .lets [.neg (.v 29)] [] (.lets [.bin .gtr (.v 30) (.v 22)] [] (.ite (.v 31) (.ret [.c (.nil 6),.c (.nil 1),.c (.i .i64 9)]) (.lets [] [.inr 3 (.v 6) (.c (.i .i64 0))]
 zmx)))
def zmz:T :=
 .lets [.idx (.v 6) (.c (.i .i64 0)) 0,.idx (.v 6) (.c (.i .i64 0)) 1,.idx (.v 6) (.c (.i .i64 0)) 2] [] (.lets [.call 13 [.v 26,.v 27,.v 28,.c (.nil 6)] 0] [] zmy)
def zl5:T :=
 .lets [.len (.v 6)] [] (.lets [.bin .lss (.v 23) (.v 24)] [] (.ite (.v 25) (.lets [] [.inr 3 (.v 6) (.v 23)] zmu) (.lets [] [.inr 3 (.v 6) (.c (.i .i64 0))]
 zmz)))
def zl6:T :=
 .lets [.call 74 [.v 3] 0,.call 74 [.v 3] 1] [] (.lets [.len (.v 6)] [] (.lets [.mkz 1 [.nil 6] (.v 16)] [] (.loop [.v 1,.c (.nil 6),.v 17,.v 12,.v 14,.c (.i .i64 1)]
 zl5)))
def zl7:T :=
 .lets [.call 73 [.v 0,.v 2,.v 3,.v 4,.v 5,.v 6] 0,.call 73 [.v 0,.v 2,.v 3,.v 4,.v 5,.v 6] 1,.call 73 [.v 0,.v 2,.v 3,.v 4,.v 5,.v 6] 2,.call 73 [.v 0,.v 2,.v 3,
 .v 4,.v 5,.v 6] 3] [] (.lets [.bin .neq (.v 12) (.c (.i .i64 0))] [] (.ite (.v 13) (.ret [.c (.nil 6),.c (.nil 1),.v 12]) zl6))
def zcm:T :=
 .lets [.call 8 [.v 1] 0] [] (.lets [.bin .neq (.v 7) (.c (.i .i64 0))] [] (.ite (.v 8) (.ret [.c (.nil 6),.c (.nil 1),.v 7]) zl7))
attribute [local irreducible] z48 z3t z5i z20 z5p
theorem zwi:Meets Tryz.prog z5c 51 ⟨[.agg 1,.one,.agg 5],[(false,[.pure]),(false,[.pure]),(false,[.scal])],false⟩:=by
 refine z04 (sp:=(z0z [(8,z20),(13,z5p),(18,z5i),(73,z48),(74,z3t)])) (sigs:=z1c) (cut:=[]) (hints:=[⟨10,[.t 1,.r 6 120 6,.r 7 184 1,.t 8,.t 13,.t 15,.z 41]⟩]) (fn:=Tryz.f51) (t:=zcm) (by kernel_rfl) (by kernel_rfl) (by kernel_rfl) ?_ ?_
 ·exact (z0o (L:=[(8,z20),(13,z5p),(18,z5i),(73,z48),(74,z3t)]) ⟨z9 rfl zal,z9 rfl zmk,z9 rfl zod,z9 rfl zl0,z9 rfl zh1,trivial⟩)
 ·rintro ds rs hok h
  obtain ⟨⟨k,l,b⟩,-,rfl,rfl⟩:=z02 h
  clear h
  refine ⟨⟨100,?_⟩,z3s ⟨rfl,trivial⟩⟩
  show den _ _ zcm [.l 1 (k.texts.map z0e),.l 6 (l.map zr),I b.parent,I b.height,I b.work,I b.nonce,.l 3 (b.txs.map eTx)] []=ret (z2d k l b)
  have a1:=z4p l
  have a2:=zeg k b
  have a3:=zcj b.height
  have hnm:=zl3 (k:=k) (b:=b)
  have hrw:0≤z0u b.height∧z0u b.height≤1000:=zwh b.height
  unfold zcm z2d
  generalize z05 k b=nm at *
  obtain ⟨tx,n0,ns,e⟩:=nm
  generalize z0u b.height=rw0 at *
  simp only at *
  by_cases hc:zq l=0
  rotate_left
  ·repeat' (first|refine dq1 ?_|refine dqk rfl (a1) ?_|exact z8 rfl rfl|refine tR (fun h=>?_) fun h=>?_|fail)
   all_goals (exfalso;omega)
  by_cases he:e=0
  rotate_left
  ·repeat' (first|refine dq1 ?_|refine dqk rfl (a1) ?_|refine dqK rfl (a2) ?_|exact z8 rfl rfl|refine tR (fun h=>?_) fun h=>?_|fail)
   all_goals (exfalso;omega)
  obtain ⟨hb,hnl⟩:=hnm he
  have ok:=z5o hb
  have hl4:=ok.len
  have hl1:=ok.some
  subst he
  repeat' (first|refine dq1 ?_|refine dqk rfl (a1) ?_|refine dqK rfl (a2) ?_|refine dqK rfl (a3) ?_|refine zd (z08r rfl (by omega)) ?_|exact z8 rfl rfl|refine tR (fun h=>?_) fun h=>?_|fail)
  have hdl:(b.txs.drop 1).length=b.txs.length - 1:=by simp
  (refine z14 (fun (a:List Coin × List Undo × Int) k=>[.l 6 (a.1.map zr),.l 6 [],.l 1 (a.2.1.map zb7),I 0,I a.2.2,I (k+1)]) (fun (a:List Coin × List Undo × Int) k (r:List Tx)=>z6o b ns a.1 a.2.1 a.2.2 (k+1) r) (fun a k=>a.2.1.length=b.txs.length ∧ -(10000000000 * ((k:Int)+1))≤a.2.2∧a.2.2≤10000000000 * ((k:Int)+1)) (l,List.replicate b.txs.length ⟨[]⟩,rw0) (b.txs.drop 1) ?_ ?_ ?_ ?_ ?_;rfl;exact ⟨by simp,by simp only;omega,by simp only;omega⟩;omega)
  ·rintro ⟨l,us,most⟩ i x r hx hd hk ⟨hu,m1,m2⟩ again hag
   simp only at hu m1 m2 hag ⊢
   have hx':b.txs[((i:Int)+1).toNat]? = some x:=by
    rw [show ((i:Int)+1).toNat=1+i by omega,← List.getElem?_drop];exact hx
   have hn':ns[((i:Int)+1).toNat]? = some (ns.getD (i+1) 0):=by
    rw [show ((i:Int)+1).toNat=i+1 by omega];exact zcl 0 (by omega)
   have hu':us[i+1]? = some (us.getD (i+1) ⟨[]⟩):=zcl _ (by omega)
   rw [z6o]
   have a4:=zb0 l x (ns.getD (i+1) 0) b.height
   have hfee:=zh5 (l:=l) (t:=x) (nm:=ns.getD (i+1) 0) (h:=b.height)
   generalize ns.getD (i+1) 0=nm at *
   generalize us.getD (i+1) ⟨[]⟩=u0 at *
   generalize zu l x nm b.height=q at *
   obtain ⟨l2,sp,f⟩:=q
   simp only at a4 hfee ⊢
   by_cases hf:f=0
   ·obtain ⟨hd1,hd2,hd3⟩:=hfee hf
    subst hf
    rw [if_neg (fun h=>h rfl)]
    have a5:=zad x sp hd1
    have hs1:(us.set (i+1) (⟨sp⟩:Undo))[((i:Int)+1).toNat]? = some ⟨sp⟩:=by
     rw [show ((i:Int)+1).toNat=i+1 by omega];exact List.getElem?_set_self (by omega)
    have hsl:(us.set (i+1) (⟨sp⟩:Undo)).length=us.length:=List.length_set ..
    generalize z1p x sp=fe at *
    repeat' (first|refine dq1 ?_|refine dqc ?_|refine dqm ?_|refine dqK rfl (a4) ?_|refine dqk rfl (a5) ?_|refine zd (zi1 (n:=i+1) (x:=u0) (y:=⟨sp⟩) (by omega) rfl rfl rfl (by omega) (Nat.le_refl _) hu' rfl) ?_|refine dqT ?_|refine dqF ?_|fail)
    exact z09 rfl rfl (hag (l2,us.set (i+1) ⟨sp⟩,most+fe) ⟨by simpa using hu,by simp only;omega,by simp only;omega⟩)
   ·rw [if_pos hf]
    repeat' (first|refine dq1 ?_|refine dqc ?_|refine dqm ?_|refine dqK rfl (a4) ?_|refine zd (zi1 (n:=i+1) (x:=u0) (y:=⟨sp⟩) (by omega) rfl rfl rfl (by omega) (Nat.le_refl _) hu' rfl) ?_|exact z8 rfl rfl|refine dqT ?_|fail)
  ·rintro ⟨l,us,most⟩ ⟨hu,m1,m2⟩ again
   simp only at hu m1 m2 ⊢
   have ht0:b.txs[(0:Int).toNat]? = some (b.txs.getD 0 zTx):=zcl _ hl1
   have hn0:ns[(0:Int).toNat]? = some (ns.getD 0 0):=zcl _ (by omega)
   have hu0:us[0]? = some (us.getD 0 ⟨[]⟩):=zcl _ (by omega)
   have e0:z6o b ns l us most ((b.txs.drop 1).length+1) []=zbv b ns l us most:=by rw [z6o]
   rw [e0]
   unfold zbv
   have hct:=ok.each (b.txs.getD 0 zTx) (List.mem_of_getElem? ht0)
   obtain ⟨f1,f2⟩:=z0b8 hct
   have a5:=zad (b.txs.getD 0 zTx) [] (z08q hct)
   have a4:=zb0 l (b.txs.getD 0 zTx) (ns.getD 0 0) b.height
   generalize b.txs.getD 0 zTx=t0 at *
   generalize ns.getD 0 0=nm at *
   generalize us.getD 0 ⟨[]⟩=u0 at *
   generalize z1p t0 []=fe at *
   generalize zu l t0 nm b.height=q at *
   obtain ⟨l2,sp,f⟩:=q
   simp only at a4 ⊢
   repeat' (first|refine dq1 ?_|refine dqc ?_|refine dqm ?_|refine dqK rfl (a4) ?_|refine dqk rfl (a5) ?_|refine zd (zi1 (n:=0) (x:=u0) (y:=⟨sp⟩) rfl rfl rfl rfl (by omega) (Nat.le_refl _) hu0 rfl) ?_|exact z8 rfl rfl|refine tR (fun h=>?_) fun h=>?_|refine dqF ?_|fail)
end
section
open Go.RowKit
open Go.Lib (itoa)
set_option maxRecDepth 100000
set_option maxHeartbeats 4000000
def z2t (k:Book) (t:Tree) (n:Int):List Int × Int:=if zf k≠0 then ([],zf k) else z3v t n
def z1e (k:Book) (t:Tree):List Coin→List Int→List Coin × Int
 | l,[]=>(l,0)
 | l,n::r=>if (z2d k l (z0w t n)).2.2≠0 then ([],(z2d k l (z0w t n)).2.2) else z1e k t (z2d k l (z0w t n)).1 r
def zx (k:Book) (t:Tree) (n:Int):List Coin × Int:=if (z2t k t n).2≠0 then ([],(z2t k t n).2) else z1e k t [] (z2t k t n).1
def z09c:List Int→List Int→Nat
 | a::x,b::y=>if a=b then z09c x y+1 else 0
 | _,_=>0
theorem zl8 (n:Nat):z6i (List.replicate n ⟨[]⟩):=fun u hu=>by
 rw [(List.mem_replicate.1 hu).2]
 exact z06d
theorem zoe {us:List Undo} (h:z6i us) {s:List Coin} (hs:z4z s) (i:Nat):z6i (us.set i ⟨s⟩):=fun u hu=>by
 rcases List.mem_or_eq_of_mem_set hu with hu|rfl
 ·exact h u hu
 ·exact hs
theorem zik {l:List Coin} {t:Tx} {nm h:Int} (h0:(zu l t nm h).2.2=0):z4z (zu l t nm h).2.1:=(z9o h0).choose_spec.short
theorem zh6 (b:Block) (ns:List Int):∀ (r:List Tx) (l:List Coin) (us:List Undo) (most:Int) (i:Nat),z6i us→z6i (z6o b ns l us most i r).2.1
 | [],l,us,most,i,h=>by
  rw [z6o]
  unfold zbv
  split
  ·exact fun u hu=>by cases hu
  split
  ·exact fun u hu=>by cases hu
  ·rename_i h1
   exact zoe h (zik (Decidable.not_not.1 h1)) 0
 | t::r,l,us,most,i,h=>by
  rw [z6o]
  split
  ·exact fun u hu=>by cases hu
  ·rename_i h1
   exact zh6 b ns r _ _ _ _ (zoe h (zik (Decidable.not_not.1 h1)) i)
theorem zwj (k:Book) (l:List Coin) (b:Block):z6i (z2d k l b).2.1:=by
 unfold z2d
 split
 ·exact fun u hu=>by cases hu
 split
 ·exact fun u hu=>by cases hu
 ·exact zh6 _ _ _ _ _ _ _ (zl8 _)
section
variable {α:Type} {f:α→List Dt} {sp:Nat→za} {E:Env}
end
attribute [local irreducible] den denX z19 z1z
attribute [local irreducible] z0k spD z2d z02q z0w z3v zf z09c
noncomputable def zbi:za:=spD (fun _:Book × Tree × Int=>True) fun x=>z2t x.1 x.2.1 x.2.2
theorem zpw (k:Book) (t:Tree) (n:Int):zbi [.l 1 (k.texts.map z0e),.l 1 (t.names.map z03),.l 5 (t.blocks.map z0b),I n]=some [.l 1 ((z2t k t n).1.map z03),I (z2t k t n).2]:=zp (f:=fun x:Book × Tree × Int=>z2t x.1 x.2.1 x.2.2) (k,t,n) trivial
noncomputable def zbj:za:=spD (fun _:Book × Tree × List Coin × List Int=>True) fun x=>z1e x.1 x.2.1 x.2.2.1 x.2.2.2
theorem zpx (k:Book) (t:Tree) (l:List Coin) (r:List Int):zbj [.l 1 (k.texts.map z0e),.l 1 (t.names.map z03),.l 5 (t.blocks.map z0b),.l 6 (l.map zr),.l 1 (r.map z03)]=some [.l 6 ((z1e k t l r).1.map zr),I (z1e k t l r).2]:=zp (f:=fun x:Book × Tree × List Coin × List Int=>z1e x.1 x.2.1 x.2.2.1 x.2.2.2) (k,t,l,r) trivial
noncomputable def z2l:za:=spD (fun _:Book × Tree × Int=>True) fun x=>zx x.1 x.2.1 x.2.2
theorem z6p (k:Book) (t:Tree) (n:Int):z2l [.l 1 (k.texts.map z0e),.l 1 (t.names.map z03),.l 5 (t.blocks.map z0b),I n]=some [.l 6 ((zx k t n).1.map zr),I (zx k t n).2]:=zp (f:=fun x:Book × Tree × Int=>zx x.1 x.2.1 x.2.2) (k,t,n) trivial
def zz0:T :=
 .lets [.bin .neq (.v 4) (.c (.i .i64 0))] [] (.ite (.v 5) (.ret [.c (.nil 1),.v 4]) (.lets [.call 88 [.v 1,.v 2,.v 3] 0,.call 88 [.v 1,.v 2,.v 3] 1] [] (.ret [.v 6,.v 7])))
def zh7:T :=
 .lets [.call 70 [.v 0] 0] [] zz0
def zz1:T :=
 .lets [.bin .neq (.v 20) (.c (.i .i64 0))] [] (.ite (.v 21) (.ret [.c (.nil 6),.v 20]) (.lets [.bin .add (.v 9) (.c (.i .i64 1))] [] (.again 0 [.v 6,.v 7,.v 18,.v 22])))
def zz2:T :=
 .lets [.call 75 [.v 0,.v 8,.v 12,.v 13,.v 14,.v 15,.v 16] 0,.call 75 [.v 0,.v 8,.v 12,.v 13,.v 14,.v 15,.v 16] 1,.call 75 [.v 0,.v 8,.v 12,.v 13,.v 14,.v 15,.v
 16] 2] [] zz1
def zz3:T :=
 .lets [.call 89 [.v 1,.v 2,.v 11] 0,.call 89 [.v 1,.v 2,.v 11] 1,.call 89 [.v 1,.v 2,.v 11] 2,.call 89 [.v 1,.v 2,.v 11] 3,.call 89 [.v 1,.v 2,.v 11] 4,.call 89 [.v
 1,.v 2,.v 11] 5] [] zz2
def zz4:T :=
 .loop [.c (.nil 6),.c (.i .i64 0),.v 3,.c (.i .i64 0)] (.lets [.bin .lss (.v 9) (.v 5)] [] (.ite (.v 10) (.lets [] [.inr 1 (.v 4) (.v 9)] (.lets [.idx (.v 4) (.v 9) 0] []
 zz3)) (.ret [.v 8,.c (.i .i64 0)])))
def zh8:T :=
 .lets [.len (.v 4)] [] zz4
def zz5:T :=
 .ite (.v 6) (.ret [.c (.nil 6),.v 5]) (.lets [.call 95 [.v 0,.v 1,.v 2,.c (.nil 6),.v 4] 0,.call 95 [.v 0,.v 1,.v 2,.c (.nil 6),.v 4] 1] [] (.ret [.v 7,.v 8]))
def zh9:T :=
 .lets [.call 94 [.v 0,.v 1,.v 2,.v 3] 0,.call 94 [.v 0,.v 1,.v 2,.v 3] 1] [] (.lets [.bin .neq (.v 5) (.c (.i .i64 0))] [] zz5)
attribute [local irreducible] z1t z83
theorem z06e:Meets Tryz.prog zbi 131 ⟨[.agg 1,.agg 2,.one],[(false,[.pure]),(false,[.scal])],false⟩:=by
 refine z04 (sp:=(z0z [(70,z1t),(88,z83)])) (sigs:=z1c) (cut:=[]) (hints:=[]) (fn:=Tryz.f131) (t:=zh7) (by kernel_rfl) (by kernel_rfl) (by kernel_rfl) ?_ ?_
 ·exact (z0o (L:=[(70,z1t),(88,z83)]) ⟨z9 rfl zdm,z9 rfl z02n,trivial⟩)
 ·rintro ds rs - h
  obtain ⟨⟨k,t,n⟩,-,rfl,rfl⟩:=z02 h
  clear h
  refine ⟨⟨1,?_⟩,z3s ⟨rfl,trivial⟩⟩
  show den _ _ zh7 [.l 1 (k.texts.map z0e),.l 1 (t.names.map z03),.l 5 (t.blocks.map z0b),I n] []=ret (z2t k t n)
  unfold zh7 z2t
  repeat' (first|refine dq1 ?_|refine dqk rfl (z9i k) ?_|refine dqK rfl (zmo t n) ?_|exact z8 rfl rfl|refine tR (fun h=>?_) fun h=>?_|fail)
attribute [local irreducible] z5c z2b
theorem z06f:Meets Tryz.prog zbj 132 ⟨[.agg 1,.agg 2,.one,.one],[(false,[.pure]),(false,[.scal])],false⟩:=by
 refine z04 (sp:=(z0z [(75,z5c),(89,z2b)])) (sigs:=z1c) (cut:=[]) (hints:=[⟨2,[.r 8 120 6,.t 9,.t 2,.t 19]⟩]) (fn:=Tryz.f132) (t:=zh8) (by kernel_rfl) (by kernel_rfl) (by kernel_rfl) ?_ ?_
 ·exact (z0o (L:=[(75,z5c),(89,z2b)]) ⟨z9 rfl zwi,z9 rfl zdn,trivial⟩)
 ·rintro ds rs hok h
  obtain ⟨⟨k,t,l,r⟩,-,rfl,rfl⟩:=z02 h
  clear h
  have hll:=ok_l (hok (.l 1 (r.map z03)) (List.mem_append_right _ (List.mem_append_right _ (List.mem_append_right _ (List.mem_singleton.2 rfl)))))
  refine ⟨⟨r.length+1,?_⟩,z3s ⟨rfl,trivial⟩⟩
  show den _ _ zh8 [.l 1 (k.texts.map z0e),.l 1 (t.names.map z03),.l 5 (t.blocks.map z0b),.l 6 (l.map zr),.l 1 (r.map z03)] []=ret (z1e k t l r)
  unfold zh8
  repeat' (first|refine dq1 ?_|fail)
  (refine z14 (fun (l:List Coin) k=>[.l 6 [],I 0,.l 6 (l.map zr),I k]) (fun (l:List Coin) _ (r:List Int)=>z1e k t l r) (fun _ _=>True) l r ?_ ?_ ?_ ?_ ?_;rfl;exact trivial;omega)
  ·rintro l i n r hx hd hk - again hag
   have a1:=z9k t n
   have a2:=zjc k l (z0w t n)
   rw [z1e]
   have hag':=hag (z2d k l (z0w t n)).1 trivial
   generalize z2d k l (z0w t n)=q at *
   obtain ⟨l2,us,e⟩:=q
   generalize z0w t n=b at *
   simp only at *
   repeat' (first|refine dq1 ?_|refine dqc ?_|refine dqK rfl (a1) ?_|refine dqK rfl (a2) ?_|exact z8 rfl rfl|refine tR (fun h=>?_) fun h=>?_|refine dqT ?_|fail)
   exact z09 rfl rfl hag'
  ·rintro l - again
   rw [z1e]
   repeat' (first|refine dq1 ?_|exact z8 rfl rfl|refine dqF ?_|fail)
theorem zd6:Meets Tryz.prog z2l 64 ⟨[.agg 1,.agg 2,.one],[(false,[.pure]),(false,[.scal])],false⟩:=by
 refine z04 (sp:=(z0z [(94,zbi),(95,zbj)])) (sigs:=z1c) (cut:=[]) (hints:=[]) (fn:=Tryz.f64) (t:=zh9) (by kernel_rfl) (by kernel_rfl) (by kernel_rfl) ?_ ?_
 ·exact (z0o (L:=[(94,zbi),(95,zbj)]) ⟨z9 rfl z06e,z9 rfl z06f,trivial⟩)
 ·rintro ds rs - h
  obtain ⟨⟨k,t,n⟩,-,rfl,rfl⟩:=z02 h
  clear h
  refine ⟨⟨1,?_⟩,z3s ⟨rfl,trivial⟩⟩
  show den _ _ zh9 [.l 1 (k.texts.map z0e),.l 1 (t.names.map z03),.l 5 (t.blocks.map z0b),I n] []=ret (zx k t n)
  have a1:=zpw k t n
  have a2:=zpx k t [] (z2t k t n).1
  unfold zh9 zx
  generalize z2t k t n=q at *
  obtain ⟨r,e⟩:=q
  simp only at *
  repeat' (first|refine dq1 ?_|refine dqK rfl (a1) ?_|refine dqK rfl (a2) ?_|exact z8 rfl rfl|refine tR (fun h=>?_) fun h=>?_|fail)
end
section
open Go.RowKit
open Go.Lib (itoa)
set_option maxRecDepth 100000
set_option maxHeartbeats 4000000
attribute [local irreducible] den denX z19 z1z
attribute [local irreducible] z0k spD
attribute [local irreducible] zo7
deriving instance DecidableEq for Undo
attribute [local irreducible] z0l z05 z2d z30 z48 z5c
attribute [local irreducible] z05q
end
section
open Go.RowKit
open Go.Lib (itoa)
set_option maxRecDepth 100000
set_option maxHeartbeats 4000000
def z21 (x:List (List UInt8)) (l:List Coin) (t:Tx) (h:Int):List (List UInt8) × List Coin × Int × Int :=
 if (zo t).2≠0 then (x,[],0,(zo t).2) else if (t.ins.length:Int)=0 then (x,[],0,4) else
 if z2n ⟨x⟩ (zo t).1≠0 then (x,[],0,z2n ⟨x⟩ (zo t).1) else
 if (zu l t (z1b ⟨x⟩ (zo t).1) h).2.2≠0 then (x,[],0,(zu l t (z1b ⟨x⟩ (zo t).1) h).2.2) else
 (z55 ⟨x⟩ (zo t).1,(zu l t (z1b ⟨x⟩ (zo t).1) h).1,z1p t (zu l t (z1b ⟨x⟩ (zo t).1) h).2.1,0)
abbrev z09d:=List (List UInt8) × List Tx × List Coin × Int × Int
structure Sw where
 x:List (List UInt8)
 s:List Tx
 m:List Coin
 f:Int
def z63 (h:Int):Sw→List Tx→z09d
 | a,[]=>(a.x,a.s,a.m,a.f,0)
 | a,t::r=>if (z21 a.x a.m t h).2.2.2≠0 then z63 h a r else
  z63 h ⟨(z21 a.x a.m t h).1,a.s++[t],(z21 a.x a.m t h).2.1,a.f+(z21 a.x a.m t h).2.2.1⟩ r
def z0i (k:Book) (l:List Coin) (p:List Tx) (h:Int):z09d :=
 if zf k≠0 then ([],[],[],0,zf k) else if zq l≠0 then ([],[],[],0,zq l) else
 if h<1 then ([],[],[],0,3) else if h > 1000 then ([],[],[],0,3) else if (p.length:Int) > 8 then ([],[],[],0,2) else
 z63 h ⟨k.texts,[],l,0⟩ p
def z00q (parent height work nonce:Int) (lk:List Op) (s:List Tx) (f:Int):Block × Int :=
 if z42 height≠0 then (z6n,z42 height) else if z0u height+f=0 then (z6n,9) else
 if zh ⟨parent,height,work,nonce,⟨height,[],[⟨z0u height+f,lk⟩]⟩::s⟩≠0 then (z6n,zh ⟨parent,height,work,nonce,⟨height,[],[⟨z0u height+f,lk⟩]⟩::s⟩) else
 (⟨parent,height,work,nonce,⟨height,[],[⟨z0u height+f,lk⟩]⟩::s⟩,0)
def z3k (k:Book) (l:List Coin) (p:List Tx) (parent height work nonce:Int) (lk:List Op):Block × Int :=
 if (z0i k l p (height+1)).2.2.2.2≠0 then (z6n,(z0i k l p (height+1)).2.2.2.2) else
 if (z0i k l ((z0i k l p (height+1)).2.1.take 3) (height+1)).2.2.2.2≠0 then (z6n,(z0i k l ((z0i k l p (height+1)).2.1.take 3) (height+1)).2.2.2.2) else
 z00q parent (height+1) work nonce lk (z0i k l ((z0i k l p (height+1)).2.1.take 3) (height+1)).2.1 (z0i k l ((z0i k l p (height+1)).2.1.take 3) (height+1)).2.2.2.1
theorem z06g {x:List (List UInt8)} {l:List Coin} {t:Tx} {h:Int} (h0:(z21 x l t h).2.2.2=0) :
  zi t=0∧t.ins.length≠0∧z2n ⟨x⟩ (z3b t)=0∧(zu l t (z1b ⟨x⟩ (z3b t)) h).2.2=0∧z21 x l t h=(z55 ⟨x⟩ (z3b t),(zu l t (z1b ⟨x⟩ (z3b t)) h).1,z1p t (zu l t (z1b ⟨x⟩ (z3b t)) h).2.1,0):=by
 by_cases hc:zi t=0
 rotate_left
 ·have e:zo t=([],zi t):=by unfold zo;exact if_pos hc
  unfold z21 at h0
  rw [e,if_pos hc] at h0
  exact absurd h0 hc
 unfold z21 at h0 ⊢
 rw [zkt hc,if_neg (fun k=>k rfl)] at h0 ⊢
 by_cases hi:(t.ins.length:Int)=0
 ·rw [if_pos hi] at h0
  exact absurd h0 (by show ¬ (4:Int)=0;decide)
 rw [if_neg hi] at h0 ⊢
 by_cases hn:z2n ⟨x⟩ (z3b t)=0
 rotate_left
 ·rw [if_pos hn] at h0
  exact absurd h0 hn
 rw [if_neg (fun k=>k hn)] at h0 ⊢
 by_cases ha:(zu l t (z1b ⟨x⟩ (z3b t)) h).2.2=0
 rotate_left
 ·rw [if_pos ha] at h0
  exact absurd h0 ha
 rw [if_neg (fun k=>k ha)]
 exact ⟨hc,by omega,hn,ha,rfl⟩
theorem z00r {x:List (List UInt8)} {l:List Coin} {t:Tx} {h:Int} (h0:(z21 x l t h).2.2.2=0) : -10000000000≤(z21 x l t h).2.2.1∧(z21 x l t h).2.2.1≤10000000000:=by
 obtain ⟨-,-,-,h4,h5⟩:=z06g h0
 rw [h5]
 exact (zh5 h4).2
theorem zfk (h:Int):∀ (r:List Tx) (a:Sw) (n:Nat),a.s.length≤n → -10000000000 * (n:Int)≤a.f→a.f≤10000000000 * (n:Int)→(z63 h a r).2.1.length≤n+r.length ∧ -10000000000 * ((n:Int)+r.length)≤(z63 h a r).2.2.2.1∧(z63 h a r).2.2.2.1≤10000000000 * ((n:Int)+r.length)
 | [],a,n,h1,h2,h3=>by
  rw [z63]
  simp only [List.length_nil]
  omega
 | t::r,a,n,h1,h2,h3=>by
  rw [z63]
  by_cases he:(z21 a.x a.m t h).2.2.2=0
  ·rw [if_neg (fun k=>k he)]
   have hf:=z00r he
   have:=zfk h r ⟨(z21 a.x a.m t h).1,a.s++[t],(z21 a.x a.m t h).2.1,a.f+(z21 a.x a.m t h).2.2.1⟩ (n+1) (by simp;omega) (by simp only;omega) (by simp only;omega)
   simp only [List.length_cons]
   omega
  ·rw [if_pos he]
   have:=zfk h r a n h1 h2 h3
   simp only [List.length_cons]
   omega
theorem zfl (k:Book) (l:List Coin) (p:List Tx) (h:Int):(z0i k l p h).2.1.length≤8 ∧ -80000000000≤(z0i k l p h).2.2.2.1∧(z0i k l p h).2.2.2.1≤80000000000:=by
 unfold z0i
 split
 ·exact ⟨by simp,by simp,by simp⟩
 split
 ·exact ⟨by simp,by simp,by simp⟩
 split
 ·exact ⟨by simp,by simp,by simp⟩
 split
 ·exact ⟨by simp,by simp,by simp⟩
 split
 ·exact ⟨by simp,by simp,by simp⟩
 ·rename_i h5
  have:=zfk h p ⟨k.texts,[],l,0⟩ 0 (by simp) (by simp) (by simp)
  omega
attribute [local irreducible] z0k spD zo zu z1p z2n z55 z1b zf zq zh z0u z42
attribute [local irreducible] den denX z19 z1z
noncomputable def z9p:za:=spD (fun _:List (List UInt8) × List Coin × Tx × Int=>True) fun x=>z21 x.1 x.2.1 x.2.2.1 x.2.2.2
theorem zpy (x:List (List UInt8)) (l:List Coin) (t:Tx) (h:Int):z9p [.l 1 (x.map z0e),.l 6 (l.map zr),I t.height,.l 3 (t.ins.map eIn),.l 2 (t.outs.map z69),I h]=some [.l 1 ((z21 x l t h).1.map z0e),.l 6 ((z21 x l t h).2.1.map zr),I (z21 x l t h).2.2.1,I (z21 x l t h).2.2.2]:=zp (f:=fun x:List (List UInt8) × List Coin × Tx × Int=>z21 x.1 x.2.1 x.2.2.1 x.2.2.2) (x,l,t,h) trivial
theorem zl9 (x:List (List UInt8)) (s:List UInt8):z6t [.l 1 (x.map z0e),.s s]=some [.l 1 ((z55 ⟨x⟩ s).map z0e),I (z1b ⟨x⟩ s),I (z2n ⟨x⟩ s)]:=zmm ⟨x⟩ s
theorem zjd (x:List (List UInt8)):z1t [.l 1 (x.map z0e)]=some [I (zf ⟨x⟩)]:=z9i ⟨x⟩
def zz6:T :=
 .lets [.bin .neq (.v 17) (.c (.i .i64 0))] [] (.ite (.v 18) (.ret [.v 0,.c (.nil 6),.c (.i .i64 0),.v 17]) (.lets [.call 13 [.v 2,.v 3,.v 4,.v 16] 0] [] (.ret [.v 11,.v 15,
 .v 19,.c (.i .i64 0)])))
def zz7:T :=
 .lets [.call 18 [.v 1,.v 2,.v 3,.v 4,.v 12,.v 5] 0,.call 18 [.v 1,.v 2,.v 3,.v 4,.v 12,.v 5] 1,.call 18 [.v 1,.v 2,.v 3,.v 4,.v 12,.v 5] 2] [] zz6
def zz8:T :=
 .lets [.call 84 [.v 0,.v 6] 0,.call 84 [.v 0,.v 6] 1,.call 84 [.v 0,.v 6] 2] [] (.lets [.bin .neq (.v 13) (.c (.i .i64 0))] [] (.ite (.v 14) (.ret [.v 0,.c (.nil 6),.c (.i
 .i64 0),.v 13]) zz7))
def zz9:T :=
 .ite (.v 8) (.ret [.v 0,.c (.nil 6),.c (.i .i64 0),.v 7]) (.lets [.len (.v 3)] [] (.lets [.bin .eql (.v 9) (.c (.i .i64 0))] [] (.ite (.v 10) (.ret [.v 0,.c (.nil 6),.c (.i
 .i64 0),.c (.i .i64 4)]) zz8)))
def zha:T :=
 .lets [.call 64 [.v 2,.v 3,.v 4] 0,.call 64 [.v 2,.v 3,.v 4] 1] [] (.lets [.bin .neq (.v 7) (.c (.i .i64 0))] [] zz9)
attribute [local irreducible] z6t z34 z5i z5p
theorem z06h:Meets Tryz.prog z9p 143 ⟨[.agg 1,.one,.agg 3,.one],[(true,[.pure]),(false,[.pure]),(false,[.scal]),(false,[.scal])],false⟩:=by
 refine z04 (sp:=(z0z [(13,z5p),(18,z5i),(64,z34),(84,z6t)])) (sigs:=z1c) (cut:=[]) (hints:=[]) (fn:=Tryz.f143) (t:=zha) (by kernel_rfl) (by kernel_rfl) (by kernel_rfl) ?_ ?_
 ·exact (z0o (L:=[(13,z5p),(18,z5i),(64,z34),(84,z6t)]) ⟨z9 rfl zmk,z9 rfl zod,z9 rfl zgw,z9 rfl z02l,trivial⟩)
 ·rintro ds rs - h
  obtain ⟨⟨x,l,t,hh⟩,-,rfl,rfl⟩:=z02 h
  clear h
  refine ⟨⟨1,?_⟩,z3s ⟨rfl,rfl,trivial⟩⟩
  show den _ _ zha [.l 1 (x.map z0e),.l 6 (l.map zr),I t.height,.l 3 (t.ins.map eIn),.l 2 (t.outs.map z69),I hh] []=ret (z21 x l t hh)
  have a1:=za3 t
  have a2:=zl9 x (zo t).1
  have a3:=zb0 l t (z1b ⟨x⟩ (zo t).1) hh
  have a4:=fun h0=>zad t _ (zh5 (l:=l) (t:=t) (nm:=z1b ⟨x⟩ (zo t).1) (h:=hh) h0).1
  unfold zha z21
  generalize zo t=pt at *
  obtain ⟨s,e⟩:=pt
  simp only at *
  generalize z2n ⟨x⟩ s=en at *
  generalize z55 ⟨x⟩ s=xn at *
  generalize z1b ⟨x⟩ s=nm at *
  generalize zu l t nm hh=q at *
  obtain ⟨m,us,ea⟩:=q
  simp only at *
  by_cases hea:ea=0
  ·have a4:=a4 hea
   repeat' (first|refine dq1 ?_|refine dqK rfl (a1) ?_|refine dqK rfl (a2) ?_|refine dqK rfl (a3) ?_|refine dqk rfl (a4) ?_|exact z8 rfl rfl|refine tR (fun h=>?_) fun h=>?_|fail)
  ·clear a4
   repeat' (first|refine dq1 ?_|refine dqK rfl (a1) ?_|refine dqK rfl (a2) ?_|refine dqK rfl (a3) ?_|exact z8 rfl rfl|refine tR (fun h=>?_) fun h=>?_|fail)
   all_goals omega
noncomputable def z31:za:=spD (fun _:List (List UInt8) × List Coin × List Tx × Int=>True) fun x=>z0i ⟨x.1⟩ x.2.1 x.2.2.1 x.2.2.2
theorem z73 (x:List (List UInt8)) (l:List Coin) (p:List Tx) (h:Int):z31 [.l 1 (x.map z0e),.l 6 (l.map zr),.l 3 (p.map eTx),I h]=some [.l 1 ((z0i ⟨x⟩ l p h).1.map z0e),.l 3 ((z0i ⟨x⟩ l p h).2.1.map eTx),.l 6 ((z0i ⟨x⟩ l p h).2.2.1.map zr),I (z0i ⟨x⟩ l p h).2.2.2.1,I (z0i ⟨x⟩ l p h).2.2.2.2]:=zp (f:=fun x:List (List UInt8) × List Coin × List Tx × Int=>z0i ⟨x.1⟩ x.2.1 x.2.2.1 x.2.2.2) (x,l,p,h) trivial
def zpz:T :=
 .lets [.mk 3 [[.v 30,.v 31,.v 32]]] [] (.lets [.app 3 (.v 17) (.v 33)] [] (.lets [.bin .add (.v 18) (.c (.i .i64 1))] [] (.again 0 [.v 25,.v 29,.v 34,.v 35,.v 24])))
def zq0:T :=
 .lets [.bin .add (.v 16) (.v 26)] [] (.lets [.call 91 [.v 21,.v 22,.v 23] 0,.call 91 [.v 21,.v 22,.v 23] 1,.call 91 [.v 21,.v 22,.v 23] 2] [] zpz)
def zq1:T :=
 .lets [.bin .neq (.v 27) (.c (.i .i64 0))] [] (.ite (.v 28) (.lets [.bin .add (.v 18) (.c (.i .i64 1))] [] (.again 0 [.v 15,.v 16,.v 17,.v 29,.v 19])) zq0)
def zq2:T :=
 .lets [.call 97 [.v 19,.v 15,.v 21,.v 22,.v 23,.v 3] 0,.call 97 [.v 19,.v 15,.v 21,.v 22,.v 23,.v 3] 1,.call 97 [.v 19,.v 15,.v 21,.v 22,.v 23,.v 3] 2,.call 97 [.v
 19,.v 15,.v 21,.v 22,.v 23,.v 3] 3] [] zq1
def zq3:T :=
 .ite (.v 20) (.lets [] [.inr 3 (.v 2) (.v 18)] (.lets [.idx (.v 2) (.v 18) 0,.idx (.v 2) (.v 18) 1,.idx (.v 2) (.v 18) 2] [] zq2)) (.ret [.v 19,.v 17,.v 15,.v 16,.c
 (.i .i64 0)])
def zq4:T :=
 .lets [.call 83 [.v 0] 0] [] (.lets [.len (.v 2)] [] (.loop [.v 12,.c (.i .i64 0),.c (.nil 3),.c (.i .i64 0),.v 13] (.lets [.bin .lss (.v 18) (.v 14)] [] zq3)))
def zq5:T :=
 .lets [.bin .gtr (.v 10) (.c (.i .i64 8))] [] (.ite (.v 11) (.ret [.c (.nil 1),.c (.nil 3),.c (.nil 6),.c (.i .i64 0),.c (.i .i64 2)]) (.lets [.call 11 [.v 1] 0] []
 zq4))
def zq6:T :=
 .lets [.bin .gtr (.v 3) (.c (.i .i64 1000))] [] (.ite (.v 9) (.ret [.c (.nil 1),.c (.nil 3),.c (.nil 6),.c (.i .i64 0),.c (.i .i64 3)]) (.lets [.len (.v 2)] [] zq5))
def zq7:T :=
 .ite (.v 7) (.ret [.c (.nil 1),.c (.nil 3),.c (.nil 6),.c (.i .i64 0),.v 6]) (.lets [.bin .lss (.v 3) (.c (.i .i64 1))] [] (.ite (.v 8) (.ret [.c (.nil 1),.c (.nil 3),.c (.nil
 6),.c (.i .i64 0),.c (.i .i64 3)]) zq6))
def zq8:T :=
 .ite (.v 5) (.ret [.c (.nil 1),.c (.nil 3),.c (.nil 6),.c (.i .i64 0),.v 4]) (.lets [.call 8 [.v 1] 0] [] (.lets [.bin .neq (.v 6) (.c (.i .i64 0))] [] zq7))
def zdo:T :=
 .lets [.call 70 [.v 0] 0] [] (.lets [.bin .neq (.v 4) (.c (.i .i64 0))] [] zq8)
attribute [local irreducible] z1t zck z5h z20 z7e
theorem zdp:Meets Tryz.prog z31 75 ⟨[.agg 1,.one,.one,.one],[(true,[.pure]),(false,[.fresh 62 3]),(false,[.pure]),(false,[.scal]),(false,[.scal])],false⟩:=by
 refine z04 (sp:=(z0z [(8,z20),(11,z7e),(70,z1t),(83,zck),(91,z5h),(97,z9p)])) (sigs:=z0dy) (cut:=[]) (hints:=[⟨14,[.t 10,.t 11,.r 9 62 3,.t 52,.o 8]⟩]) (fn:=Tryz.f75) (t:=zdo) (by kernel_rfl) (by kernel_rfl) (by kernel_rfl) ?_ ?_
 ·exact (z0o (L:=[(8,z20),(11,z7e),(70,z1t),(83,zck),(91,z5h),(97,z9p)]) ⟨z9 rfl zal,z9 rfl (znr rfl zv6),z9 rfl zdm,z9 rfl (znr rfl z0b4),z9 rfl zvh,z9 rfl z06h,trivial⟩)
 ·rintro ds rs - h
  obtain ⟨⟨x,l,p,hh⟩,-,rfl,rfl⟩:=z02 h
  clear h
  refine ⟨⟨10,?_⟩,z3s ⟨rfl,rfl,trivial⟩⟩
  show den _ _ zdo [.l 1 (x.map z0e),.l 6 (l.map zr),.l 3 (p.map eTx),I hh] []=ret (z0i ⟨x⟩ l p hh)
  have a1:=zjd x
  have a2:=z4p l
  have a3:=fun h0=>zgy l ((z0q l).1 h0).short
  have a4:=fun h0=>zyp x (by have:=z88 (bk:=⟨x⟩) h0;simp only at this;omega)
  unfold zdo z0i
  generalize zf ⟨x⟩=eb at *
  generalize zq l=ec at *
  by_cases hb:eb=0
  ·by_cases hc:ec=0
   ·have a3:=a3 hc
    have a4:=a4 hb
    repeat' (first|refine dq1 ?_|refine dqk rfl (a1) ?_|refine dqk rfl (a2) ?_|refine dqk rfl (a3) ?_|refine dqk rfl (a4) ?_|exact z8 rfl rfl|refine tR (fun h=>?_) fun h=>?_|fail)
    have hp8:p.length≤8:=by omega
    (refine z14 (fun (a:Sw) k=>[.l 6 (a.m.map zr),I a.f,.l 3 (a.s.map eTx),I k,.l 1 (a.x.map z0e)]) (fun (a:Sw) _ (r:List Tx)=>z63 hh a r) (fun a k=>a.s.length≤k ∧ -10000000000 * (k:Int)≤a.f∧a.f≤10000000000 * (k:Int)) ⟨x,[],l,0⟩ p ?_ ?_ ?_ ?_ ?_;rfl;exact ⟨by simp,by simp,by simp⟩;omega)
    ·rintro ⟨ax,as_,am,af⟩ i t r hx hd hk ⟨h1,h2,h3⟩ again hag
     simp only at h1 h2 h3
     have b1:=zpy ax am t hh
     have b2:=fun h0=>zh2 t (z8d (z06g (x:=ax) (l:=am) (t:=t) (h:=hh) h0).1)
     have b3:=fun h0=>z00r (x:=ax) (l:=am) (t:=t) (h:=hh) h0
     rw [z63]
     simp only
     have hag0:=hag ⟨ax,as_,am,af⟩ ⟨by simp only;omega,by simp only;omega,by simp only;omega⟩
     have hag1:=fun (g0:(z21 ax am t hh).2.2.2=0)=>hag ⟨(z21 ax am t hh).1,as_++[t],(z21 ax am t hh).2.1,af+(z21 ax am t hh).2.2.1⟩ ⟨by simp;omega,by have:=b3 g0;simp only;omega,by have:=b3 g0;simp only;omega⟩
     generalize z21 ax am t hh=q at *
     obtain ⟨qx,qm,qf,qe⟩:=q
     simp only at *
     by_cases hq:qe=0
     ·have b2:=b2 hq
      have b3:=b3 hq
      have hag':=hag1 hq
      clear hag0 hag1
      repeat' (first|refine dq1 ?_|refine dqc ?_|refine dqm ?_|refine dqK rfl (b1) ?_|refine dqK rfl (b2) ?_|refine zd (z6j rfl rfl (by simp)) ?_|refine tR (fun h=>?_) fun h=>?_|refine dqT ?_|fail)
      all_goals first|exact z09 rfl rfl hag'|omega
     ·clear b2 b3 hag1
      have hag':=hag0
      repeat' (first|refine dq1 ?_|refine dqc ?_|refine dqm ?_|refine dqK rfl (b1) ?_|refine tR (fun h=>?_) fun h=>?_|refine dqT ?_|fail)
      all_goals first|exact z09 rfl rfl hag'|omega
    ·rintro ⟨ax,as_,am,af⟩ - again
     rw [z63]
     repeat' (first|refine dq1 ?_|exact z8 rfl rfl|refine dqF ?_|fail)
   ·clear a3 a4
    repeat' (first|refine dq1 ?_|refine dqk rfl (a1) ?_|refine dqk rfl (a2) ?_|exact z8 rfl rfl|refine tR (fun h=>?_) fun h=>?_|fail)
    all_goals omega
  ·clear a3 a4
   repeat' (first|refine dq1 ?_|refine dqk rfl (a1) ?_|refine dqk rfl (a2) ?_|exact z8 rfl rfl|refine tR (fun h=>?_) fun h=>?_|fail)
   all_goals omega
end
section
open Go.RowKit
open Go.Lib (itoa)
set_option maxRecDepth 100000
set_option maxHeartbeats 4000000
attribute [local irreducible] z0k spD z0i z21 zo zu z1p zf zq zh z0u z42
attribute [local irreducible] den denX z19 z1z
attribute [local irreducible] z9p z31 z5h zo7
noncomputable def z84:za:=spD (fun x:List (List UInt8) × List Coin × List Tx × Int × Int × Int × Int × List Op=>(-1≤x.2.2.2.2.1∧x.2.2.2.2.1≤1000)∧x.2.2.2.2.2.2.2.length≤8796093022208) fun x=>z3k ⟨x.1⟩ x.2.1 x.2.2.1 x.2.2.2.1 x.2.2.2.2.1 x.2.2.2.2.2.1 x.2.2.2.2.2.2.1 x.2.2.2.2.2.2.2
theorem zn0 (x:List (List UInt8)) (l:List Coin) (p:List Tx) (a b c d:Int) (o:List Op) (h : -1≤b∧b≤1000) (h2:o.length≤8796093022208):z84 [.l 1 (x.map z0e),.l 6 (l.map zr),.l 3 (p.map eTx),I a,I b,I c,I d,.l 2 (o.map eOp)]=some [I (z3k ⟨x⟩ l p a b c d o).1.parent,I (z3k ⟨x⟩ l p a b c d o).1.height,I (z3k ⟨x⟩ l p a b c d o).1.work,I (z3k ⟨x⟩ l p a b c d o).1.nonce,.l 3 ((z3k ⟨x⟩ l p a b c d o).1.txs.map eTx),I (z3k ⟨x⟩ l p a b c d o).2] :=
 zp (p:=fun x:List (List UInt8) × List Coin × List Tx × Int × Int × Int × Int × List Op=>(-1≤x.2.2.2.2.1∧x.2.2.2.2.1≤1000)∧x.2.2.2.2.2.2.2.length≤8796093022208) (f:=fun x:List (List UInt8) × List Coin × List Tx × Int × Int × Int × Int × List Op=>z3k ⟨x.1⟩ x.2.1 x.2.2.1 x.2.2.2.1 x.2.2.2.2.1 x.2.2.2.2.2.1 x.2.2.2.2.2.2.1 x.2.2.2.2.2.2.2) (x,l,p,a,b,c,d,o) ⟨h,h2⟩
theorem zla (a b c d:Int) (l:List Tx):z6u [I a,I b,I c,I d,.l 3 (l.map eTx)]=some [I (zh ⟨a,b,c,d,l⟩)]:=zmn ⟨a,b,c,d,l⟩
theorem z06i (n:Int):0≤z0u n∧z0u n≤1000:=zh0 n
def zwk:T :=
 .lets [.bin .neq (.v 38) (.c (.i .i64 0))] [] (.ite (.v 39) (.ret [.c (.i .i64 0),.c (.i .i64 0),.c (.i .i64 0),.c (.i .i64 0),.c (.nil 3),.v 38]) (.ret [.v 3,.v 35,.v 5,.v
 6,.v 37,.c (.i .i64 0)]))
def zwl:T :=
 .lets [.bin .add (.v 4) (.c (.i .i64 1))] [] (.lets [.mk 3 [[.v 31,.c (.nil 3),.v 34]]] [] (.lets [.app 3 (.v 36) (.v 20)] [] (.lets [.call 72 [.v 3,.v 35,.v 5,.v 6,.v 37] 0]
 [] zwk)))
def zwm:T :=
 .lets [.bin .add (.v 4) (.c (.i .i64 1))] [] (.lets [.bin .add (.v 26) (.v 22)] [] (.lets [.call 10 [.v 7] 0] [] (.lets [.mk 2 [[.v 32,.v 33]]] [] zwl)))
def zwn:T :=
 .lets [.bin .eql (.v 29) (.c (.i .i64 0))] [] (.ite (.v 30) (.ret [.c (.i .i64 0),.c (.i .i64 0),.c (.i .i64 0),.c (.i .i64 0),.c (.nil 3),.c (.i .i64 9)]) zwm)
def zwo:T :=
 .lets [.bin .neq (.v 27) (.c (.i .i64 0))] [] (.ite (.v 28) (.ret [.c (.i .i64 0),.c (.i .i64 0),.c (.i .i64 0),.c (.i .i64 0),.c (.nil 3),.v 27]) (.lets [.bin .add (.v 26) (.v
 22)] [] zwn))
def zwp:T :=
 .ite (.v 24) (.ret [.c (.i .i64 0),.c (.i .i64 0),.c (.i .i64 0),.c (.i .i64 0),.c (.nil 3),.v 23]) (.lets [.bin .add (.v 4) (.c (.i .i64 1))] [] (.lets [.call 74 [.v 25] 0,
 .call 74 [.v 25] 1] [] zwo))
def zwq:T :=
 .lets [.call 98 [.v 0,.v 1,.v 17,.v 18] 0,.call 98 [.v 0,.v 1,.v 17,.v 18] 1,.call 98 [.v 0,.v 1,.v 17,.v 18] 2,.call 98 [.v 0,.v 1,.v 17,.v 18] 3,.call 98 [.v 0,.v
 1,.v 17,.v 18] 4] [] (.lets [.bin .neq (.v 23) (.c (.i .i64 0))] [] zwp)
def zwr:T :=
 .lets [.len (.v 10)] [] (.lets [.mn (.v 15) (.c (.i .i64 3))] [] (.lets [.sub 3 (.v 10) none (some (.v 16))] [] (.lets [.bin .add (.v 4) (.c (.i .i64 1))] [] zwq)))
def zws:T :=
 .lets [.bin .neq (.v 13) (.c (.i .i64 0))] [] (.ite (.v 14) (.ret [.c (.i .i64 0),.c (.i .i64 0),.c (.i .i64 0),.c (.i .i64 0),.c (.nil 3),.v 13]) zwr)
def zwt:T :=
 .lets [.call 98 [.v 0,.v 1,.v 2,.v 8] 0,.call 98 [.v 0,.v 1,.v 2,.v 8] 1,.call 98 [.v 0,.v 1,.v 2,.v 8] 2,.call 98 [.v 0,.v 1,.v 2,.v 8] 3,.call 98 [.v 0,.v 1,.v
 2,.v 8] 4] [] zws
def zfm:T :=
 .lets [.bin .add (.v 4) (.c (.i .i64 1))] [] zwt
attribute [local irreducible] z6u z7p z3t
theorem z02r:Meets Tryz.prog z84 83 ⟨[.agg 1,.one,.one,.one,.one,.one,.one,.one],[(true,[.scal,.scal,.scal,.scal,.pure]),(false,[.scal])],false⟩:=by
 refine z04 (sp:=(z0z [(10,z7p),(72,z6u),(74,z3t),(98,z31)])) (sigs:=z1c) (cut:=[]) (hints:=[]) (fn:=Tryz.f83) (t:=zfm) (by kernel_rfl) (by kernel_rfl) (by kernel_rfl) ?_ ?_
 ·exact (z0o (L:=[(10,z7p),(72,z6u),(74,z3t),(98,z31)]) ⟨z9 rfl zs1,z9 rfl z02m,z9 rfl zh1,z9 rfl zdp,trivial⟩)
 ·rintro ds rs - h
  obtain ⟨⟨x,l,p,a,b,c,d,o⟩,⟨hb,ho⟩,rfl,rfl⟩:=z02 h
  clear h
  simp only at hb ho
  refine ⟨⟨1,?_⟩,z3s ⟨rfl,rfl,rfl,rfl,rfl,trivial⟩⟩
  show den _ _ zfm [.l 1 (x.map z0e),.l 6 (l.map zr),.l 3 (p.map eTx),I a,I b,I c,I d,.l 2 (o.map eOp)] []=ret (z3k ⟨x⟩ l p a b c d o)
  have a1:=z73 x l p (b+1)
  have hs:=(zfl ⟨x⟩ l p (b+1)).1
  unfold zfm z3k
  generalize z0i ⟨x⟩ l p (b+1)=q at *
  obtain ⟨qx,qs,qm,qf,qe⟩:=q
  simp only at *
  have a2:=z73 x l (qs.take 3) (b+1)
  have hz:=zfl ⟨x⟩ l (qs.take 3) (b+1)
  generalize z0i ⟨x⟩ l (qs.take 3) (b+1)=w at *
  obtain ⟨wx,ws,wm,wf,we⟩:=w
  simp only at *
  unfold z00q
  have a3:=zcj (b+1)
  have a4:=zba o ho
  have hr:=z06i (b+1)
  generalize z0u (b+1)=rn at *
  generalize z42 (b+1)=re at *
  have a5:=zla a (b+1) c d (⟨b+1,[],[⟨rn+wf,o⟩]⟩::ws)
  generalize zh ⟨a,b+1,c,d,⟨b+1,[],[⟨rn+wf,o⟩]⟩::ws⟩=be at *
  have ht:qs.take (if 3<(qs.length:Int) then 3 else (qs.length:Int)).toNat=qs.take 3:=by
   by_cases h3:3<(qs.length:Int)
   ·rw [if_pos h3];rfl
   ·rw [if_neg h3,Int.toNat_natCast,List.take_length,List.take_of_length_le (by omega)]
  repeat' (first|refine dq1 ?_|refine dqK rfl (a1) ?_|refine dqK rfl (a2) ?_|refine dqK rfl (a3) ?_|refine dqk rfl (a4) ?_|refine dqk rfl (a5) ?_|refine zd (z6j rfl rfl (by simp)) ?_|refine zd (zkf (l:=[⟨b+1,[],[⟨rn+wf,o⟩]⟩]) (l':=ws) rfl rfl (by simp;omega)) ?_|exact z8 rfl rfl|refine tR (fun h=>?_) fun h=>?_|fail)
end
section
open Go.RowKit
open Go.Lib (itoa)
set_option maxRecDepth 100000
set_option maxHeartbeats 4000000
end
section
open Go.RowKit
set_option maxRecDepth 100000
theorem Done.total {l:List Coin} {t:Tx} {nm h:Int} {r s m:List Coin} (d:Done l t nm h r s m):zb m=zb l - z1p t s:=by
 have h1:=d.spentAs.total
 have h2:=d.broughtAs.total
 rw [zfj]
 omega
theorem Done.most {l:List Coin} {t:Tx} {nm h:Int} {r s m:List Coin} (d:Done l t nm h r s m):zb m≤zb l - z1p t []:=by
 have S:=d.spentAs
 have h1:=S.total
 have h2:=d.broughtAs.total
 have hs:0≤zb s:=z9b fun c hc=>d.ok.good c (S.from hc).1
 rw [zfj]
 simp only [zb]
 omega
theorem zfu {α:Type} {l:List α} {i:Nat} {x d:α} (h:i<l.length):(l.set i x).getD i d=x:=by
 rw [List.getD_eq_getElem?_getD,List.getElem?_set_self h]
 rfl
theorem getD_set_ne {α:Type} {l:List α} {i j:Nat} {x d:α} (h:i≠j):(l.set i x).getD j d=l.getD j d:=by
 rw [List.getD_eq_getElem?_getD,List.getElem?_set_ne h,← List.getD_eq_getElem?_getD]
theorem zil {b:Block} {ns:List Int} {m:List Coin} {us':List Undo}:∀ (r:List Tx) (l:List Coin) (us:List Undo) (most:Int) (j:Nat),z6o b ns l us most (j+1) r=(m,us',0)→b.txs.drop (j+1)=r→us.length=b.txs.length→j+1≤b.txs.length →
  ∃ l1 us1 most1,zbv b ns l1 us1 most1=(m,us',0)∧us1.length=b.txs.length∧(∀ i,i≤j→us1.getD i ⟨[]⟩=us.getD i ⟨[]⟩)∧zb l1=zb l - (most1 - most) ∧
   ∀ U:List Undo,(∀ i,1≤i→U.getD i ⟨[]⟩=us1.getD i ⟨[]⟩)→zl4 b ns U l1 (b.txs.length - 1)=zl4 b ns U l j
 | [],l,us,most,j,h,hd,hu,hj=>by
  rw [z6o] at h
  have hl:=congrArg List.length hd
  rw [List.length_drop,List.length_nil] at hl
  have e:b.txs.length - 1=j:=by omega
  exact ⟨l,us,most,h,hu,fun _ _=>rfl,by omega,fun U _=>by rw [e]⟩
 | t::r,l,us,most,j,h,hd,hu,hj=>by
  rw [z6o] at h
  by_cases he:(zu l t (ns.getD (j+1) 0) b.height).2.2=0
  rotate_left
  ·rw [if_pos he] at h
   exact absurd (congrArg (fun x=>x.2.2) h) he
  rw [if_neg (fun k=>k he)] at h
  obtain ⟨rr,d⟩:=z9o he
  have hl:=congrArg List.length hd
  rw [List.length_drop,List.length_cons] at hl
  have hd2:b.txs.drop (j+1+1)=r:=by rw [← List.drop_drop,hd];rfl
  have ht:b.txs.getD (j+1) zTx=t:=by
   rw [List.getD_eq_getElem?_getD]
   have:(b.txs.drop (j+1))[0]? = some t:=by rw [hd];rfl
   rw [List.getElem?_drop] at this
   rw [show j+1=j+1+0 by omega,this]
   rfl
  obtain ⟨l1,us1,most1,h1,h2,h3,h4,h5⟩:=zil r _ _ _ (j+1) h hd2 (by rw [List.length_set];exact hu) (by omega)
  refine ⟨l1,us1,most1,h1,h2,fun i hi=>?_,by rw [h4,d.total];omega,fun U hU=>?_⟩
  ·rw [h3 i (by omega),getD_set_ne (by omega)]
  ·rw [h5 U hU,zl4,ht,hU (j+1) (by omega),h3 (j+1) (Nat.le_refl _),zfu (by omega),d.back]
   exact if_neg fun k=>k rfl
theorem zof {k:Book} {l m:List Coin} {b:Block} {us:List Undo} (h:z2d k l b=(m,us,0)):z02q k m b us=(l,0)∧CoinsOK l∧CoinsOK m∧zb m≤zb l+z0u b.height∧zh b=0∧z6i us:=by
 have hsh:=zwj k l b
 rw [h] at hsh
 unfold z2d at h
 by_cases hc:zq l=0
 rotate_left
 ·rw [if_pos hc] at h
  exact absurd (congrArg (fun x=>x.2.2) h) hc
 rw [if_neg (fun k=>k hc)] at h
 by_cases he:(z05 k b).2.2.2=0
 rotate_left
 ·rw [if_pos he] at h
  exact absurd (congrArg (fun x=>x.2.2) h) he
 rw [if_neg (fun k=>k he)] at h
 obtain ⟨hb,hn⟩:=zl3 he
 have ok:=z5o hb
 obtain ⟨l1,us1,most1,h1,h2,-,h4,h5⟩:=zil _ _ _ _ 0 h rfl (by simp) ok.some
 unfold zbv at h1
 by_cases hm:most1 < -z1p (b.txs.getD 0 zTx) []
 ·rw [if_pos hm] at h1
  exact absurd (congrArg (fun x=>x.2.2) h1) (by show ¬ (9:Int)=0;decide)
 rw [if_neg hm] at h1
 by_cases ha:(zu l1 (b.txs.getD 0 zTx) ((z05 k b).2.2.1.getD 0 0) b.height).2.2=0
 rotate_left
 ·rw [if_pos ha] at h1
  exact absurd (congrArg (fun x=>x.2.2) h1) ha
 rw [if_neg (fun k=>k ha)] at h1
 obtain ⟨rr,d⟩:=z9o ha
 have e1:(zu l1 (b.txs.getD 0 zTx) ((z05 k b).2.2.1.getD 0 0) b.height).1=m:=congrArg (fun x=>x.1) h1
 have e2:us1.set 0 ⟨(zu l1 (b.txs.getD 0 zTx) ((z05 k b).2.2.1.getD 0 0) b.height).2.1⟩=us:=congrArg (fun x=>x.2.1) h1
 generalize zu l1 (b.txs.getD 0 zTx) ((z05 k b).2.2.1.getD 0 0) b.height=q at *
 obtain ⟨m',sp,f⟩:=q
 simp only at e1 e2 d
 subst e1
 have hl0:=ok.some
 refine ⟨?_,(z0q l).1 hc,d.end_,?_,hb,hsh⟩
 ·unfold z02q
  rw [if_neg (by rw [(z0q m').2 d.end_];decide),if_neg (fun k=>k he)]
  have hul:us.length=b.txs.length:=by rw [← e2,List.length_set,h2]
  rw [if_neg (by omega)]
  have hu0:us.getD 0 ⟨[]⟩=⟨sp⟩:=by rw [← e2];exact zfu (by omega)
  rw [hu0,d.back,if_neg (fun k=>k rfl),h5 us fun i hi=>by rw [← e2];exact getD_set_ne (by omega)]
  rfl
 ·have:=d.most
  omega
end
section
open Go.RowKit
set_option maxRecDepth 100000
theorem z02s {k:Book} {t:Tree} {n:Int} (h:(z2t k t n).2=0):zf k=0∧TreeOK t.names t.blocks∧(n=0∨0≤idx t.names n)∧(z2t k t n).1=z12 t.names t.blocks n∧z3v t n=(z12 t.names t.blocks n,0):=by
 unfold z2t at h ⊢
 by_cases hb:zf k=0
 rotate_left
 ·rw [if_pos hb] at h
  exact absurd h hb
 rw [if_neg (fun k=>k hb)] at h ⊢
 unfold z3v at h ⊢
 by_cases ht:z01 t=0
 rotate_left
 ·rw [if_pos ht] at h
  exact absurd h ht
 rw [if_neg (fun k=>k ht)] at h ⊢
 by_cases hn:n≠0∧idx t.names n<0
 ·rw [if_pos hn] at h
  exact absurd h (by show ¬ (5:Int)=0;decide)
 rw [if_neg hn]
 exact ⟨hb,(z0x _ _).1 ht,by omega,rfl,rfl⟩
theorem zim {k:Book} {t:Tree} {n:Int} (hb:zf k=0) (ok:TreeOK t.names t.blocks) (hn:n=0∨0≤idx t.names n):z2t k t n=(z12 t.names t.blocks n,0):=by
 unfold z2t z3v
 rw [if_neg (fun k=>k hb),if_neg (fun k=>k ((z0x _ _).2 ok)),if_neg (by omega)]
theorem zlb {k:Book} {t:Tree} {n:Int} {l:List Coin} (h:zx k t n=(l,0)):zf k=0∧TreeOK t.names t.blocks∧(n=0∨0≤idx t.names n)∧z2t k t n=(z12 t.names t.blocks n,0)∧z1e k t [] (z12 t.names t.blocks n)=(l,0):=by
 unfold zx at h
 by_cases he:(z2t k t n).2=0
 ·rw [if_neg (fun k=>k he)] at h
  obtain ⟨h1,h2,h3,h4,h5⟩:=z02s he
  rw [h4] at h
  exact ⟨h1,h2,h3,zim h1 h2 h3,h⟩
 ·rw [if_pos he] at h
  exact absurd (congrArg (fun x=>x.2) h) he
theorem zza {k:Book} {t:Tree} {n:Int} (hb:zf k=0) (ok:TreeOK t.names t.blocks) (hn:n=0∨0≤idx t.names n):zx k t n=z1e k t [] (z12 t.names t.blocks n):=by
 unfold zx
 rw [zim hb ok hn]
 exact if_neg fun k=>k rfl
theorem zfn (k:Book) (t:Tree):∀ (p:List Int) (l m:List Coin) (r:List Int),z1e k t l (p++r)=(m,0)→∃ q,z1e k t l p=(q,0)∧z1e k t q r=(m,0)
 | [],l,m,r,h=>⟨l,rfl,h⟩
 | n::p,l,m,r,h=>by
  rw [List.cons_append,z1e] at h
  rw [z1e]
  by_cases he:(z2d k l (z0w t n)).2.2=0
  ·rw [if_neg (fun k=>k he)] at h ⊢
   exact zfn k t p _ m r h
  ·rw [if_pos he] at h
   exact absurd (congrArg (fun x=>x.2) h) he
theorem zog {k:Book} {t:Tree} {l m:List Coin} {n:Int} (h:z1e k t l [n]=(m,0)):∃ us,z2d k l (z0w t n)=(m,us,0):=by
 rw [z1e,z1e] at h
 by_cases he:(z2d k l (z0w t n)).2.2=0
 ·rw [if_neg (fun k=>k he)] at h
  generalize z2d k l (z0w t n)=q at *
  obtain ⟨a,b,c⟩:=q
  simp only [Prod.mk.injEq,and_true] at h he
  subst h he
  exact ⟨_,rfl⟩
 ·rw [if_pos he] at h
  exact absurd (congrArg (fun x=>x.2) h) he
theorem z8e {t:Tree} {n:Int} (ok:TreeOK t.names t.blocks) (hn:0≤idx t.names n):(z0w t n).parent=z0r t.names t.blocks n∧z0v t n=0∧z0w t n=z16 t.blocks (idx t.names n):=by
 have e:z0v t n=0:=by
  unfold z0v
  rw [if_neg (fun k=>k ((z0x _ _).2 ok)),if_neg (by omega)]
 have e2:z0w t n=z16 t.blocks (idx t.names n):=by unfold z0w;rw [if_pos e]
 exact ⟨by rw [e2];rfl,e,e2⟩
theorem z02t {k:Book} {t:Tree} {n:Int} {l:List Coin} (h:zx k t n=(l,0)) (hn:0≤idx t.names n):∃ q us,zx k t (z0w t n).parent=(q,0)∧z2d k q (z0w t n)=(l,us,0):=by
 obtain ⟨h1,h2,-,-,h5⟩:=zlb h
 obtain ⟨e1,-,-⟩:=z8e h2 hn
 obtain ⟨s1,s2,-⟩:=z50 h2 hn
 rw [s1] at h5
 obtain ⟨q,q1,q2⟩:=zfn k t _ _ _ _ h5
 obtain ⟨us,q3⟩:=zog q2
 exact ⟨q,us,by rw [e1,zza h1 h2 s2,q1],q3⟩
theorem zdq {t:Tree} (ok:TreeOK t.names t.blocks) (r:Nat):∀ n:Int,z5q t.names n≤r→0≤idx t.names n→(z16 t.blocks (idx t.names n)).height=((z12 t.names t.blocks n).length:Int):=by
 induction r with
 | zero =>
  intro n hr hn
  have:=(z50 ok hn).2.2
  omega
 | succ r ih =>
  intro n hr hn
  obtain ⟨s1,s2,s3⟩:=z50 ok hn
  obtain ⟨j,hj,hjs⟩:=zee hn
  have hlt:=(List.getElem?_eq_some_iff.1 hjs).1
  obtain ⟨-,-,-,e⟩:=zdl (ok.step j hlt)
  rw [s1,List.length_append,List.length_singleton]
  rw [show z0r t.names t.blocks n=(z16 t.blocks (idx t.names n)).parent from rfl] at *
  rw [hj] at s1 s2 s3 ⊢
  rcases zky e with ⟨e1,e2⟩|⟨e1,i,e2,e3,e4,e5⟩
  ·rw [e1,z3j,e2];rfl
  ·have:=ih (z16 t.blocks j).parent (by omega) (by omega)
   rw [e3] at this
   rw [e5,this]
   omega
end
section
open Go.Lib (itoa atoiAll)
open Go.RowKit
end
section
open Go.Lib (itoa)
open Go.RowKit
structure PlainL (l:List UInt8):Prop where
 ne:∀ b ∈ l,b≠10
 no:∀ s,List.isPrefixOf tTx (l++s)=false
end
section
open Go.RowKit
set_option maxRecDepth 100000
end
section
open Go.RowKit
set_option maxRecDepth 100000
inductive RunC (h:Int) (y:List zci):List Coin→List Tx→List Coin→Int→Prop where
 | nil (m:List Coin):RunC h y m [] m 0
 | cons {m m1 m' sp:List Coin} {t:Tx} {K:List Tx} {f:Int}:zi t=0→t.ins.length≠0→(z3b t).length≤4000→0≤idx y (z3b t)→zu m t (idx y (z3b t)+1) h=(m1,sp,0)→RunC h y m1 K m' f→RunC h y m (t::K) m' (z1p t sp+f)
theorem RunC.more {h:Int} {y z:List zci} {m m':List Coin} {K:List Tx} {f:Int} (hp:y <+: z) (R:RunC h y m K m' f):RunC h z m K m' f:=by
 induction R with
 | nil m=>exact .nil m
 | cons h1 h2 h3 h4 h5 _ ih =>
  have e:=zkw hp h4
  exact .cons h1 h2 h3 (by omega) (by rw [e];exact h5) ih
theorem zzb {m m1 sp:List Coin} {t:Tx} {nm h:Int} (hi:t.ins.length≠0) (h0:zu m t nm h=(m1,sp,0)):CoinsOK m∧CoinsOK m1∧0≤z1p t sp∧zb m1=zb m - z1p t sp:=by
 obtain ⟨r,d⟩:=z9o (l:=m) (t:=t) (nm:=nm) (h:=h) (by rw [h0])
 rw [h0] at d
 exact ⟨d.ok,d.end_,d.fee hi,d.total⟩
theorem RunC.facts {h:Int} {y:List zci} {m m':List Coin} {K:List Tx} {f:Int} (R:RunC h y m K m' f):0≤f∧zb m'=zb m - f∧(CoinsOK m→CoinsOK m'):=by
 induction R with
 | nil m=>exact ⟨by omega,by omega,fun h=>h⟩
 | cons h1 h2 h3 h4 h5 _ ih =>
  obtain ⟨a,b,c,d⟩:=zzb h2 h5
  obtain ⟨e,f,g⟩:=ih
  exact ⟨by omega,by omega,fun _=>g b⟩
theorem RunC.part {h:Int} {y:List zci} {m':List Coin} {L:List Tx}:∀ {K:List Tx} {m:List Coin} {f:Int},RunC h y m (K++L) m' f→∃ m1 f1 f2,RunC h y m K m1 f1∧RunC h y m1 L m' f2
 | [],m,f,R=>⟨m,0,f,.nil m,R⟩
 | t::K,m,f,R=>by
  rw [List.cons_append] at R
  cases R with
  | cons h1 h2 h3 h4 h5 R =>
   obtain ⟨m1,f1,f2,a,b⟩:=RunC.part R
   exact ⟨m1,_,f2,.cons h1 h2 h3 h4 h5 a,b⟩
end
section
open Go.RowKit
set_option maxRecDepth 100000
def zw (t:Tree) (n:Int):Int:=if z0v t n≠0 then 0 else (z0w t n).height
theorem z06j:(List.range 1000).all (fun k=>decide (z2h ((k:Int)+1)=z2h k+z0u ((k:Int)+1)))=true:=by decide +kernel
theorem z0b9 (h:Int) (h1:1≤h) (h2:h≤1000):z2h h=z2h (h - 1)+z0u h:=by
 have:=List.all_eq_true.1 z06j (h - 1).toNat (by simp;omega)
 have e:(((h - 1).toNat:Nat):Int)=h - 1:=by omega
 rw [decide_eq_true_iff,e] at this
 rw [show h - 1+1=h by omega] at this
 exact this
theorem zwu {k:Book} {t:Tree} (ok:TreeOK t.names t.blocks):∀ (r:Nat) (n:Int) (l:List Coin),z5q t.names n≤r→(n=0∨0≤idx t.names n)→z1e k t [] (z12 t.names t.blocks n)=(l,0)→zb l≤z2h ((z12 t.names t.blocks n).length:Int):=by
 intro r
 induction r with
 | zero =>
  intro n l hr hn h
  rcases hn with hn|hn
  ·subst hn
   rw [z3j,z1e] at h
   obtain rfl:[]=l:=congrArg (fun x=>x.1) h
   rw [z3j]
   decide +kernel
  ·have:=(z50 ok hn).2.2
   omega
 | succ r ih =>
  intro n l hr hn h
  rcases hn with hn|hn
  ·subst hn
   rw [z3j,z1e] at h
   obtain rfl:[]=l:=congrArg (fun x=>x.1) h
   rw [z3j]
   decide +kernel
  ·have hl:=zd4 ok (.inr hn)
   have hh:=zdq ok _ n (Nat.le_refl _) hn
   obtain ⟨s1,s2,s3⟩:=z50 ok hn
   have hb:=(z8e ok hn).2.2
   rw [s1] at h hl hh ⊢
   obtain ⟨q,q1,q2⟩:=zfn k t _ _ _ _ h
   obtain ⟨us,q3⟩:=zog q2
   have q4:=ih _ q (by omega) s2 q1
   have q5:=(zof q3).2.2.2.1
   rw [hb,hh] at q5
   rw [List.length_append,List.length_singleton] at hl q5 ⊢
   have q6:=z0b9 (((z12 t.names t.blocks (z0r t.names t.blocks n)).length+1:Nat):Int) (by omega) (by omega)
   rw [show (((z12 t.names t.blocks (z0r t.names t.blocks n)).length+1:Nat):Int) - 1=((z12 t.names t.blocks (z0r t.names t.blocks n)).length:Int) by omega] at q6
   omega
theorem zhb {k:Book} {t:Tree} {n:Int} {l:List Coin} (h:zx k t n=(l,0)):CoinsOK l∧(n≠0→z0v t n=0)∧0≤zw t n∧zw t n≤24∧zb l≤z2h (zw t n)∧(n=0→zw t n=0):=by
 obtain ⟨h1,h2,h3,h4,h5⟩:=zlb h
 have hs:=zwu h2 _ n l (Nat.le_refl _) h3 h5
 rcases h3 with h3|h3
 ·subst h3
  rw [z3j,z1e] at h5
  obtain rfl:[]=l:=congrArg (fun x=>x.1) h5
  have hz:idx t.names 0<0:=by
   apply Classical.byContradiction
   intro hc
   have:=(h2.name (m:=0) (by omega)).1
   omega
  have e:z0v t 0=5:=by
   unfold z0v
   rw [if_neg (fun k=>k ((z0x _ _).2 h2)),if_pos hz]
  have hh:zw t 0=0:=by unfold zw;rw [if_pos (by rw [e];decide)]
  rw [hh]
  rw [z3j] at hs
  exact ⟨⟨by simp,(fun c hc=>by cases hc),List.Pairwise.nil,by simp [zb]⟩,fun k=>absurd rfl k,by omega,by omega,hs,fun _=>rfl⟩
 ·obtain ⟨q,us,q1,q2⟩:=z02t h h3
  obtain ⟨p1,p2,p3⟩:=z8e h2 h3
  have hh:zw t n=((z12 t.names t.blocks n).length:Int):=by
   unfold zw
   rw [if_neg (fun k=>k p2),p3,zdq h2 _ n (Nat.le_refl _) h3]
  have hl:=zd4 h2 (.inr h3)
  rw [hh]
  exact ⟨(zof q2).2.2.1,fun _=>p2,by omega,by omega,hs,fun k=>by have:=(h2.name h3).1;omega⟩
end
section
open Go.RowKit
set_option maxRecDepth 100000
def z4x (k:Book):List Tx→Bool
 | []=>true
 | t::r=>if (zo t).2≠0 then false else if (zo t).1 ∈ k.texts then z4x k r else false
def zje (k:Book) (t:Tree) (K:Int) (i:Nat):List Int→Int
 | []=>K
 | nm::r=>if z6d k nm≠0 then 5 else if z6c k nm≠(z0l (z16 t.blocks i)).1 then 5 else
  if z4x k (z16 t.blocks i).txs=false then 5 else if (zx k t nm).2≠0 then (zx k t nm).2 else zje k t K (i+1) r
def zei (k:Book) (n:Node):Int :=
 if (zx k n.t n.tip).2≠0 then (zx k n.t n.tip).2 else if (n.pool.length:Int)=0 then 0 else
 if z4x k n.pool=false then 5 else
 if (z0i k (zx k n.t n.tip).1 n.pool (zw n.t n.tip+1)).2.2.2.2≠0 then (z0i k (zx k n.t n.tip).1 n.pool (zw n.t n.tip+1)).2.2.2.2 else
 if ((z0i k (zx k n.t n.tip).1 n.pool (zw n.t n.tip+1)).2.1.length:Int)≠n.pool.length then 7 else 0
def z23 (k:Book) (n:Node):Int :=
 if zf k≠0 then zf k else if (z35 n.t).2≠0 then (z35 n.t).2 else if (z35 n.t).1≠n.tip then 4 else
 zje k n.t (zei k n) 0 n.t.names
def z9q:Node:=⟨⟨[],[]⟩,[],0⟩
abbrev z09e:=List zci × Node × Int × Int
def z00s (k:Book) (t:Tree) (p:List Tx) (tip nm:Int):z09e :=
 if (p.length:Int) > 0 then (if zw t tip+1≤1000 then
  ((z0i k (zx k t tip).1 p (zw t tip+1)).1,⟨t,(z0i k (zx k t tip).1 p (zw t tip+1)).2.1,tip⟩,nm,0)
  else (k.texts,⟨t,p,tip⟩,nm,0)) else (k.texts,⟨t,p,tip⟩,nm,0)
def z4i (k:Book) (n:Node) (b:Block):z09e :=
 if z23 k n≠0 then ([],z9q,0,z23 k n) else if (z05 k b).2.2.2≠0 then ([],z9q,0,(z05 k b).2.2.2) else
 if z1q n.t (z05 k b).2.1 b≠0 then ([],z9q,0,z1q n.t (z05 k b).2.1 b) else
 if (zx ⟨(z05 k b).1⟩ (z37 n.t (z05 k b).2.1 b) (z05 k b).2.1).2≠0 then ([],z9q,0,(zx ⟨(z05 k b).1⟩ (z37 n.t (z05 k b).2.1 b) (z05 k b).2.1).2) else
 z00s ⟨(z05 k b).1⟩ (z37 n.t (z05 k b).2.1 b) n.pool (z35 (z37 n.t (z05 k b).2.1 b)).1 (z05 k b).2.1
def z3l (k:Book) (n:Node) (work nonce:Int) (o:List Op):List zci × Node × Block × Int :=
 if z23 k n≠0 then ([],z9q,z6n,z23 k n) else if (zx k n.t n.tip).2≠0 then ([],z9q,z6n,(zx k n.t n.tip).2) else
 if (z3k k (zx k n.t n.tip).1 n.pool n.tip (zw n.t n.tip) work nonce o).2≠0 then ([],z9q,z6n,(z3k k (zx k n.t n.tip).1 n.pool n.tip (zw n.t n.tip) work nonce o).2) else
 if (z4i k n (z3k k (zx k n.t n.tip).1 n.pool n.tip (zw n.t n.tip) work nonce o).1).2.2.2≠0 then ([],z9q,z6n,(z4i k n (z3k k (zx k n.t n.tip).1 n.pool n.tip (zw n.t n.tip) work nonce o).1).2.2.2) else
 ((z4i k n (z3k k (zx k n.t n.tip).1 n.pool n.tip (zw n.t n.tip) work nonce o).1).1,(z4i k n (z3k k (zx k n.t n.tip).1 n.pool n.tip (zw n.t n.tip) work nonce o).1).2.1,(z3k k (zx k n.t n.tip).1 n.pool n.tip (zw n.t n.tip) work nonce o).1,0)
def z2m (k:Book) (n:Node):List Coin × Int:=if z23 k n≠0 then ([],z23 k n) else zx k n.t n.tip
def kn1:List zci × Node × Block × Int:=z3l ⟨[]⟩ z9q 2 0 []
def kn2:List zci × Node × Block × Int:=z3l ⟨kn1.1⟩ kn1.2.1 3 0 []
theorem kn_1:kn1.2.2.2=0∧kn1.2.2.1.height=1:=by with_unfolding_all decide +kernel
theorem kn_2:kn2.2.2.2=0∧kn2.2.2.1.parent≠0∧kn2.2.2.1.height=2:=by with_unfolding_all decide +kernel
theorem kn_3:(z2m ⟨kn2.1⟩ kn2.2.1).2=0∧(z2m ⟨kn2.1⟩ kn2.2.1).1.length=2∧z23 ⟨kn2.1⟩ kn2.2.1=0:=by with_unfolding_all decide +kernel
end
section
open Go.RowKit
set_option maxRecDepth 100000
def zlc (x:Node):List Dt:=z7i x.t++[.l 3 (x.pool.map eTx),I x.tip]
theorem z06k (x y:Node) (h:zlc x=zlc y):x=y:=by
 obtain ⟨t,p,n⟩:=x
 obtain ⟨t',p',n'⟩:=y
 obtain ⟨h1,h2⟩:=List.append_inj' h rfl
 simp only [List.cons.injEq,Dt.l.injEq,true_and,and_true] at h2
 obtain rfl:=zno t t' h1
 obtain rfl:=z4k zlu h2.1
 obtain rfl:=zix n n' (by unfold z03;rw [h2.2])
 rfl
instance:Enc Node:=⟨zlc,4,fun _=>rfl,z06k⟩
theorem she_node:ShE shNode zlc:=z5x (e0:=z7i) (e1:=z93 (eSl 3 eTx) z03) she_tree (zey (z5d she_tx rfl) z3n) (fun x=>⟨x.t,(x.pool,x.tip),rfl⟩) (fun a b=>rfl)
theorem z0ba (t:Tree):Er (z35 t).2:=by
 unfold z35
 split
 ·exact zhy t
 ·exact z06 _ rfl
theorem z08s (t:Tree):I64 (z35 t).1:=by
 unfold z35
 split
 ·exact ⟨by show (-9223372036854775808:Int)≤0;decide,by show (0:Int)≤9223372036854775807;decide⟩
 ·rename_i h
  have ok:=(z0x t.names t.blocks).1 (Decidable.not_not.1 h)
  have key:∀ (l:List Int) (p:Int × Int),(∀ m ∈ l,0≤m∧m≤1000)→0≤p.1∧p.1≤1000→0≤(l.foldl (z58 t.names t.blocks) p).1∧(l.foldl (z58 t.names t.blocks) p).1≤1000:=by
   intro l
   induction l with
   | nil=>intro p _ h;exact h
   | cons x l ih =>
    intro p hl hp
    refine ih _ (fun m hm=>hl m (List.mem_cons_of_mem _ hm)) ?_
    unfold z58
    split
    ·exact hl x (by simp)
    ·exact hp
  have:=key t.names (0,0) (fun m hm=>by have:=ok.name ((zlw _ _).2 hm);omega) ⟨by decide,by decide⟩
  unfold z02j
  exact ⟨by simp only;omega,by simp only;omega⟩
noncomputable def z5r:za:=spD (fun _:Tree=>True) fun t=>z35 t
theorem zej (t:Tree):z5r [.l 1 (t.names.map z03),.l 5 (t.blocks.map z0b)]=some [I (z35 t).1,I (z35 t).2]:=zp (f:=fun t:Tree=>z35 t) t trivial
theorem zld:Meets Tryz.prog z5r 73 ⟨[.agg 2],[(false,[.scal]),(false,[.scal])],true⟩ :=
 z1x rfl (z1u (fn:=Tryz.f73) (by kernel_rfl) (by kernel_rfl) (by kernel_rfl)) fun t _ W F us hF h=>by
  obtain ⟨cs,rfl,h1⟩:=z6a h
  refine (z0de t cs (zbu she_tree hF.1 h1) At.z).mono ?_
  rintro e w' ⟨rfl,hS⟩
  exact ⟨_,rfl,hS.below,zbs rfl rfl (.i _ _ (wrap_i64 (z08s t))) (.i _ _ (wrap_i64 (z0ba t).i64))⟩
theorem z08t (k:Book) (n:Int):(z6c k n).length≤9223372036854775807:=by
 unfold z6c
 split
 ·simp
 rename_i h
 split
 ·simp
 ·have ok:=(zpn k.texts).1 (Decidable.not_not.1 h)
  cases hx:k.texts[(n - 1).toNat]? with
  | none=>simp
  | some s=>have:=ok.2.1 s (List.mem_of_getElem? hx);simp only [Option.getD_some];omega
theorem z0bb (k:Book) (n:Int):Er (z6d k n):=by
 unfold z6d
 split
 ·exact zhz k
 split
 ·exact z06 _ rfl
 ·exact z06 _ rfl
noncomputable def z85:za:=spD (fun _:Book × Int=>True) fun x=>(z6c x.1 x.2,z6d x.1 x.2)
theorem zn1 (k:Book) (n:Int):z85 [.l 1 (k.texts.map z0e),I n]=some [.s (z6c k n),I (z6d k n)]:=zp (f:=fun x:Book × Int=>(z6c x.1 x.2,z6d x.1 x.2)) (k,n) trivial
theorem z02u:Meets Tryz.prog z85 26 ⟨[.agg 1,.one],[(false,[.scal]),(false,[.scal])],true⟩ :=
 z1x rfl (z1u (fn:=Tryz.f26) (by kernel_rfl) (by kernel_rfl) (by kernel_rfl)) fun x _ W F us hF h=>by
  obtain ⟨k,n⟩:=x
  obtain ⟨cs,us,rfl,h1,h⟩:=zbr (d1:=z92 k) (d2:=z03 n) h rfl
  obtain ⟨v,us,rfl,h2,h⟩:=z17 h
  obtain rfl:=z2g h
  obtain ⟨rfl,hn⟩:=z8q h2
  refine (z07o k cs n W F (she_book.of h1) hF.1).mono ?_
  rintro e w' ⟨rfl,hb⟩
  exact ⟨_,rfl,hb,zbs rfl rfl (.s _ (z08t k n)) (.i _ _ (wrap_i64 (z0bb k n).i64))⟩
noncomputable def zcn:za:=spD (fun _:List (List UInt8) × List UInt8=>True) fun x=>z4e x.1 x.2
theorem zzc (l:List (List UInt8)) (s:List UInt8):zcn [.l 1 (l.map z0e),.s s]=some [.b (z4e l s)]:=zp (f:=fun x:List (List UInt8) × List UInt8=>z4e x.1 x.2) (l,s) trivial
theorem z0bc:Meets Tryz.prog zcn 146 ⟨[.one,.one],[(false,[.scal])],true⟩ :=
 z021 rfl (z1u (fn:=Tryz.f146) (by kernel_rfl) (by kernel_rfl) (by kernel_rfl)) fun ⟨a,b⟩ _ W F us hF h=>by
  obtain ⟨v,us,rfl,h1,h⟩:=z17 h
  obtain ⟨v2,us,rfl,h2,h⟩:=z17 h
  obtain rfl:=z2g h
  obtain ⟨A,n,c,rfl,k1⟩:=z5w z9y h1
  obtain ⟨rfl,k2⟩:=ze8 h2
  exact (zrj a b A n c W F k1).mono fun e w' h=>⟨h.1,h.2 ▸ Below.refl _ _⟩
theorem zoh (n:Int):I64 (z2h n)∧I64 (z5y n):=by
 constructor
 ·by_cases hb:n<0∨1000<n
  ·unfold z2h;rw [if_pos hb];exact ⟨by decide,by decide⟩
  ·have key:(List.range 1001).all (fun k=>decide (0≤z2h k∧z2h k≤1000000))=true:=by decide +kernel
   have:=List.all_eq_true.1 key n.toNat (by simp;omega)
   rw [decide_eq_true_iff,show ((n.toNat:Nat):Int)=n by omega] at this
   exact ⟨by omega,by omega⟩
 ·unfold z5y
  split <;> exact ⟨by decide,by decide⟩
noncomputable def z6q:za:=spD (fun _:Int=>True) fun n=>(z2h n,z5y n)
theorem zjf (n:Int):z6q [I n]=some [I (z2h n),I (z5y n)]:=zp (f:=fun n:Int=>(z2h n,z5y n)) n trivial
theorem zwv:Meets Tryz.prog z6q 23 ⟨[.one],[(false,[.scal]),(false,[.scal])],true⟩ :=
 z1x rfl (z1u (fn:=Tryz.f23) (by kernel_rfl) (by kernel_rfl) (by kernel_rfl)) fun n _ W F us hF h=>by
  obtain ⟨v,us,rfl,h2,h⟩:=z17 (d:=I n) h
  obtain rfl:=z2g h
  obtain ⟨rfl,hn⟩:=z8q h2
  refine (z01t n W).mono ?_
  rintro e w' ⟨rfl,rfl⟩
  exact ⟨_,rfl,Below.refl _ _,zbs rfl rfl (.i _ _ (wrap_i64 (zoh n).1)) (.i _ _ (wrap_i64 (zoh n).2))⟩
noncomputable def z6w:za:=spD TreeSmall fun t=>t
theorem zn2 (t:Tree) (h:TreeSmall t):z6w [.l 1 (t.names.map z03),.l 5 (t.blocks.map z0b)]=some (z7i t):=zp (p:=TreeSmall) (f:=fun t:Tree=>t) t h
theorem z02v:Meets Tryz.prog z6w 139 ⟨[.agg 2],[(true,[.pure,.pure])],false⟩ :=
 z1x rfl (z1u (fn:=Tryz.f139) (by kernel_rfl) (by kernel_rfl) (by kernel_rfl)) fun t ht W F us hF h=>by
  obtain ⟨cs,rfl,hr⟩:=z6a h
  refine (zkv t cs (zbu she_tree hF.1 hr) At.z ht).mono ?_
  rintro e w' ⟨A,n,c,A',n',c',rfl,hS⟩
  obtain ⟨B,m,d,e1,-,hS⟩:=hS.freezeRow (S:=shInt) (xs:=t.names) (e:=3) (by repeat (first|with_reducible exact Del.z|apply Del.s))
  obtain ⟨B2,m2,d2,e2,-,hS⟩:=hS.freezeRow (S:=shBlock) (xs:=t.blocks) (e:=24) (by repeat (first|with_reducible exact Del.z|apply Del.s))
  simp only [Value.slice.injEq] at e1 e2
  obtain ⟨rfl,rfl,rfl⟩:=e1
  obtain ⟨rfl,rfl,rfl⟩:=e2
  have hS:=hS.mk_tree (ns:=t.names) (bs:=t.blocks) (by repeat (first|with_reducible exact At.z|assumption|apply At.s)) (by repeat (first|with_reducible exact At.z|assumption|apply At.s))
  exact ⟨_,rfl,hS.below,z09b rfl trivial (she_tree.to (hS.getRep At.z)) rfl zed⟩
noncomputable def zek:za:=spD (fun l:List Tx=>l.length≤1000000) fun l=>l
theorem z02w (l:List Tx) (h:l.length≤1000000):zek [.l 3 (l.map eTx)]=some [.l 3 (l.map eTx)]:=zp (p:=fun l:List Tx=>l.length≤1000000) (f:=fun l:List Tx=>l) l h
theorem z0df:Meets Tryz.prog zek 136 ⟨[.one],[(false,[.fresh 62 3])],false⟩ :=
 za9 (e:=fun x:{ l:List Tx // l.length≤1000000 }=>Enc.e x.1) (xs:=fun x=>x.1) she_tx rfl rfl (by decide) (z1u (fn:=Tryz.f136) (by kernel_rfl) (by kernel_rfl) (by kernel_rfl)) fun x W F us hF h=>by
  obtain ⟨v,us,rfl,h1,h⟩:=z17 h
  obtain rfl:=z2g h
  obtain ⟨A,n,c,rfl,k1⟩:=z5w she_tx h1
  have:=x.2
  have:=k1.1
  exact (zre x.1 A n c W F k1 hF (by omega)).mono fun r W' h=>⟨n,h⟩
end
section
open Go.RowKit
open Go.Lib (itoa)
set_option maxRecDepth 100000
set_option maxHeartbeats 4000000
theorem zoi {t:Tree} (h:(z35 t).2=0):TreeOK t.names t.blocks:=by
 unfold z35 at h
 by_cases h0:z01 t=0
 ·exact (z0x t.names t.blocks).1 h0
 ·rw [if_pos h0] at h;exact absurd h h0
theorem z02x {t:Tree} (ok:TreeOK t.names t.blocks):TreeSmall t:=by
 have hc:=(z0x t.names t.blocks).2 ok
 have:=ok.len
 have:=ok.le
 refine ⟨by omega,by omega,fun b hb=>?_⟩
 have hb0:=z6m (t:=t) hc b hb
 have bk:=z5o hb0
 exact ⟨by have:=bk.len;omega,fun x hx=>z8d (bk.each x hx)⟩
theorem zle {k:Book}:∀ {l:List Tx},z4x k l=true→∀ t ∈ l,zi t=0∧(zo t).1 ∈ k.texts
 | [],_,t,ht=>by cases ht
 | x::l,h,t,ht=>by
  rw [z4x] at h
  by_cases h1:(zo x).2=0
  rotate_left
  ·rw [if_pos h1] at h;cases h
  rw [if_neg (fun k=>k h1)] at h
  by_cases h2:(zo x).1 ∈ k.texts
  rotate_left
  ·rw [if_neg h2] at h;cases h
  rw [if_pos h2] at h
  rcases List.mem_cons.1 ht with rfl|ht
  ·refine ⟨?_,h2⟩
   by_cases hc:zi t=0
   ·exact hc
   ·have e:zo t=([],zi t):=by unfold zo;exact if_pos hc
    rw [e] at h1;exact h1
  ·exact zle h t ht
theorem z0bd {k:Book} {n:Node} (h:z23 k n=0):TreeOK n.t.names n.t.blocks∧n.pool.length≤8∧∀ t ∈ n.pool,zi t=0:=by
 unfold z23 at h
 by_cases h1:zf k=0
 rotate_left
 ·rw [if_pos h1] at h;exact absurd h h1
 rw [if_neg (fun k=>k h1)] at h
 by_cases h2:(z35 n.t).2=0
 rotate_left
 ·rw [if_pos h2] at h;exact absurd h h2
 rw [if_neg (fun k=>k h2)] at h
 by_cases h3:(z35 n.t).1≠n.tip
 ·rw [if_pos h3] at h;exact absurd h (by decide)
 rw [if_neg h3] at h
 have key:∀ (r:List Int) (i:Nat),zje k n.t (zei k n) i r=0→zei k n=0:=by
  intro r
  induction r with
  | nil=>intro i h;exact h
  | cons nm r ih =>
   intro i h
   rw [zje] at h
   split at h
   ·exact absurd h (by decide)
   split at h
   ·exact absurd h (by decide)
   split at h
   ·exact absurd h (by decide)
   split at h
   ·rename_i hc;exact absurd h hc
   ·exact ih _ h
 have hp:=key _ _ h
 refine ⟨zoi h2,?_⟩
 unfold zei at hp
 split at hp
 ·rename_i hc;exact absurd hp hc
 split at hp
 ·rename_i h0
  have:n.pool=[]:=List.eq_nil_of_length_eq_zero (by omega)
  rw [this]
  exact ⟨by simp,fun t ht=>by cases ht⟩
 split at hp
 ·exact absurd hp (by decide)
 rename_i hn
 split at hp
 ·rename_i hc;exact absurd hp hc
 rename_i hs
 split at hp
 ·exact absurd hp (by decide)
 rename_i hl
 have:=(zfl k (zx k n.t n.tip).1 n.pool (zw n.t n.tip+1)).1
 exact ⟨by omega,fun t ht=>(zle (by simpa using hn) t ht).1⟩
theorem zoj {k:Book} {t:Tree} {n:Int} (h:(zx k t n).2=0):0≤zw t n∧zw t n≤24:=by
 have:=zhb (k:=k) (t:=t) (n:=n) (l:=(zx k t n).1) (by rw [← h])
 exact ⟨this.2.2.1,this.2.2.2.1⟩
attribute [local irreducible] z0k spD zo z0l zf z35 z0w z0v zx z0i z6c z6d zw z05 z37 z1q
attribute [local irreducible] den denX z19 z1z
noncomputable def z49:za:=spD (fun _:Tree × Int=>True) fun x=>zw x.1 x.2
theorem za4 (t:Tree) (n:Int):z49 [.l 1 (t.names.map z03),.l 5 (t.blocks.map z0b),I n]=some [I (zw t n)]:=zp (f:=fun x:Tree × Int=>zw x.1 x.2) (t,n) trivial
def zfo:T :=
 .lets [.call 89 [.v 0,.v 1,.v 2] 0,.call 89 [.v 0,.v 1,.v 2] 1,.call 89 [.v 0,.v 1,.v 2] 2,.call 89 [.v 0,.v 1,.v 2] 3,.call 89 [.v 0,.v 1,.v 2] 4,.call 89 [.v 0,.v
 1,.v 2] 5] [] (.lets [.bin .neq (.v 8) (.c (.i .i64 0))] [] (.ite (.v 9) (.ret [.c (.i .i64 0)]) (.ret [.v 4])))
attribute [local irreducible] z2b
theorem zfp:Meets Tryz.prog z49 76 ⟨[.agg 2,.one],[(false,[.scal])],true⟩:=by
 refine z04 (sp:=(z0z [(89,z2b)])) (sigs:=z1c) (cut:=[]) (hints:=[]) (fn:=Tryz.f76) (t:=zfo) (by kernel_rfl) (by kernel_rfl) (by kernel_rfl) ?_ ?_
 ·exact (z0o (L:=[(89,z2b)]) ⟨z9 rfl zdn,trivial⟩)
 ·rintro ds rs - h
  obtain ⟨⟨t,n⟩,-,rfl,rfl⟩:=z02 h
  clear h
  refine ⟨⟨1,?_⟩,z1h rfl⟩
  show den _ _ zfo [.l 1 (t.names.map z03),.l 5 (t.blocks.map z0b),I n] []=ret (zw t n)
  have a1:=z9k t n
  rw [show zw t n=if z0v t n≠0 then 0 else (z0w t n).height by with_unfolding_all rfl]
  unfold zfo
  generalize z0w t n=b at *
  generalize z0v t n=e at *
  repeat' (first|refine dq1 ?_|refine dqc ?_|refine dqm ?_|refine dqK rfl (a1) ?_|exact z8 rfl rfl|((first|refine tR ?_ ?_|refine tB ?_ ?_|refine tC ?_ ?_|refine tN ?_ ?_|refine tF ?_ ?_|refine tG ?_ ?_|refine tP ?_ ?_|refine tQ ?_ ?_|refine tA ?_ ?_|refine tO ?_ ?_|refine tU ?_ ?_|refine tV ?_ ?_) <;> intro h)|refine dqT ?_|refine dqF ?_|refine z1v rfl ?_|refine z1m rfl ?_|refine z40 ?_|refine z41 ?_)
theorem z02y (k:Book) (x:Tx) (r:List Tx):z4x k (x::r)=if (zo x).2≠0 then false else if z4e k.texts (zo x).1=true then z4x k r else false:=by
 rw [z4x]
 unfold z4e
 simp only [decide_eq_true_eq]
noncomputable def zbk:za:=spD (fun _:Book × List Tx=>True) fun x=>z4x x.1 x.2
theorem zfv (k:Book) (l:List Tx):zbk [.l 1 (k.texts.map z0e),.l 3 (l.map eTx)]=some [.b (z4x k l)]:=zp (f:=fun x:Book × List Tx=>z4x x.1 x.2) (k,l) trivial
def zzd:T :=
 .ite (.v 13) (.lets [.bin .geq (.v 4) (.c (.i .i64 0))] [] (.lets [.not (.v 14)] [] (.ret [.v 15]))) (.lets [.bin .add (.v 4) (.c (.i .i64 1))] [] (.again 0 [.v 3,.v 14]))
def zze:T :=
 .ite (.v 11) (.lets [.bin .geq (.v 4) (.c (.i .i64 0))] [] (.lets [.not (.v 12)] [] (.ret [.v 13]))) (.lets [.call 112 [.v 0,.v 9] 0] [] (.lets [.not (.v 12)] [] zzd))
def zzf:T :=
 .lets [.idx (.v 1) (.v 4) 0,.idx (.v 1) (.v 4) 1,.idx (.v 1) (.v 4) 2] [] (.lets [.call 64 [.v 6,.v 7,.v 8] 0,.call 64 [.v 6,.v 7,.v 8] 1] [] (.lets [.bin .neq (.v 10) (.c
 (.i .i64 0))] [] zze))
def zzg:T :=
 .lets [.bin .lss (.v 4) (.v 2)] [] (.ite (.v 5) (.lets [] [.inr 3 (.v 1) (.v 4)] zzf) (.lets [.bin .geq (.c (.i .i64 (-1))) (.c (.i .i64 0))] [] (.lets [.not (.v 6)] []
 (.ret [.v 7]))))
def zhc:T :=
 .lets [.len (.v 1)] [] (.loop [.c (.i .i64 0),.c (.i .i64 0)] zzg)
attribute [local irreducible] zcn z34
theorem z06l:Meets Tryz.prog zbk 80 ⟨[.agg 1,.one],[(false,[.scal])],true⟩:=by
 refine zaj (sp:=(z0z [(64,z34),(112,zcn)])) (sigs:=z1c) (cut:=[]) (hints:=[]) (fns:=[z96 144 Tryz.f144 [] [],z96 194 Tryz.f194 [⟨2,[.t 4,.t 8]⟩] [],z96 145 Tryz.f145 [] []]) (dep:=4) (pool:=400) (fn:=Tryz.f80) (t:=zhc) (by kernel_rfl) (by kernel_rfl) (by kernel_rfl) ?_ ?_ ?_
 ·exact (z2s (fn:=Tryz.f144) (by kernel_rfl) (by kernel_rfl) (by kernel_rfl) (by kernel_rfl) (by kernel_rfl) (z2s (fn:=Tryz.f194) (by kernel_rfl) (by kernel_rfl) (by kernel_rfl) (by kernel_rfl) (by kernel_rfl) (z2s (fn:=Tryz.f145) (by kernel_rfl) (by kernel_rfl) (by kernel_rfl) (by kernel_rfl) (by kernel_rfl) zca)))
 ·exact (z0o (L:=[(64,z34),(112,zcn)]) ⟨z9 rfl zgw,z9 rfl z0bc,trivial⟩)
 ·rintro ds rs hok h
  obtain ⟨⟨k,l⟩,-,rfl,rfl⟩:=z02 h
  clear h
  have hll:=ok_l (hok (.l 3 (l.map eTx)) (List.mem_append_right _ (List.mem_singleton.2 rfl)))
  refine ⟨⟨l.length+1,?_⟩,z1h rfl⟩
  show den _ _ zhc [.l 1 (k.texts.map z0e),.l 3 (l.map eTx)] []=ret (z4x k l)
  unfold zhc
  repeat' (first|refine dq1 ?_|refine dqc ?_|refine dqm ?_|exact z8 rfl rfl|((first|refine tR ?_ ?_|refine tB ?_ ?_|refine tC ?_ ?_|refine tN ?_ ?_|refine tF ?_ ?_|refine tG ?_ ?_|refine tP ?_ ?_|refine tQ ?_ ?_|refine tA ?_ ?_|refine tO ?_ ?_|refine tU ?_ ?_|refine tV ?_ ?_) <;> intro h)|refine dqT ?_|refine dqF ?_|refine z1v rfl ?_|refine z1m rfl ?_|refine z40 ?_|refine z41 ?_)
  (refine z14 (fun (_:Unit) k=>[I 0,I k]) (fun (_:Unit) _ (r:List Tx)=>z4x k r) (fun _ _=>True) () l ?_ ?_ ?_ ?_ ?_;rfl;exact trivial;first|exact Nat.lt_succ_self _|omega)
  ·rintro _ i x r hx hd hk - again hag
   rw [z02y]
   have a1:=za3 x
   have a2:=zzc k.texts (zo x).1
   have hag':=hag () trivial
   generalize zo x=p at *
   obtain ⟨s,e⟩:=p
   simp only at *
   generalize z4e k.texts s=b at *
   cases b
   ·rw [if_neg (by decide:¬ false=true)]
    repeat' (first|refine dq1 ?_|refine dqc ?_|refine dqm ?_|refine dqK rfl (a1) ?_|refine dqK rfl (a2) ?_|exact z8 rfl rfl|((first|refine tR ?_ ?_|refine tB ?_ ?_|refine tC ?_ ?_|refine tN ?_ ?_|refine tF ?_ ?_|refine tG ?_ ?_|refine tP ?_ ?_|refine tQ ?_ ?_|refine tA ?_ ?_|refine tO ?_ ?_|refine tU ?_ ?_|refine tV ?_ ?_) <;> intro h)|refine dqT ?_|refine dqF ?_|refine z1v rfl ?_|refine z1m rfl ?_|refine z40 ?_|refine z41 ?_)
   ·rw [if_pos rfl]
    repeat' (first|refine dq1 ?_|refine dqc ?_|refine dqm ?_|refine dqK rfl (a1) ?_|refine dqK rfl (a2) ?_|exact z8 rfl rfl|((first|refine tR ?_ ?_|refine tB ?_ ?_|refine tC ?_ ?_|refine tN ?_ ?_|refine tF ?_ ?_|refine tG ?_ ?_|refine tP ?_ ?_|refine tQ ?_ ?_|refine tA ?_ ?_|refine tO ?_ ?_|refine tU ?_ ?_|refine tV ?_ ?_) <;> intro h)|refine dqT ?_|refine dqF ?_|refine z1v rfl ?_|refine z1m rfl ?_|refine z40 ?_|refine z41 ?_)
    exact z09 rfl rfl hag'
  ·rintro _ - again
   rw [z4x]
   repeat' (first|refine dq1 ?_|refine dqc ?_|refine dqm ?_|exact z8 rfl rfl|((first|refine tR ?_ ?_|refine tB ?_ ?_|refine tC ?_ ?_|refine tN ?_ ?_|refine tF ?_ ?_|refine tG ?_ ?_|refine tP ?_ ?_|refine tQ ?_ ?_|refine tA ?_ ?_|refine tO ?_ ?_|refine tU ?_ ?_|refine tV ?_ ?_) <;> intro h)|refine dqT ?_|refine dqF ?_|refine z1v rfl ?_|refine z1m rfl ?_|refine z40 ?_|refine z41 ?_)
theorem zlf (b:Block):z30 [I b.parent,I b.height,I b.work,I b.nonce,.l 3 (b.txs.map eTx)]=some [.s (z0l b).1,I (z0l b).2]:=zd5 b
noncomputable def z3m:za:=spD (fun _:Book × Node=>True) fun x=>z23 x.1 x.2
theorem z8f (k:Book) (n:Node):z3m [.l 1 (k.texts.map z0e),.l 1 (n.t.names.map z03),.l 5 (n.t.blocks.map z0b),.l 3 (n.pool.map eTx),I n.tip]=some [I (z23 k n)]:=zp (f:=fun x:Book × Node=>z23 x.1 x.2) (k,n) trivial
def zzh:T :=
 .lets [.call 96 [.v 0,.v 1,.v 2,.v 15] 0,.call 96 [.v 0,.v 1,.v 2,.v 15] 1] [] (.lets [.bin .neq (.v 31) (.c (.i .i64 0))] [] (.ite (.v 32) (.ret [.v 31]) (.lets [.bin .add
 (.v 13) (.c (.i .i64 1))] [] (.again 0 [.v 12,.v 33]))))
def zzi:T :=
 .lets [] [.inr 5 (.v 2) (.v 13)] (.lets [.idx (.v 2) (.v 13) 4] [] (.lets [.call 116 [.v 0,.v 27] 0] [] (.lets [.not (.v 28)] [] (.ite (.v 29) (.ret [.c (.i .i64 5)])
 zzh))))
def zzj:T :=
 .lets [.bin .neq (.v 24) (.c (.i .i64 0))] [] (.ite (.v 25) (.ret [.c (.i .i64 5)]) (.lets [.bin .neq (.v 23) (.v 21)] [] (.ite (.v 26) (.ret [.c (.i .i64 5)]) zzi)))
def zzk:T :=
 .lets [.call 65 [.v 16,.v 17,.v 18,.v 19,.v 20] 0,.call 65 [.v 16,.v 17,.v 18,.v 19,.v 20] 1] [] (.lets [.call 110 [.v 0,.v 15] 0,.call 110 [.v 0,.v 15] 1] []
 zzj)
def zzl:T :=
 .lets [] [.inr 5 (.v 2) (.v 13)] (.lets [.idx (.v 2) (.v 13) 0,.idx (.v 2) (.v 13) 1,.idx (.v 2) (.v 13) 2,.idx (.v 2) (.v 13) 3,.idx (.v 2) (.v 13) 4] [] zzk)
def zzm:T :=
 .ite (.v 29) (.ret [.v 28]) (.lets [.len (.v 25)] [] (.lets [.len (.v 3)] [] (.lets [.bin .neq (.v 30) (.v 31)] [] (.ite (.v 32) (.ret [.c (.i .i64 7)]) (.ret [.c (.i .i64 0)])))))
def zzn:T :=
 .lets [.call 98 [.v 0,.v 15,.v 3,.v 23] 0,.call 98 [.v 0,.v 15,.v 3,.v 23] 1,.call 98 [.v 0,.v 15,.v 3,.v 23] 2,.call 98 [.v 0,.v 15,.v 3,.v 23] 3,.call 98 [.v 0,.v
 15,.v 3,.v 23] 4] [] (.lets [.bin .neq (.v 28) (.c (.i .i64 0))] [] zzm)
def zzo:T :=
 .lets [.not (.v 20)] [] (.ite (.v 21) (.ret [.c (.i .i64 5)]) (.lets [.call 115 [.v 1,.v 2,.v 4] 0] [] (.lets [.bin .add (.v 22) (.c (.i .i64 1))] [] zzn)))
def zzp:T :=
 .ite (.v 17) (.ret [.v 16]) (.lets [.len (.v 3)] [] (.lets [.bin .eql (.v 18) (.c (.i .i64 0))] [] (.ite (.v 19) (.ret [.c (.i .i64 0)]) (.lets [.call 116 [.v 0,.v 3] 0] []
 zzo))))
def zzq:T :=
 .ite (.v 14) (.lets [] [.inr 1 (.v 1) (.v 13)] (.lets [.idx (.v 1) (.v 13) 0] [] zzl)) (.lets [.call 96 [.v 0,.v 1,.v 2,.v 4] 0,.call 96 [.v 0,.v 1,.v 2,.v 4] 1] []
 (.lets [.bin .neq (.v 16) (.c (.i .i64 0))] [] zzp))
def zww:T :=
 .lets [.bin .neq (.v 7) (.v 4)] [] (.ite (.v 10) (.ret [.c (.i .i64 4)]) (.lets [.len (.v 1)] [] (.loop [.c (.i .i64 0),.c (.i .i64 0)] (.lets [.bin .lss (.v 13) (.v 11)] []
 zzq))))
def zwx:T :=
 .ite (.v 6) (.ret [.v 5]) (.lets [.call 108 [.v 1,.v 2] 0,.call 108 [.v 1,.v 2] 1] [] (.lets [.bin .neq (.v 8) (.c (.i .i64 0))] [] (.ite (.v 9) (.ret [.v 8]) zww)))
def zhd:T :=
 .lets [.call 70 [.v 0] 0] [] (.lets [.bin .neq (.v 5) (.c (.i .i64 0))] [] zwx)
attribute [local irreducible] z30 z1t z85 z2l z31 z5r
theorem zd7:Meets Tryz.prog z3m 28 ⟨[.agg 1,.agg 4],[(false,[.scal])],true⟩:=by
 refine z04 (sp:=(z0z [(65,z30),(70,z1t),(96,z2l),(98,z31),(108,z5r),(110,z85),(115,z49),(116,zbk)])) (sigs:=z1c) (cut:=[]) (hints:=[⟨10,[.t 4,.t 43]⟩]) (fn:=Tryz.f28) (t:=zhd) (by kernel_rfl) (by kernel_rfl) (by kernel_rfl) ?_ ?_
 ·exact (z0o (L:=[(65,z30),(70,z1t),(96,z2l),(98,z31),(108,z5r),(110,z85),(115,z49),(116,zbk)]) ⟨z9 rfl zku,z9 rfl zdm,z9 rfl zd6,z9 rfl zdp,z9 rfl zld,z9 rfl z02u,z9 rfl zfp,z9 rfl z06l,trivial⟩)
 ·rintro ds rs hok h
  obtain ⟨⟨k,n⟩,-,rfl,rfl⟩:=z02 h
  clear h
  refine ⟨⟨100,?_⟩,z1h rfl⟩
  show den _ _ zhd [.l 1 (k.texts.map z0e),.l 1 (n.t.names.map z03),.l 5 (n.t.blocks.map z0b),.l 3 (n.pool.map eTx),I n.tip] []=ret (z23 k n)
  have a1:=z9i k
  have a2:=zej n.t
  have hok2:=fun h=>zoi (t:=n.t) h
  unfold zhd z23
  generalize zf k=e1 at *
  generalize z35 n.t=pb at *
  obtain ⟨bt,e2⟩:=pb
  simp only at *
  repeat' (first|refine dq1 ?_|refine dqc ?_|refine dqm ?_|refine dqK rfl (a1) ?_|refine dqK rfl (a2) ?_|exact z8 rfl rfl|((first|refine tR ?_ ?_|refine tB ?_ ?_|refine tC ?_ ?_|refine tN ?_ ?_|refine tF ?_ ?_|refine tG ?_ ?_|refine tP ?_ ?_|refine tQ ?_ ?_|refine tA ?_ ?_|refine tO ?_ ?_|refine tU ?_ ?_|refine tV ?_ ?_) <;> intro h)|refine dqT ?_|refine dqF ?_|refine z1v rfl ?_|refine z1m rfl ?_|refine z40 ?_|refine z41 ?_)
  have ok:=hok2 (by omega)
  have hnl:=ok.len
  have hnle:=ok.le
  clear hok2
  (refine z14 (fun (_:Unit) i=>[I 0,I i]) (fun (_:Unit) i (r:List Int)=>zje k n.t (zei k n) i r) (fun _ _=>True) () n.t.names ?_ ?_ ?_ ?_ ?_;rfl;exact trivial;omega)
  ·rintro _ i nm r hx hd hk - again hag
   have hb:n.t.blocks[((i:Int)).toNat]? = some (z16 n.t.blocks i):=by
    rw [Int.toNat_natCast]
    unfold z16
    rw [Int.toNat_natCast,List.getElem?_eq_getElem (by omega)]
    rfl
   rw [zje]
   have hag':=hag () trivial
   generalize hbb:z16 n.t.blocks i=b at *
   have b1:=zlf b
   have b2:=zn1 k nm
   have b3:=zfv k b.txs
   have b4:=z6p k n.t nm
   generalize z0l b=pb at *
   obtain ⟨s,e⟩:=pb
   generalize zx k n.t nm=q at *
   obtain ⟨l,e4⟩:=q
   simp only at *
   generalize z4x k b.txs=d at *
   generalize z6c k nm=ls at *
   generalize z6d k nm=le at *
   cases d
   ·rw [if_pos (rfl:false=false)]
    repeat' (first|refine dq1 ?_|refine dqc ?_|refine dqm ?_|refine dqK rfl (b1) ?_|refine dqK rfl (b2) ?_|refine dqK rfl (b3) ?_|refine dqK rfl (b4) ?_|exact z8 rfl rfl|((first|refine tR ?_ ?_|refine tB ?_ ?_|refine tC ?_ ?_|refine tN ?_ ?_|refine tF ?_ ?_|refine tG ?_ ?_|refine tP ?_ ?_|refine tQ ?_ ?_|refine tA ?_ ?_|refine tO ?_ ?_|refine tU ?_ ?_|refine tV ?_ ?_) <;> intro h)|refine dqT ?_|refine dqF ?_|refine z1v rfl ?_|refine z1m rfl ?_|refine z40 ?_|refine z41 ?_)
   ·rw [if_neg (by decide:¬ true=false)]
    repeat' (first|refine dq1 ?_|refine dqc ?_|refine dqm ?_|refine dqK rfl (b1) ?_|refine dqK rfl (b2) ?_|refine dqK rfl (b3) ?_|refine dqK rfl (b4) ?_|exact z8 rfl rfl|((first|refine tR ?_ ?_|refine tB ?_ ?_|refine tC ?_ ?_|refine tN ?_ ?_|refine tF ?_ ?_|refine tG ?_ ?_|refine tP ?_ ?_|refine tQ ?_ ?_|refine tA ?_ ?_|refine tO ?_ ?_|refine tU ?_ ?_|refine tV ?_ ?_) <;> intro h)|refine dqT ?_|refine dqF ?_|refine z1v rfl ?_|refine z1m rfl ?_|refine z40 ?_|refine z41 ?_)
    exact z09 rfl rfl hag'
  ·rintro _ - again
   rw [zje]
   unfold zei
   have b1:=z6p k n.t n.tip
   have b2:=zfv k n.pool
   have b3:=za4 n.t n.tip
   have hh:=fun h=>zoj (k:=k) (t:=n.t) (n:=n.tip) h
   generalize zx k n.t n.tip=q at *
   obtain ⟨l,e4⟩:=q
   have b4:=z73 k.texts l n.pool (zw n.t n.tip+1)
   simp only at *
   have hkk:(⟨k.texts⟩:Book)=k:=rfl
   rw [hkk] at b4
   generalize z0i k l n.pool (zw n.t n.tip+1)=w at *
   obtain ⟨wx,ws,wm,wf,we⟩:=w
   simp only at *
   generalize z4x k n.pool=d at *
   generalize zw n.t n.tip=hgt at *
   by_cases h4:e4=0
   ·have hh:=hh h4
    cases d
    ·rw [if_pos (rfl:false=false)]
     repeat' (first|refine dq1 ?_|refine dqc ?_|refine dqm ?_|refine dqK rfl (b1) ?_|refine dqK rfl (b2) ?_|refine dqK rfl (b3) ?_|refine dqK rfl (b4) ?_|exact z8 rfl rfl|((first|refine tR ?_ ?_|refine tB ?_ ?_|refine tC ?_ ?_|refine tN ?_ ?_|refine tF ?_ ?_|refine tG ?_ ?_|refine tP ?_ ?_|refine tQ ?_ ?_|refine tA ?_ ?_|refine tO ?_ ?_|refine tU ?_ ?_|refine tV ?_ ?_) <;> intro h)|refine dqT ?_|refine dqF ?_|refine z1v rfl ?_|refine z1m rfl ?_|refine z40 ?_|refine z41 ?_)
     all_goals omega
    ·rw [if_neg (by decide:¬ true=false)]
     repeat' (first|refine dq1 ?_|refine dqc ?_|refine dqm ?_|refine dqK rfl (b1) ?_|refine dqK rfl (b2) ?_|refine dqK rfl (b3) ?_|refine dqK rfl (b4) ?_|exact z8 rfl rfl|((first|refine tR ?_ ?_|refine tB ?_ ?_|refine tC ?_ ?_|refine tN ?_ ?_|refine tF ?_ ?_|refine tG ?_ ?_|refine tP ?_ ?_|refine tQ ?_ ?_|refine tA ?_ ?_|refine tO ?_ ?_|refine tU ?_ ?_|refine tV ?_ ?_) <;> intro h)|refine dqT ?_|refine dqF ?_|refine z1v rfl ?_|refine z1m rfl ?_|refine z40 ?_|refine z41 ?_)
     all_goals omega
   ·clear hh
    rw [if_pos h4]
    repeat' (first|refine dq1 ?_|refine dqc ?_|refine dqm ?_|refine dqK rfl (b1) ?_|exact z8 rfl rfl|((first|refine tR ?_ ?_|refine tB ?_ ?_|refine tC ?_ ?_|refine tN ?_ ?_|refine tF ?_ ?_|refine tG ?_ ?_|refine tP ?_ ?_|refine tQ ?_ ?_|refine tA ?_ ?_|refine tO ?_ ?_|refine tU ?_ ?_|refine tV ?_ ?_) <;> intro h)|refine dqT ?_|refine dqF ?_|refine z1v rfl ?_|refine z1m rfl ?_|refine z40 ?_|refine z41 ?_)
    all_goals omega
theorem z0be {α:Type} {l:List α} {i:Nat} {x:α} (h:l[i]? = some x):l.set i x=l:=by
 rw [← (List.getElem?_eq_some_iff.1 h).2]
 exact List.set_getElem_self _
noncomputable def zd8:za:=spD (fun n:Node=>TreeOK n.t.names n.t.blocks∧n.pool.length≤8∧∀ t ∈ n.pool,zi t=0) fun n=>n
theorem zwy (n:Node) (h:TreeOK n.t.names n.t.blocks∧n.pool.length≤8∧∀ t ∈ n.pool,zi t=0):zd8 [.l 1 (n.t.names.map z03),.l 5 (n.t.blocks.map z0b),.l 3 (n.pool.map eTx),I n.tip]=some [.l 1 (n.t.names.map z03),.l 5 (n.t.blocks.map z0b),.l 3 (n.pool.map eTx),I n.tip]:=zp (p:=fun n:Node=>TreeOK n.t.names n.t.blocks∧n.pool.length≤8∧∀ t ∈ n.pool,zi t=0) (f:=fun n:Node=>n) n h
def z02z:T :=
 .lets [.call 91 [.v 11,.v 12,.v 13] 0,.call 91 [.v 11,.v 12,.v 13] 1,.call 91 [.v 11,.v 12,.v 13] 2] [] (.lets [] [.inr 3 (.v 9) (.v 8)] (.lets [.set (.v 9) (.v 8) 0 [.v 14,
 .v 15,.v 16]] [] (.lets [.bin .add (.v 8) (.c (.i .i64 1))] [] (.again 0 [.v 18,.v 17]))))
def z030:T :=
 .ite (.v 10) (.lets [] [.inr 3 (.v 9) (.v 8)] (.lets [.idx (.v 9) (.v 8) 0,.idx (.v 9) (.v 8) 1,.idx (.v 9) (.v 8) 2] [] z02z)) (.ret [.v 4,.v 5,.v 9,.v 3])
def zjg:T :=
 .lets [.call 113 [.v 0,.v 1] 0,.call 113 [.v 0,.v 1] 1] [] (.lets [.call 114 [.v 2] 0] [] (.lets [.len (.v 6)] [] (.loop [.c (.i .i64 0),.v 6] (.lets [.bin .lss (.v 8) (.v 7)]
 [] z030))))
attribute [local irreducible] zek z6w z5h
theorem z08u:Meets Tryz.prog zd8 72 ⟨[.agg 4],[(true,[.pure,.pure,.pure,.scal])],false⟩:=by
 refine z04 (sp:=(z0z [(91,z5h),(113,z6w),(114,zek)])) (sigs:=z1c) (cut:=[]) (hints:=[⟨4,[.t 16,.o 11]⟩]) (fn:=Tryz.f72) (t:=zjg) (by kernel_rfl) (by kernel_rfl) (by kernel_rfl) ?_ ?_
 ·exact (z0o (L:=[(91,z5h),(113,z6w),(114,zek)]) ⟨z9 rfl zvh,z9 rfl z02v,z9 rfl z0df,trivial⟩)
 ·rintro ds rs hok h
  obtain ⟨n,⟨h1,h2,h3⟩,rfl,rfl⟩:=z02 h
  clear h
  refine ⟨⟨20,?_⟩,z3s ⟨rfl,trivial⟩⟩
  show den _ _ zjg [.l 1 (n.t.names.map z03),.l 5 (n.t.blocks.map z0b),.l 3 (n.pool.map eTx),I n.tip] []=ret n
  have a1:z6w [.l 1 (n.t.names.map z03),.l 5 (n.t.blocks.map z0b)]=some [.l 1 (n.t.names.map z03),.l 5 (n.t.blocks.map z0b)]:=zn2 n.t (z02x h1)
  have a2:=z02w n.pool (by omega)
  unfold zjg
  repeat' (first|refine dq1 ?_|refine dqc ?_|refine dqm ?_|refine dqK rfl (a1) ?_|refine dqK rfl (a2) ?_|exact z8 rfl rfl|((first|refine tR ?_ ?_|refine tB ?_ ?_|refine tC ?_ ?_|refine tN ?_ ?_|refine tF ?_ ?_|refine tG ?_ ?_|refine tP ?_ ?_|refine tQ ?_ ?_|refine tA ?_ ?_|refine tO ?_ ?_|refine tU ?_ ?_|refine tV ?_ ?_) <;> intro h)|refine dqT ?_|refine dqF ?_|refine z1v rfl ?_|refine z1m rfl ?_|refine z40 ?_|refine z41 ?_)
  (refine z14 (fun (_:Unit) i=>[I i,.l 3 (n.pool.map eTx)]) (fun (_:Unit) i (r:List Tx)=>n) (fun _ _=>True) () n.pool ?_ ?_ ?_ ?_ ?_;rfl;exact trivial;omega)
  ·rintro _ i x r hx hd hk - again hag
   have hx':n.pool[((i:Int)).toNat]? = some x:=by rw [Int.toNat_natCast];exact hx
   have b1:=zh2 x (z8d (h3 x (List.mem_of_getElem? hx)))
   have hag':=hag () trivial
   have hs:=z0be hx
   have hset:∀ {sp:Nat→za} {E:Env} {a b:Atom} {vs:List Atom},a.val E=some (.l 3 (n.pool.map eTx))→b.val E=some (I (i:Int))→vals E vs=some (eTx x)→denX sp E (.set a b 0 vs)=some (.l 3 (n.pool.map eTx)):=by
    intro sp E a b vs ha hb hv
    have:=zi1 (sp:=sp) (l:=n.pool) (x:=x) (y:=x) (n:=i) (m:=(i:Int)) (j:=0) (by omega) ha hb hv (by omega) (by show 0+3≤3;decide) hx rfl
    rw [hs] at this
    exact this
   repeat' (first|refine dq1 ?_|refine dqc ?_|refine dqm ?_|refine dqK rfl (b1) ?_|refine zd (hset rfl rfl rfl) ?_|exact z8 rfl rfl|((first|refine tR ?_ ?_|refine tB ?_ ?_|refine tC ?_ ?_|refine tN ?_ ?_|refine tF ?_ ?_|refine tG ?_ ?_|refine tP ?_ ?_|refine tQ ?_ ?_|refine tA ?_ ?_|refine tO ?_ ?_|refine tU ?_ ?_|refine tV ?_ ?_) <;> intro h)|refine dqT ?_|refine dqF ?_|refine z1v rfl ?_|refine z1m rfl ?_|refine z40 ?_|refine z41 ?_)
   exact z09 rfl rfl hag'
  ·rintro _ - again
   repeat' (first|refine dq1 ?_|refine dqc ?_|refine dqm ?_|exact z8 rfl rfl|((first|refine tR ?_ ?_|refine tB ?_ ?_|refine tC ?_ ?_|refine tN ?_ ?_|refine tF ?_ ?_|refine tG ?_ ?_|refine tP ?_ ?_|refine tQ ?_ ?_|refine tA ?_ ?_|refine tO ?_ ?_|refine tU ?_ ?_|refine tV ?_ ?_) <;> intro h)|refine dqT ?_|refine dqF ?_|refine z1v rfl ?_|refine z1m rfl ?_|refine z40 ?_|refine z41 ?_)
noncomputable def zap:za:=spD (fun _:Book × Node × Block=>True) fun x=>z4i x.1 x.2.1 x.2.2
theorem zwz (k:Book) (n:Node) (b:Block):zap [.l 1 (k.texts.map z0e),.l 1 (n.t.names.map z03),.l 5 (n.t.blocks.map z0b),.l 3 (n.pool.map eTx),I n.tip,I b.parent,I b.height,I b.work,I b.nonce,.l 3 (b.txs.map eTx)]=some [.l 1 ((z4i k n b).1.map z0e),.l 1 ((z4i k n b).2.1.t.names.map z03),.l 5 ((z4i k n b).2.1.t.blocks.map z0b),.l 3 ((z4i k n b).2.1.pool.map eTx),I (z4i k n b).2.1.tip,I (z4i k n b).2.2.1,I (z4i k n b).2.2.2]:=zp (f:=fun x:Book × Node × Block=>z4i x.1 x.2.1 x.2.2) (k,n,b) trivial
theorem zel (x:List (List UInt8)) (t:Tree) (n:Int):z2l [.l 1 (x.map z0e),.l 1 (t.names.map z03),.l 5 (t.blocks.map z0b),I n]=some [.l 6 ((zx ⟨x⟩ t n).1.map zr),I (zx ⟨x⟩ t n).2]:=z6p ⟨x⟩ t n
theorem z031 (t:Tree) (n:Int) : -9223372036854775808≤zw t n+1∧zw t n+1≤9223372036854775807:=by
 have e:zw t n=if z0v t n≠0 then 0 else (z0w t n).height:=by with_unfolding_all rfl
 rw [e]
 split
 ·omega
 ·rename_i h
  have h0:z0v t n=0:=Decidable.not_not.1 h
  have hc:z01 t=0:=by
   apply Classical.byContradiction
   intro hc
   have:z0v t n=z01 t:=by with_unfolding_all exact if_pos hc
   exact hc (this ▸ h0)
  have hi:0≤idx t.names n:=by
   apply Classical.byContradiction
   intro hi
   have:z0v t n=5:=by
    have e:z0v t n=if z01 t≠0 then z01 t else if idx t.names n<0 then 5 else 0:=by with_unfolding_all rfl
    rw [e,if_neg (fun k=>k hc),if_pos (by omega)]
   rw [this] at h0;exact absurd h0 (by decide)
  have ok:=(z0x _ _).1 hc
  obtain ⟨p1,p2,p3⟩:=z8e ok hi
  have hl:=zd4 ok (.inr hi)
  rw [p3,zdq ok _ n (Nat.le_refl _) hi]
  omega
def z032:T :=
 .lets [.call 98 [.v 12,.v 35,.v 26,.v 31] 0,.call 98 [.v 12,.v 35,.v 26,.v 31] 1,.call 98 [.v 12,.v 35,.v 26,.v 31] 2,.call 98 [.v 12,.v 35,.v 26,.v 31] 3,.call 98
 [.v 12,.v 35,.v 26,.v 31] 4] [] (.ret [.v 37,.v 17,.v 18,.v 38,.v 28,.v 13,.c (.i .i64 0)])
def z033:T :=
 .ite (.v 34) (.lets [.call 96 [.v 12,.v 17,.v 18,.v 28] 0,.call 96 [.v 12,.v 17,.v 18,.v 28] 1] [] z032) (.ret [.v 12,.v 17,.v 18,.v 26,.v 28,.v 13,.c (.i .i64
 0)])
def z034:T :=
 .lets [.bin .gtr (.v 32) (.c (.i .i64 0))] [] (.ite (.v 33) (.lets [.bin .leq (.v 31) (.c (.i .i64 1000))] [] z033) (.ret [.v 12,.v 17,.v 18,.v 26,.v 28,.v 13,.c (.i
 .i64 0)]))
def z035:T :=
 .lets [.call 108 [.v 17,.v 18] 0,.call 108 [.v 17,.v 18] 1] [] (.lets [.call 115 [.v 17,.v 18,.v 28] 0] [] (.lets [.bin .add (.v 30) (.c (.i .i64 1))] [] (.lets [.len (.v 26)]
 [] z034)))
def z036:T :=
 .lets [.call 118 [.v 1,.v 2,.v 3,.v 4] 0,.call 118 [.v 1,.v 2,.v 3,.v 4] 1,.call 118 [.v 1,.v 2,.v 3,.v 4] 2,.call 118 [.v 1,.v 2,.v 3,.v 4] 3] [] z035
def z037:T :=
 .lets [.bin .neq (.v 22) (.c (.i .i64 0))] [] (.ite (.v 23) (.ret [.c (.nil 1),.c (.nil 1),.c (.nil 5),.c (.nil 3),.c (.i .i64 0),.c (.i .i64 0),.v 22]) z036)
def z038:T :=
 .ite (.v 20) (.ret [.c (.nil 1),.c (.nil 1),.c (.nil 5),.c (.nil 3),.c (.i .i64 0),.c (.i .i64 0),.v 19]) (.lets [.call 96 [.v 12,.v 17,.v 18,.v 13] 0,.call 96 [.v 12,.v
 17,.v 18,.v 13] 1] [] z037)
def z039:T :=
 .lets [.call 90 [.v 1,.v 2,.v 13,.v 5,.v 6,.v 7,.v 8,.v 9] 0,.call 90 [.v 1,.v 2,.v 13,.v 5,.v 6,.v 7,.v 8,.v 9] 1,.call 90 [.v 1,.v 2,.v 13,.v 5,.v 6,.v 7,.v
 8,.v 9] 2] [] (.lets [.bin .neq (.v 19) (.c (.i .i64 0))] [] z038)
def z03a:T :=
 .lets [.bin .neq (.v 15) (.c (.i .i64 0))] [] (.ite (.v 16) (.ret [.c (.nil 1),.c (.nil 1),.c (.nil 5),.c (.nil 3),.c (.i .i64 0),.c (.i .i64 0),.v 15]) z039)
def z03b:T :=
 .lets [.call 73 [.v 0,.v 5,.v 6,.v 7,.v 8,.v 9] 0,.call 73 [.v 0,.v 5,.v 6,.v 7,.v 8,.v 9] 1,.call 73 [.v 0,.v 5,.v 6,.v 7,.v 8,.v 9] 2,.call 73 [.v 0,.v 5,.v 6,
 .v 7,.v 8,.v 9] 3] [] z03a
def zzr:T :=
 .lets [.bin .neq (.v 10) (.c (.i .i64 0))] [] (.ite (.v 11) (.ret [.c (.nil 1),.c (.nil 1),.c (.nil 5),.c (.nil 3),.c (.i .i64 0),.c (.i .i64 0),.v 10]) z03b)
def zjh:T :=
 .lets [.call 117 [.v 0,.v 1,.v 2,.v 3,.v 4] 0] [] zzr
attribute [local irreducible] z48 z9l
theorem z08v:Meets Tryz.prog zap 24 ⟨[.agg 1,.agg 4,.agg 5],[(true,[.pure]),(true,[.pure,.pure,.pure,.scal]),(false,[.scal]),(false,[.scal])],false⟩:=by
 refine zaj (sp:=(z0z [(73,z48),(90,z9l),(96,z2l),(98,z31),(108,z5r),(115,z49),(117,z3m),(118,zd8)])) (sigs:=z1c) (cut:=[]) (hints:=[]) (fns:=[z96 70 Tryz.f70 [] [],z96 74 Tryz.f74 [] []]) (dep:=2) (pool:=600) (fn:=Tryz.f24) (t:=zjh) (by kernel_rfl) (by kernel_rfl) (by kernel_rfl) ?_ ?_ ?_
 ·exact (z2s (fn:=Tryz.f70) (by kernel_rfl) (by kernel_rfl) (by kernel_rfl) (by kernel_rfl) (by kernel_rfl) (z2s (fn:=Tryz.f74) (by kernel_rfl) (by kernel_rfl) (by kernel_rfl) (by kernel_rfl) (by kernel_rfl) zca))
 ·exact (z0o (L:=[(73,z48),(90,z9l),(96,z2l),(98,z31),(108,z5r),(115,z49),(117,z3m),(118,zd8)]) ⟨z9 rfl zl0,z9 rfl z061,z9 rfl zd6,z9 rfl zdp,z9 rfl zld,z9 rfl zfp,z9 rfl zd7,z9 rfl z08u,trivial⟩)
 ·rintro ds rs hok h
  obtain ⟨⟨k,n,b⟩,-,rfl,rfl⟩:=z02 h
  clear h
  refine ⟨⟨1,?_⟩,z3s ⟨rfl,rfl,rfl,trivial⟩⟩
  show den _ _ zjh [.l 1 (k.texts.map z0e),.l 1 (n.t.names.map z03),.l 5 (n.t.blocks.map z0b),.l 3 (n.pool.map eTx),I n.tip,I b.parent,I b.height,I b.work,I b.nonce,.l 3 (b.txs.map eTx)] []=ret (z4i k n b)
  have a1:=z8f k n
  have a2:=zeg k b
  have a5:=fun h=>zwy n (z0bd (k:=k) h)
  unfold zjh z4i
  generalize z23 k n=e1 at *
  generalize z05 k b=q at *
  obtain ⟨x,nm,ns,e2⟩:=q
  simp only at *
  have a3:=zps n.t nm b
  generalize z37 n.t nm b=t at *
  generalize z1q n.t nm b=e3 at *
  have a4:=zel x t nm
  generalize zx ⟨x⟩ t nm=c at *
  obtain ⟨cl,ce⟩:=c
  have a6:=zej t
  generalize z35 t=pb at *
  obtain ⟨tip,be⟩:=pb
  simp only at *
  have a7:=za4 t tip
  have hh:=z031 t tip
  have a8:=zel x t tip
  unfold z00s
  generalize zx ⟨x⟩ t tip=c at *
  obtain ⟨tl,te⟩:=c
  simp only at *
  have a9:=z73 x tl n.pool (zw t tip+1)
  generalize z0i ⟨x⟩ tl n.pool (zw t tip+1)=w at *
  obtain ⟨wx,ws,wm,wf,we⟩:=w
  generalize zw t tip=hgt at *
  simp only at *
  by_cases h1:e1=0
  ·have a5:=a5 h1
   repeat' (first|refine dq1 ?_|refine dqc ?_|refine dqm ?_|refine dqK rfl (a1) ?_|refine dqK rfl (a2) ?_|refine dqK rfl (a3) ?_|refine dqK rfl (a4) ?_|refine dqK rfl (a5) ?_|refine dqK rfl (a6) ?_|refine dqK rfl (a7) ?_|refine dqK rfl (a8) ?_|refine dqK rfl (a9) ?_|exact z8 rfl rfl|((first|refine tR ?_ ?_|refine tB ?_ ?_|refine tC ?_ ?_|refine tN ?_ ?_|refine tF ?_ ?_|refine tG ?_ ?_|refine tP ?_ ?_|refine tQ ?_ ?_|refine tA ?_ ?_|refine tO ?_ ?_|refine tU ?_ ?_|refine tV ?_ ?_) <;> intro h)|refine dqT ?_|refine dqF ?_|refine z1v rfl ?_|refine z1m rfl ?_|refine z40 ?_|refine z41 ?_)
   all_goals omega
  ·clear a5
   repeat' (first|refine dq1 ?_|refine dqc ?_|refine dqm ?_|refine dqK rfl (a1) ?_|exact z8 rfl rfl|((first|refine tR ?_ ?_|refine tB ?_ ?_|refine tC ?_ ?_|refine tN ?_ ?_|refine tF ?_ ?_|refine tG ?_ ?_|refine tP ?_ ?_|refine tQ ?_ ?_|refine tA ?_ ?_|refine tO ?_ ?_|refine tU ?_ ?_|refine tV ?_ ?_) <;> intro h)|refine dqT ?_|refine dqF ?_|refine z1v rfl ?_|refine z1m rfl ?_|refine z40 ?_|refine z41 ?_)
   all_goals omega
noncomputable def z4a:za:=spD (fun _:Book × Node=>True) fun x=>z2m x.1 x.2
theorem zb1 (k:Book) (n:Node):z4a [.l 1 (k.texts.map z0e),.l 1 (n.t.names.map z03),.l 5 (n.t.blocks.map z0b),.l 3 (n.pool.map eTx),I n.tip]=some [.l 6 ((z2m k n).1.map zr),I (z2m k n).2]:=zp (f:=fun x:Book × Node=>z2m x.1 x.2) (k,n) trivial
def zzs:T :=
 .lets [.bin .neq (.v 5) (.c (.i .i64 0))] [] (.ite (.v 6) (.ret [.c (.nil 6),.v 5]) (.lets [.call 96 [.v 0,.v 1,.v 2,.v 4] 0,.call 96 [.v 0,.v 1,.v 2,.v 4] 1] [] (.ret [.v
 7,.v 8])))
def zhe:T :=
 .lets [.call 117 [.v 0,.v 1,.v 2,.v 3,.v 4] 0] [] zzs
theorem zhf:Meets Tryz.prog z4a 19 ⟨[.agg 1,.agg 4],[(false,[.pure]),(false,[.scal])],false⟩:=by
 refine z04 (sp:=(z0z [(96,z2l),(117,z3m)])) (sigs:=z1c) (cut:=[]) (hints:=[]) (fn:=Tryz.f19) (t:=zhe) (by kernel_rfl) (by kernel_rfl) (by kernel_rfl) ?_ ?_
 ·exact (z0o (L:=[(96,z2l),(117,z3m)]) ⟨z9 rfl zd6,z9 rfl zd7,trivial⟩)
 ·rintro ds rs hok h
  obtain ⟨⟨k,n⟩,-,rfl,rfl⟩:=z02 h
  clear h
  refine ⟨⟨1,?_⟩,z3s ⟨rfl,trivial⟩⟩
  show den _ _ zhe [.l 1 (k.texts.map z0e),.l 1 (n.t.names.map z03),.l 5 (n.t.blocks.map z0b),.l 3 (n.pool.map eTx),I n.tip] []=ret (z2m k n)
  have a1:=z8f k n
  have a2:=z6p k n.t n.tip
  unfold zhe z2m
  generalize z23 k n=e1 at *
  generalize zx k n.t n.tip=c at *
  obtain ⟨l,e⟩:=c
  simp only at *
  repeat' (first|refine dq1 ?_|refine dqc ?_|refine dqm ?_|refine dqK rfl (a1) ?_|refine dqK rfl (a2) ?_|exact z8 rfl rfl|((first|refine tR ?_ ?_|refine tB ?_ ?_|refine tC ?_ ?_|refine tN ?_ ?_|refine tF ?_ ?_|refine tG ?_ ?_|refine tP ?_ ?_|refine tQ ?_ ?_|refine tA ?_ ?_|refine tO ?_ ?_|refine tU ?_ ?_|refine tV ?_ ?_) <;> intro h)|refine dqT ?_|refine dqF ?_|refine z1v rfl ?_|refine z1m rfl ?_|refine z40 ?_|refine z41 ?_)
end
section
open Go.RowKit
set_option maxRecDepth 100000
set_option maxHeartbeats 4000000
attribute [local irreducible] z0k spD z24
end
section
open Go.RowKit
set_option maxRecDepth 100000
set_option maxHeartbeats 4000000
theorem z0bf {P:Program} {α:Type} {e:α→List Dt} {m k:α→Int} {pk:List PK} {f:Nat} (hpk:z3w pk=false) (hen:En P f) (hm:∀ x,I64 (m x)∧I64 (k x))
  (h:∀ x W F us,(∀ b,F b→b<W.heap.size)→PKRs W F pk (e x) us→Calls P f us.toArray W fun r W'=>r = .returned (.tuple #[.int .i64 (m x),.int .i64 (k x)])∧Below W.heap.size W W') :
  Meets P (z0k e fun x=>[I (m x),I (k x)]) f ⟨pk,[(false,[.scal]),(false,[.scal])],true⟩ :=
 z01j hpk hen (by simp [zl]) (fun x j dd hj hd=>by
  match j,hj,hd with
  | 0,_,hd=>simp only [List.getElem?_cons_zero,Option.some.injEq] at hd;subst hd;rfl
  | 1,_,hd=>simp only [List.getElem?_cons_zero,List.getElem?_cons_succ,Option.some.injEq] at hd;subst hd;rfl
  | j+2,_,hd=>simp at hd) (fun x=>rfl) fun x W F us hF hargs=>(h x W F us hF hargs).mono fun r W' ⟨h1,h2⟩ =>
   ⟨_,[.int .i64 (m x),.int .i64 (k x)],F,h1,h2,⟨[_,_],rfl,_,_,[_],[_],rfl,rfl,⟨rfl,rfl⟩,_,_,[_],[],rfl,rfl,⟨rfl,rfl⟩,rfl,rfl⟩,⟨.i _ _ (wrap_i64 (hm x).1),.i _ _ (wrap_i64 (hm x).2),trivial⟩,fun b hb=>.inl hb⟩
theorem zx0:∀ (l:List Int) (s:Int),0≤s→s≤1000000000→I64 (z99 l s).1∧I64 (z99 l s).2
 | [],s,h0,h1=>⟨⟨by show _≤s;omega,by show s≤_;omega⟩,⟨by show _≤(0:Int);decide,by show (0:Int)≤_;decide⟩⟩
 | x::l,s,h0,h1=>by
  unfold z99
  have hz:I64 0:=⟨by decide,by decide⟩
  have h3:I64 3:=⟨by decide,by decide⟩
  have h12:I64 12:=⟨by decide,by decide⟩
  by_cases hb:0≤x∧x≤1000000000
  ·rw [if_pos hb]
   by_cases hf:1000000000<s+x
   ·rw [if_pos hf];exact ⟨hz,h12⟩
   ·rw [if_neg hf];exact zx0 l (s+x) (by omega) (by omega)
  ·rw [if_neg hb];exact ⟨hz,h3⟩
noncomputable def zbl:za:=spD (fun _:List Int=>True) fun l=>z2i l
theorem zq9 (l:List Int):zbl [.l 1 (l.map z03)]=some [I (z2i l).1,I (z2i l).2]:=zp (f:=fun l:List Int=>z2i l) l trivial
theorem z06m:Meets Tryz.prog zbl 116 ⟨[.one],[(false,[.scal]),(false,[.scal])],true⟩ :=
 z0bf (e:=fun x:{ x:List Int // True }=>Enc.e x.1) (m:=fun x=>(z2i x.1).1) (k:=fun x=>(z2i x.1).2) rfl (z1u (fn:=Tryz.f116) (by kernel_rfl) (by kernel_rfl) (by kernel_rfl)) (fun x=>zx0 x.1 0 (by decide) (by decide)) fun x W F us hF h=>by
  obtain ⟨v,us,rfl,h1,h⟩:=z17 h
  obtain rfl:=z2g h
  obtain ⟨A,n,c,rfl,k1⟩:=z5w z3n h1
  refine (z00i x.1 A n c W F k1).mono ?_
  rintro r W' ⟨rfl,rfl⟩
  exact ⟨rfl,Below.refl _ _⟩
attribute [local irreducible] z0k spD z24 z2i
def zdr (k:List Op):List Int→List Coin→List Int
 | a,[]=>a
 | a,c::r=>if decide (c.o.lock=k)=true then zdr k (a++[c.o.coin]) r else zdr k a r
def zds (l:List Coin) (k:List Op):Int × Int:=if zq l≠0 then (0,zq l) else z2i (zdr k [] l)
noncomputable def zem:za:=spD (fun _:List Coin × List Op=>True) fun x=>zds x.1 x.2
theorem z03c (l:List Coin) (k:List Op):zem [.l 6 (l.map zr),.l 2 (k.map eOp)]=some [I (zds l k).1,I (zds l k).2]:=zp (f:=fun x:List Coin × List Op=>zds x.1 x.2) (l,k) trivial
def z08w:T :=
 .ite (.v 14) (.lets [.mk 1 [[.v 10]]] [] (.lets [.app 1 (.v 5) (.v 15)] [] (.lets [.bin .add (.v 6) (.c (.i .i64 1))] [] (.again 0 [.v 16,.v 17])))) (.lets [.bin .add (.v 6) (.c
 (.i .i64 1))] [] (.again 0 [.v 5,.v 15]))
def z08x:T :=
 .lets [.idx (.v 0) (.v 6) 0,.idx (.v 0) (.v 6) 1,.idx (.v 0) (.v 6) 2,.idx (.v 0) (.v 6) 3,.idx (.v 0) (.v 6) 4,.idx (.v 0) (.v 6) 5] [] (.lets [.call 20 [.v 11,.v 1] 0] []
 z08w)
def z08y:T :=
 .lets [.bin .lss (.v 6) (.v 4)] [] (.ite (.v 7) (.lets [] [.inr 6 (.v 0) (.v 6)] z08x) (.lets [.call 19 [.v 5] 0,.call 19 [.v 5] 1] [] (.ret [.v 8,.v 9])))
def zx1:T :=
 .lets [.call 8 [.v 0] 0] [] (.lets [.bin .neq (.v 2) (.c (.i .i64 0))] [] (.ite (.v 3) (.ret [.c (.i .i64 0),.v 2]) (.lets [.len (.v 0)] [] (.loop [.c (.nil 1),.c (.i .i64 0)]
 z08y))))
theorem z0dg:Meets Tryz.prog zem 133 ⟨[.one,.one],[(false,[.scal]),(false,[.scal])],true⟩:=by
 refine z04 (sp:=(z0z [(8,z20),(19,zbl),(20,zce)])) (sigs:=z1c) (cut:=[]) (hints:=[⟨6,[.r 7 3 1,.t 17]⟩]) (fn:=Tryz.f133) (t:=zx1) (by kernel_rfl) (by kernel_rfl) (by kernel_rfl) ?_ ?_
 ·exact (z0o (L:=[(8,z20),(19,zbl),(20,zce)]) ⟨z9 rfl zal,z9 rfl z06m,z9 rfl z0ay,trivial⟩)
 ·rintro ds rs - h
  obtain ⟨⟨l,q⟩,-,rfl,rfl⟩:=z02 h
  clear h
  refine ⟨⟨l.length+1,?_⟩,z8i rfl rfl⟩
  show den _ _ zx1 [.l 6 (l.map zr),.l 2 (q.map eOp)] []=ret (zds l q)
  unfold zx1 zds
  repeat' (first|refine dq1 ?_|refine dqc ?_|refine dqm ?_|refine dqK rfl (z4p _) ?_|exact z8 rfl rfl|((first|refine tR ?_ ?_|refine tB ?_ ?_|refine tC ?_ ?_|refine tN ?_ ?_|refine tF ?_ ?_|refine tG ?_ ?_|refine tP ?_ ?_|refine tQ ?_ ?_|refine tA ?_ ?_|refine tO ?_ ?_|refine tU ?_ ?_|refine tV ?_ ?_) <;> intro h)|refine dqT ?_|refine dqF ?_|refine z1v rfl ?_|refine z1m rfl ?_|refine z40 ?_|refine z41 ?_)
  have ok:=(z0q l).1 (Decidable.not_not.1 h)
  have hl:=ok.len
  (refine z14 (fun (a:List Int) k=>[.l 1 (a.map z03),I k]) (fun (a:List Int) _ (r:List Coin)=>z2i (zdr q a r)) (fun a k=>a.length≤k) ([]:List Int) l ?_ ?_ ?_ ?_ ?_;rfl;exact Nat.le_refl _;first|exact Nat.lt_succ_self _|omega)
  ·rintro a k c r hx hd hk ha again hag
   rw [zdr]
   have e:z2i (if decide (c.o.lock=q)=true then zdr q (a++[c.o.coin]) r else zdr q a r)=if decide (c.o.lock=q)=true then z2i (zdr q (a++[c.o.coin]) r) else z2i (zdr q a r):=by split <;> rfl
   rw [e]
   repeat' (first|refine dq1 ?_|refine dqc ?_|refine dqm ?_|refine dqK rfl (zyj _ _) ?_|exact z8 rfl rfl|((first|refine tR ?_ ?_|refine tB ?_ ?_|refine tC ?_ ?_|refine tN ?_ ?_|refine tF ?_ ?_|refine tG ?_ ?_|refine tP ?_ ?_|refine tQ ?_ ?_|refine tA ?_ ?_|refine tO ?_ ?_|refine tU ?_ ?_|refine tV ?_ ?_) <;> intro h)|refine dqT ?_|refine dqF ?_|refine z1v rfl ?_|refine z1m rfl ?_|refine z40 ?_|refine z41 ?_)
   ·exact z09 rfl rfl (hag (a++[c.o.coin]) (by simp;omega))
   ·exact z09 rfl rfl (hag a (by omega))
  ·rintro a - again
   rw [zdr]
   repeat' (first|refine dq1 ?_|refine dqc ?_|refine dqm ?_|refine dqK rfl (zq9 _) ?_|exact z8 rfl rfl|((first|refine tR ?_ ?_|refine tB ?_ ?_|refine tC ?_ ?_|refine tN ?_ ?_|refine tF ?_ ?_|refine tG ?_ ?_|refine tP ?_ ?_|refine tQ ?_ ?_|refine tA ?_ ?_|refine tO ?_ ?_|refine tU ?_ ?_|refine tV ?_ ?_) <;> intro h)|refine dqT ?_|refine dqF ?_|refine z1v rfl ?_|refine z1m rfl ?_|refine z40 ?_|refine z41 ?_)
end
end Go.Proofs.YtdpbicpeimhopaaGreatDoor
