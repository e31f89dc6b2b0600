/- Own texts, put together by wip/bundle.py: VB2, VB3, VT3, VS2, VS3, VL7, VS4, VB4, VU3, VU4, VB5, VC0, VEr, VC1, VB6, VCT, VU7, VRow, VDel, VIns, VU8, VU9, VPU, VPB, VC2, VC3, VC5. -/
import Derived.Lib.FieldsLaws
import Derived.Laws.IdiomCopy
import Derived.Lib.AppendZerosOnto
import Derived.Deep.RegionLaw
import Derived.Lib.Hide
import Derived.Laws.Externs
import Derived.Laws.NewBlocks
import Derived.Test.YtgkfhlnklienoaaGreatDoorNTOwnB
import Derived.Test.YtgkfhlnklienoaaGreatDoorNTOwnC
import Derived.Test.YtgkfhlnklienoaaGreatDoorNTOwnR
import Derived.Test.YtgkfhlnklienoaaGreatDoorNTOwnS
import Derived.Test.YtgkfhlnklienoaaGreatDoorNTOwnV2
import Derived.Test.YtgkfhlnklienoaaGreatDoorNTOwnZ1
set_option linter.unusedVariables false
set_option linter.unusedSimpArgs false
namespace Go.Proofs.YtgkfhlnklienoaaGreatDoor
section
open Go.RowKit Go.Shelf
open Go.Lib (itoa)
set_option maxRecDepth 100000
set_option maxHeartbeats 4000000 in
theorem zrg (t:Tx) (cs:List Value) {w0 W:World} {F0:Nat→Prop} {Γ:List Res} (hS:Sep w0 F0 Γ W) (ht:At Γ (rep t cs shTx)) (hG:Glob w0) :
  Calls Tryz.prog 50 #[.agg cs.toArray] W (RV w0 F0 Γ (.tuple #[.string ⟨(zp t).1.toArray⟩,.int .i64 (zp t).2])):=by
 (have hO:=hS.open_tx ht;clear hS;obtain ⟨A,n,c,A2,n2,c2,rfl,i1,hS⟩:=hO)
 obtain ⟨hl1,hn1,hc1⟩:=hS.len (xs:=t.ins) (by repeat (with_reducible exact At.z))
 obtain ⟨hl2,hn2,hc2⟩:=hS.len (xs:=t.outs) (by repeat (first|with_reducible exact At.z|apply At.s))
 have HP:=Lib.hid (show zp t=if zl t≠0 then ([],zl t) else (z1h t,0) from rfl)
 generalize zp t=R at *
 have L1:=Lib.hid hl1
 have L2:=Lib.hid hl2
 clear hl1 hl2
 go_enter Tryz.func50,Tryz.ntmps50
 (go_wp2_with ((refine Sep.wbox hS (by rfl) rfl rfl ?_;clear hS;intro gt W hS;refine Stop.go ?_));refine Stop.mk ?_)
 go_wp2_with (((refine Sep.wloadNb hS (by rfl) rfl rfl (by repeat (with_reducible exact At.z)) (z9o rfl) ?_)))
 refine (hS.old (ze8 t [_,_,_] _ _ (hS.ltsRep (At.s (At.s (At.s ht)))) (fun b hb=>hb))).mono ?_;clear hS;rintro e W ⟨rfl,hS⟩
 rcases Classical.em (zl t=0) with h0|h0
 ·rw [h0]
  have HR:Hid (R=(z1h t,0)):=Lib.hid (by rw [HP.out,if_neg (fun h=>h h0)])
  have H0:=Lib.hid h0
  have hlen:n≤6∧n2≤6:=by
   have q:=h0
   unfold zl z2i at q
   have:=L1.out
   have:=L2.out
   by_cases h6:6<t.ins.length∨6<t.outs.length
   ·rw [if_pos h6] at q;simp at q
   ·omega
  clear h0 HP
  have b0:=hS.boxCell (g:=gt) At.z 0 _ rfl
  have b1:=hS.boxCell (g:=gt) At.z 1 _ rfl
  have b2:=hS.boxCell (g:=gt) At.z 2 _ rfl
  have gl:gt<W.heap.size:=(Array.getElem?_eq_some_iff.1 (hS.getBox (g:=gt) At.z).2).1
  have hΔ:FactsW W (Lt W.heap.size) [rds t.ins A n c shIn,rds t.outs A2 n2 c2 shOut]:=.rds (hS.ltsRds (by repeat (first|with_reducible exact At.z|apply At.s))) (.rds (hS.ltsRds (by repeat (first|with_reducible exact At.z|apply At.s))) .nil)
  have hG1:Glob W:=hG.on hS.below
  obtain ⟨h,ins,outs⟩:=t
  simp only at *
  rename World=>Wb
  have hSo:=hS
  clear hS
  (go_wp2_with (first|(refine wsb (by rfl) rfl z_sb hΔ ?_;intro W1 hS;refine Stop.go ?_));refine Stop.mk ?_)
  have c0:=(hS.below.cell (p:=⟨gt,0,none⟩) gl).trans b0
  go_wp2_with fail
  refine (hS.old (zb1 h i1 (hG1.on hS.below))).mono ?_;clear hS;rintro e W ⟨rfl,hS⟩
  have li:=z6a h i1
  go_wp2_with fail
  refine (hS.write (l:=[]) (by repeat (with_reducible exact At.z)) hΔ _ (by simp [ByteArray.size];omega)).mono ?_
  clear hS
  rintro e W2 ⟨⟨v,rfl⟩,hS⟩
  have c1:=(hS.below.cell (p:=⟨gt,1,none⟩) gl).trans b1
  go_wp2_with fail
  have e0:[]++((⟨#[116,120,32]⟩:ByteArray)++⟨(itoa h).toArray⟩++⟨#[10]⟩).data.toList=z7y ⟨h,ins,outs⟩:=by simp [ByteArray.data_append,z7y]
  rw [e0] at hS
  clear e0
  have lh:(z7y ⟨h,ins,outs⟩).length≤24:=by simp [z7y];omega
  go_loopw [7,8,9,28] (fun _ _ _ i wr=>∃ k:Nat,k≤n∧i = .int .i64 k∧∃ l:List UInt8,l.length≤24+200 * k∧Hid (l=z7y ⟨h,ins,outs⟩++(ins.take k).flatMap z85)∧Sep Wb (Lt Wb.heap.size) (sb Wb.heap.size l::rds ins A n c shIn::rds outs A2 n2 c2 shOut::[]) wr) (fun _ _ _ i _=>n - (intOf i).toNat)
  case atStart=>exact ⟨0,by omega,rfl,z7y ⟨h,ins,outs⟩,by omega,Lib.hid (by simp),hS.sub (by repeat (with_reducible exact Sub.refl))⟩
  case round =>
   clear hS c1 c0
   obtain ⟨k,hk,rfl,l,hl,HL,hS⟩:=hrel
   rcases Classical.em (k<n) with hlt|hlt
   ·(have hO:=hS.elemIn (xs:=ins) (by repeat (first|with_reducible exact At.z|apply At.s)) hlt;clear hS;obtain ⟨b,off,x,A1,n1,c1,rfl,hx,j1,j2,hS⟩:=hO)
    have HX:=Lib.hid hx
    have k1:(0:Int)≤(k:Int):=by omega
    have k2:(k:Int)<(n:Int):=by omega
    clear hx
    obtain ⟨⟨ptx,pat⟩,key⟩:=x
    simp only at j1 j2 hS
    (go_wp2_with (first|(refine Sep.wloadNz hS (by rfl) rfl rfl (by repeat (first|with_reducible exact At.z|apply At.s)) (z9o rfl) ?_)|(refine Sep.walloc hS (by rfl) rfl (by first|exact z_op|exact z_in) ?_;clear hS;intro g W hS)|(refine Sep.wstoreNb hS (by rfl) rfl rfl rfl (z9o rfl) (by simp [zko,Value.oneCell']) (by repeat (first|with_reducible exact At.z|apply At.s)) (by rfl) (by repeat (first|with_reducible exact Put.z|apply Put.s)) ?_;clear hS;intro W hS;refine Stop.go ?_));refine Stop.mk ?_)
    have x2:=hS.boxCell (g:=g) (cs:=[.int .i64 ptx,.int .i64 pat,.slice A1 n1 c1]) (by repeat (with_reducible exact At.z)) 2 _ rfl
    go_wp2_with fail
    refine (hS.old (zjw key ⟨fun b hb=>hb,hG1.on hS.below⟩ (hS.ltsRds (by repeat (first|with_reducible exact At.z|apply At.s))))).mono ?_;clear hS;rintro e W ⟨rfl,hS⟩
    clear x2
    have lp:=zbx key
    have l1:=z6a ptx j1
    have l2:=z6a pat j2
    go_wp2_with fail
    (refine Sep.regionT hS [15] (by kernel_rfl) ?_;clear hS;intro W hS)
    (refine z29 0 rfl rfl (by ((apply Yl.pure;intro W;go_simp;with_reducible rfl))) (hS.sub (by repeat (with_reducible exact Sub.refl))) (by kernel_rfl) (fun _ _ _ h=>h) ?_;simp only [Act.put,List.setIfInBounds_toArray,List.set_cons_zero,List.set_cons_succ])
    (refine z29 1 rfl rfl (by ((apply Yl.pure;intro W;go_simp;with_reducible rfl))) (hS.sub (by repeat (with_reducible exact Sub.refl))) (by kernel_rfl) (fun _ _ _ h=>h) ?_;simp only [Act.put,List.setIfInBounds_toArray,List.set_cons_zero,List.set_cons_succ])
    (refine z29 2 rfl rfl (by (exact Yl.load1b rfl rfl (zf4 rfl) (by repeat (with_reducible exact At.z)) rfl)) (hS.sub (by repeat (with_reducible exact Sub.refl))) (by kernel_rfl) (fun _ _ _ h=>h) ?_;simp only [Act.put,List.setIfInBounds_toArray,List.set_cons_zero,List.set_cons_succ])
    (refine z29 6 rfl rfl (by ((apply Yl.pure;intro W;go_simp;with_reducible rfl))) (hS.sub (by repeat (with_reducible exact Sub.refl))) (by kernel_rfl) (fun _ _ _ h=>h) ?_;simp only [Act.put,List.setIfInBounds_toArray,List.set_cons_zero,List.set_cons_succ])
    (refine z29 7 rfl rfl (by ((apply Yl.pure;intro W;go_simp;with_reducible rfl))) (hS.sub (by repeat (with_reducible exact Sub.refl))) (by kernel_rfl) (fun _ _ _ h=>h) ?_;simp only [Act.put,List.setIfInBounds_toArray,List.set_cons_zero,List.set_cons_succ])
    (refine z29 8 rfl rfl (by (exact Yl.load1b rfl rfl (zf4 rfl) (by repeat (with_reducible exact At.z)) rfl)) (hS.sub (by repeat (with_reducible exact Sub.refl))) (by kernel_rfl) (fun _ _ _ h=>h) ?_;simp only [Act.put,List.setIfInBounds_toArray,List.set_cons_zero,List.set_cons_succ])
    (refine z29 12 rfl rfl (by (exact Yl.move rfl)) (hS.sub (by repeat (with_reducible exact Sub.refl))) (by kernel_rfl) (fun _ _ _ h=>h) ?_;simp only [Act.put,List.setIfInBounds_toArray,List.set_cons_zero,List.set_cons_succ])
    refine zi5 3 (by kernel_rfl) rfl ?_
    go_wp2_with fail
    refine (hS.old (zb1 ptx j1 (hG1.on hS.below))).mono ?_;clear hS;rintro e W ⟨rfl,hS⟩
    go_wp2_with fail
    (refine ⟨fun _=>hS.sub (by repeat (with_reducible exact Sub.refl)),?_⟩;try simp only [Act.put,List.setIfInBounds_toArray,List.set_cons_zero,List.set_cons_succ])
    (refine z29 4 rfl rfl (Yl.cat rfl rfl rfl (by simp only [List.length_append,List.length_cons,List.length_nil];omega)) (hS.sub (by repeat (with_reducible exact Sub.refl))) (by kernel_rfl) (fun _ _ _ h=>h) ?_;simp only [Act.put,List.setIfInBounds_toArray,List.set_cons_zero,List.set_cons_succ])
    (refine z29 5 rfl rfl (Yl.cat rfl rfl rfl (by simp only [List.length_append,List.length_cons,List.length_nil];omega)) (hS.sub (by repeat (with_reducible exact Sub.refl))) (by kernel_rfl) (fun _ _ _ h=>h) ?_;simp only [Act.put,List.setIfInBounds_toArray,List.set_cons_zero,List.set_cons_succ])
    refine zi5 9 (by kernel_rfl) rfl ?_
    go_wp2_with fail
    refine (hS.old (zb1 pat j2 (hG1.on hS.below))).mono ?_;clear hS;rintro e W ⟨rfl,hS⟩
    go_wp2_with fail
    (refine ⟨fun _=>hS.sub (by repeat (with_reducible exact Sub.refl)),?_⟩;try simp only [Act.put,List.setIfInBounds_toArray,List.set_cons_zero,List.set_cons_succ])
    (refine z29 10 rfl rfl (Yl.cat rfl rfl rfl (by simp only [List.length_append,List.length_cons,List.length_nil];omega)) (hS.sub (by repeat (with_reducible exact Sub.refl))) (by kernel_rfl) (fun _ _ _ h=>h) ?_;simp only [Act.put,List.setIfInBounds_toArray,List.set_cons_zero,List.set_cons_succ])
    (refine z29 11 rfl rfl (Yl.cat rfl rfl rfl (by simp only [List.length_append,List.length_cons,List.length_nil];omega)) (hS.sub (by repeat (with_reducible exact Sub.refl))) (by kernel_rfl) (fun _ _ _ h=>h) ?_;simp only [Act.put,List.setIfInBounds_toArray,List.set_cons_zero,List.set_cons_succ])
    (refine z29 13 rfl rfl (Yl.cat rfl rfl rfl (by simp only [List.length_append,List.length_cons,List.length_nil];omega)) (hS.sub (by repeat (with_reducible exact Sub.refl))) (by kernel_rfl) (fun _ _ _ h=>h) ?_;simp only [Act.put,List.setIfInBounds_toArray,List.set_cons_zero,List.set_cons_succ])
    (refine z29 14 rfl rfl (Yl.cat rfl rfl rfl (by simp only [List.length_append,List.length_cons,List.length_nil];omega)) (hS.sub (by repeat (with_reducible exact Sub.refl))) (by kernel_rfl) (fun _ _ _ h=>h) ?_;simp only [Act.put,List.setIfInBounds_toArray,List.set_cons_zero,List.set_cons_succ])
    refine zi5 15 (by kernel_rfl) rfl ?_
    go_wp2_with fail
    refine (hS.write (l:=l) (by repeat (first|with_reducible exact At.z|apply At.s)) hΔ _ (by simp [ByteArray.size];omega)).mono ?_
    clear hS
    rintro e W2 ⟨⟨v,rfl⟩,hS⟩
    go_wp2_with fail
    (refine ⟨fun h=>z05w (by kernel_rfl) h,?_⟩;try simp only [Act.put,List.setIfInBounds_toArray,List.set_cons_zero,List.set_cons_succ])
    refine zjv (by kernel_rfl) ?_
    go_wp2_with fail
    rw [show l++105::110::32::(itoa ptx++32::(itoa pat++58::((z4c key).1++[10])))=l++z85 ⟨⟨ptx,pat⟩,key⟩ by simp [z85]] at hS
    go_roundw
    case measure=>simp [intOf];omega
    case rel=>exact ⟨k+1,by omega,by go_num,l++z85 ⟨⟨ptx,pat⟩,key⟩,by simp [z85];omega,Lib.hid (by rw [z43 HX.out,HL.out];simp),hS.sub (by repeat (with_reducible exact Sub.refl))⟩
   ·obtain rfl:k=n:=by omega
    have d2:=(hS.below.cell (p:=⟨gt,2,none⟩) gl).trans b2
    have HL2:Hid (l=z7y ⟨h,ins,outs⟩++ins.flatMap z85):=Lib.hid (by rw [HL.out,List.take_of_length_le (by have:=L1.out;omega)])
    clear HL
    go_wp2_with fail
    clear d2
    go_loopw [11,12,13,58] (fun _ _ _ i wr=>∃ k:Nat,k≤n2∧i = .int .i64 k∧∃ m:List UInt8,m.length≤l.length+200 * k∧Hid (m=l++(outs.take k).flatMap z7x)∧Sep Wb (Lt Wb.heap.size) (sb Wb.heap.size m::rds outs A2 n2 c2 shOut::[]) wr) (fun _ _ _ i _=>n2 - (intOf i).toNat)
    case atStart=>exact ⟨0,by omega,rfl,l,by omega,Lib.hid (by simp),hS.sub (by repeat (first|with_reducible exact Sub.nil|refine Sub.take (by repeat (first|with_reducible exact Del.z|apply Del.s)) ?_))⟩
    case round =>
     clear hS
     obtain ⟨k,hk,rfl,m,hm,HM,hS⟩:=hrel
     rcases Classical.em (k<n2) with hlt|hlt
     ·(have hO:=hS.elemOut (xs:=outs) (by repeat (first|with_reducible exact At.z|apply At.s)) hlt;clear hS;obtain ⟨b,off,x,A1,n1,c1,rfl,hx,j1,hS⟩:=hO)
      have HX:=Lib.hid hx
      have k1:(0:Int)≤(k:Int):=by omega
      have k2:(k:Int)<(n2:Int):=by omega
      clear hx
      obtain ⟨coin,lock⟩:=x
      simp only at j1 hS
      (go_wp2_with (first|(refine Sep.wloadNz hS (by rfl) rfl rfl (by repeat (first|with_reducible exact At.z|apply At.s)) (z9o rfl) ?_)|(refine Sep.walloc hS (by rfl) rfl (by first|exact z_op|exact z0kg) ?_;clear hS;intro g W hS)|(refine Sep.wstoreNb hS (by rfl) rfl rfl rfl (z9o rfl) (by simp [zko,Value.oneCell']) (by repeat (first|with_reducible exact At.z|apply At.s)) (by rfl) (by repeat (first|with_reducible exact Put.z|apply Put.s)) ?_;clear hS;intro W hS;refine Stop.go ?_));refine Stop.mk ?_)
      have x1:=hS.boxCell (g:=g) (cs:=[.int .i64 coin,.slice A1 n1 c1]) (by repeat (with_reducible exact At.z)) 1 _ rfl
      go_wp2_with fail
      refine (hS.old (zjw lock ⟨fun b hb=>hb,hG1.on hS.below⟩ (hS.ltsRds (by repeat (first|with_reducible exact At.z|apply At.s))))).mono ?_;clear hS;rintro e W ⟨rfl,hS⟩
      clear x1
      have lp:=zbx lock
      have l1:=z6a coin j1
      have x0:=hS.boxCell (g:=g) (cs:=[.int .i64 coin,.slice A1 n1 c1]) (by repeat (with_reducible exact At.z)) 0 _ rfl
      go_wp2_with fail
      refine (hS.old (zb1 coin j1 (hG1.on hS.below))).mono ?_;clear hS;rintro e W ⟨rfl,hS⟩
      clear x0
      go_wp2_with fail
      refine (hS.write (l:=m) (by repeat (first|with_reducible exact At.z|apply At.s)) hΔ _ (by simp [ByteArray.size];omega)).mono ?_
      clear hS
      rintro e W2 ⟨⟨v,rfl⟩,hS⟩
      go_wp2_with fail
      have e2:((⟨#[111,117,116,32]⟩:ByteArray)++⟨(itoa coin).toArray⟩++⟨#[58]⟩++⟨(z4c lock).1.toArray⟩++⟨#[10]⟩).data.toList=z7x ⟨coin,lock⟩:=by simp [ByteArray.data_append,z7x]
      rw [e2] at hS
      clear e2
      go_roundw
      case measure=>simp [intOf];omega
      case rel=>exact ⟨k+1,by omega,by go_num,m++z7x ⟨coin,lock⟩,by simp [z7x];omega,Lib.hid (by rw [z43 HX.out,HM.out];simp),hS.sub (by repeat (first|with_reducible exact Sub.nil|refine Sub.take (by repeat (first|with_reducible exact Del.z|apply Del.s)) ?_))⟩
     ·obtain rfl:k=n2:=by omega
      go_wp2_with fail
      refine (hS.text (by repeat (with_reducible exact At.z))).mono ?_
      clear hS
      rintro e W3 ⟨rfl,hB⟩
      have hS:=hSo.belows hB
      go_wp2_with fail
      have em:m=z1h ⟨h,ins,outs⟩:=by rw [HM.out,HL2.out,List.take_of_length_le (by have:=L2.out;omega)];rfl
      rw [em]
      refine bodyPost_ret (zgb rfl (by exact Got.tmp rfl) (by exact Got.tmp rfl)) rfl ?_
      exact ⟨by rw [HR.out];rfl,hS.sub (by repeat (first|with_reducible exact Sub.refl|apply Sub.skip))⟩
 ·have q:((zl t) != 0)=true:=by simp [h0]
  have HR:Hid (R=([],zl t)):=Lib.hid (by rw [HP.out,if_pos h0])
  clear h0 HP
  go_wp2_with fail
  refine bodyPost_ret (zgb rfl (by exact Got.tmp rfl) (by exact Got.tmp rfl)) rfl ?_
  exact ⟨by rw [HR.out];rfl,hS.sub (by repeat (first|with_reducible exact Sub.refl|apply Sub.skip))⟩
end
section
open Go.RowKit Go.Shelf
open Go.Lib (itoa)
set_option maxRecDepth 100000
noncomputable def z37:z6:=spD (fun _:Tx=>True) fun t=>zp t
theorem zt1 (t:Tx):z37 (eTx t)=some [.s (zp t).1,I (zp t).2]:=zb (f:=fun t:Tx=>zp t) t trivial
theorem z07m (t:Tx):I64 (zp t).2:=by
 unfold zp
 split
 ·exact (z076 t).i64
 ·show I64 0
  exact ⟨by decide,by decide⟩
theorem zi7:Meets Tryz.prog z37 50 ⟨[.agg 3],[(false,[.scal]),(false,[.scal])],true⟩ :=
 z5g rfl (z1u (fn:=Tryz.f50) (by kernel_rfl) (by kernel_rfl) (by kernel_rfl)) fun t _ W F us hF h=>by
  obtain ⟨cs,rfl,hr⟩:=zcy h
  have hS:Sep W F [rep t cs shTx] W:=(Sep.start W F hF.1).addRep (S:=shTx) (shTx.more (fun b hb=>⟨.inl hb,by simp⟩) (she_tx.of hr))
  refine (zrg t cs hS At.z hF.2).mono ?_
  rintro e w' ⟨rfl,hS'⟩
  exact ⟨_,rfl,hS'.below,zjg rfl rfl (.s _ (by have:=zmm t;omega)) (.i _ _ (wrap_i64 (z07m t)))⟩
theorem Yl.base {P:Program} {w0:World} {F0:Nat→Prop} {Γ:List Res} {o:Oper} {a:Act} {t:TypeId} {x:Operand} {g j:Nat} {v:Value} (ho:o.op = .load t x) (hx:a.eval x = .pointer (some ⟨g,j,none⟩)) (h1:OneT P t) (hg:g<w0.heap.size) (hc:w0.cell? ⟨g,j,none⟩=some v):Yl P w0 F0 Γ o a v :=
 Yl.load ho hx fun W hS=>h1.load ((hS.below.cell (p:=⟨g,j,none⟩) hg).trans hc)
set_option maxHeartbeats 4000000 in
theorem z07n (t:Block) (cs:List Value) {w0 W:World} {F0:Nat→Prop} {Γ:List Res} (hS:Sep w0 F0 Γ W) (ht:At Γ (rep t cs shBlock)) (hG:Glob w0) :
  Calls Tryz.prog 11 #[.agg cs.toArray] W (RV w0 F0 Γ (.tuple #[.string ⟨(z0d t).1.toArray⟩,.int .i64 (z0d t).2])):=by
 (have hO:=hS.open_block ht;clear hS;obtain ⟨A,n,c,rfl,i1,i2,i3,i4,hS⟩:=hO)
 obtain ⟨hl1,hn1,hc1⟩:=hS.len (xs:=t.txs) (by repeat (with_reducible exact At.z))
 have HP:=Lib.hid (show z0d t=if za t≠0 then ([],za t) else (z1a t,0) from rfl)
 generalize z0d t=R at *
 have L1:=Lib.hid hl1
 clear hl1
 go_enter Tryz.func11,Tryz.ntmps11
 (go_wp2_with ((refine Sep.wbox hS (by rfl) rfl rfl ?_;clear hS;intro gt W hS;refine Stop.go ?_));refine Stop.mk ?_)
 go_wp2_with (((refine Sep.wloadNb hS (by rfl) rfl rfl (by repeat (with_reducible exact At.z)) (z9o rfl) ?_)))
 refine (hS.old (zew t [_,_,_,_,_] _ _ (hS.ltsRep (At.s (At.s ht))) (fun b hb=>hb))).mono ?_;clear hS;rintro e W ⟨rfl,hS⟩
 rcases Classical.em (za t=0) with h0|h0
 ·rw [h0]
  have HR:Hid (R=(z1a t,0)):=Lib.hid (by rw [HP.out,if_neg (fun h=>h h0)])
  have H0:=Lib.hid h0
  have hlen:n≤4:=by have:=(z3w h0).len;have:=L1.out;omega
  clear h0 HP
  have b0:=hS.boxCell (g:=gt) At.z 0 _ rfl
  have b1:=hS.boxCell (g:=gt) At.z 1 _ rfl
  have b2:=hS.boxCell (g:=gt) At.z 2 _ rfl
  have b3:=hS.boxCell (g:=gt) At.z 3 _ rfl
  have b4:=hS.boxCell (g:=gt) At.z 4 _ rfl
  have gl:gt<W.heap.size:=(Array.getElem?_eq_some_iff.1 (hS.getBox (g:=gt) At.z).2).1
  have hΔ:FactsW W (Lt W.heap.size) [rds t.txs A n c shTx]:=.rds (hS.ltsRds (by repeat (first|with_reducible exact At.z|apply At.s))) .nil
  have hG1:Glob W:=hG.on hS.below
  obtain ⟨bp,bh,bw,bn,txs⟩:=t
  simp only at *
  rename World=>Wb
  have hSo:=hS
  clear hS
  (go_wp2_with (first|(refine wsb (by rfl) rfl z_sb hΔ ?_;intro W1 hS;refine Stop.go ?_));refine Stop.mk ?_)
  have l1:=z6a bp i1
  have l2:=z6a bh i2
  have l3:=z6a bw i3
  have l4:=z6a bn i4
  go_wp2_with fail
  (refine Sep.regionT hS [20] (by kernel_rfl) ?_;clear hS;intro W hS)
  (refine z29 0 rfl rfl (by ((apply Yl.pure;intro W;go_simp;with_reducible rfl))) (hS.sub (by repeat (with_reducible exact Sub.refl))) (by kernel_rfl) (fun _ _ _ h=>h) ?_;simp only [Act.put,List.setIfInBounds_toArray,List.set_cons_zero,List.set_cons_succ])
  (refine z29 1 rfl rfl (Yl.base rfl rfl (zf4 rfl) gl b0) (hS.sub (by repeat (with_reducible exact Sub.refl))) (by kernel_rfl) (fun _ _ _ h=>h) ?_;simp only [Act.put,List.setIfInBounds_toArray,List.set_cons_zero,List.set_cons_succ])
  (refine z29 5 rfl rfl (by ((apply Yl.pure;intro W;go_simp;with_reducible rfl))) (hS.sub (by repeat (with_reducible exact Sub.refl))) (by kernel_rfl) (fun _ _ _ h=>h) ?_;simp only [Act.put,List.setIfInBounds_toArray,List.set_cons_zero,List.set_cons_succ])
  (refine z29 6 rfl rfl (Yl.base rfl rfl (zf4 rfl) gl b1) (hS.sub (by repeat (with_reducible exact Sub.refl))) (by kernel_rfl) (fun _ _ _ h=>h) ?_;simp only [Act.put,List.setIfInBounds_toArray,List.set_cons_zero,List.set_cons_succ])
  (refine z29 10 rfl rfl (by ((apply Yl.pure;intro W;go_simp;with_reducible rfl))) (hS.sub (by repeat (with_reducible exact Sub.refl))) (by kernel_rfl) (fun _ _ _ h=>h) ?_;simp only [Act.put,List.setIfInBounds_toArray,List.set_cons_zero,List.set_cons_succ])
  (refine z29 11 rfl rfl (Yl.base rfl rfl (zf4 rfl) gl b2) (hS.sub (by repeat (with_reducible exact Sub.refl))) (by kernel_rfl) (fun _ _ _ h=>h) ?_;simp only [Act.put,List.setIfInBounds_toArray,List.set_cons_zero,List.set_cons_succ])
  (refine z29 15 rfl rfl (by ((apply Yl.pure;intro W;go_simp;with_reducible rfl))) (hS.sub (by repeat (with_reducible exact Sub.refl))) (by kernel_rfl) (fun _ _ _ h=>h) ?_;simp only [Act.put,List.setIfInBounds_toArray,List.set_cons_zero,List.set_cons_succ])
  (refine z29 16 rfl rfl (Yl.base rfl rfl (zf4 rfl) gl b3) (hS.sub (by repeat (with_reducible exact Sub.refl))) (by kernel_rfl) (fun _ _ _ h=>h) ?_;simp only [Act.put,List.setIfInBounds_toArray,List.set_cons_zero,List.set_cons_succ])
  refine zi5 2 (by kernel_rfl) rfl ?_
  go_wp2_with fail
  refine (hS.old (zb1 bp i1 (hG1.on hS.below))).mono ?_;clear hS;rintro e W ⟨rfl,hS⟩
  go_wp2_with fail
  (refine ⟨fun _=>hS.sub (by repeat (with_reducible exact Sub.refl)),?_⟩;try simp only [Act.put,List.setIfInBounds_toArray,List.set_cons_zero,List.set_cons_succ])
  (refine z29 3 rfl rfl (Yl.cat rfl rfl rfl (by simp only [List.length_append,List.length_cons,List.length_nil];omega)) (hS.sub (by repeat (with_reducible exact Sub.refl))) (by kernel_rfl) (fun _ _ _ h=>h) ?_;simp only [Act.put,List.setIfInBounds_toArray,List.set_cons_zero,List.set_cons_succ])
  (refine z29 4 rfl rfl (Yl.cat rfl rfl rfl (by simp only [List.length_append,List.length_cons,List.length_nil];omega)) (hS.sub (by repeat (with_reducible exact Sub.refl))) (by kernel_rfl) (fun _ _ _ h=>h) ?_;simp only [Act.put,List.setIfInBounds_toArray,List.set_cons_zero,List.set_cons_succ])
  refine zi5 7 (by kernel_rfl) rfl ?_
  go_wp2_with fail
  refine (hS.old (zb1 bh i2 (hG1.on hS.below))).mono ?_;clear hS;rintro e W ⟨rfl,hS⟩
  go_wp2_with fail
  (refine ⟨fun _=>hS.sub (by repeat (with_reducible exact Sub.refl)),?_⟩;try simp only [Act.put,List.setIfInBounds_toArray,List.set_cons_zero,List.set_cons_succ])
  (refine z29 8 rfl rfl (Yl.cat rfl rfl rfl (by simp only [List.length_append,List.length_cons,List.length_nil];omega)) (hS.sub (by repeat (with_reducible exact Sub.refl))) (by kernel_rfl) (fun _ _ _ h=>h) ?_;simp only [Act.put,List.setIfInBounds_toArray,List.set_cons_zero,List.set_cons_succ])
  (refine z29 9 rfl rfl (Yl.cat rfl rfl rfl (by simp only [List.length_append,List.length_cons,List.length_nil];omega)) (hS.sub (by repeat (with_reducible exact Sub.refl))) (by kernel_rfl) (fun _ _ _ h=>h) ?_;simp only [Act.put,List.setIfInBounds_toArray,List.set_cons_zero,List.set_cons_succ])
  refine zi5 12 (by kernel_rfl) rfl ?_
  go_wp2_with fail
  refine (hS.old (zb1 bw i3 (hG1.on hS.below))).mono ?_;clear hS;rintro e W ⟨rfl,hS⟩
  go_wp2_with fail
  (refine ⟨fun _=>hS.sub (by repeat (with_reducible exact Sub.refl)),?_⟩;try simp only [Act.put,List.setIfInBounds_toArray,List.set_cons_zero,List.set_cons_succ])
  (refine z29 13 rfl rfl (Yl.cat rfl rfl rfl (by simp only [List.length_append,List.length_cons,List.length_nil];omega)) (hS.sub (by repeat (with_reducible exact Sub.refl))) (by kernel_rfl) (fun _ _ _ h=>h) ?_;simp only [Act.put,List.setIfInBounds_toArray,List.set_cons_zero,List.set_cons_succ])
  (refine z29 14 rfl rfl (Yl.cat rfl rfl rfl (by simp only [List.length_append,List.length_cons,List.length_nil];omega)) (hS.sub (by repeat (with_reducible exact Sub.refl))) (by kernel_rfl) (fun _ _ _ h=>h) ?_;simp only [Act.put,List.setIfInBounds_toArray,List.set_cons_zero,List.set_cons_succ])
  refine zi5 17 (by kernel_rfl) rfl ?_
  go_wp2_with fail
  refine (hS.old (zb1 bn i4 (hG1.on hS.below))).mono ?_;clear hS;rintro e W ⟨rfl,hS⟩
  go_wp2_with fail
  (refine ⟨fun _=>hS.sub (by repeat (with_reducible exact Sub.refl)),?_⟩;try simp only [Act.put,List.setIfInBounds_toArray,List.set_cons_zero,List.set_cons_succ])
  (refine z29 18 rfl rfl (Yl.cat rfl rfl rfl (by simp only [List.length_append,List.length_cons,List.length_nil];omega)) (hS.sub (by repeat (with_reducible exact Sub.refl))) (by kernel_rfl) (fun _ _ _ h=>h) ?_;simp only [Act.put,List.setIfInBounds_toArray,List.set_cons_zero,List.set_cons_succ])
  (refine z29 19 rfl rfl (Yl.cat rfl rfl rfl (by simp only [List.length_append,List.length_cons,List.length_nil];omega)) (hS.sub (by repeat (with_reducible exact Sub.refl))) (by kernel_rfl) (fun _ _ _ h=>h) ?_;simp only [Act.put,List.setIfInBounds_toArray,List.set_cons_zero,List.set_cons_succ])
  refine zi5 20 (by kernel_rfl) rfl ?_
  go_wp2_with fail
  refine (hS.write (l:=[]) (by repeat (with_reducible exact At.z)) hΔ _ (by simp [ByteArray.size];omega)).mono ?_
  clear hS
  rintro e W2 ⟨⟨v,rfl⟩,hS⟩
  go_wp2_with fail
  (refine ⟨fun h=>z05w (by kernel_rfl) h,?_⟩;try simp only [Act.put,List.setIfInBounds_toArray,List.set_cons_zero,List.set_cons_succ])
  refine zjv (by kernel_rfl) ?_
  have e0:[]++98::108::111::99::107::32::(itoa bp++32::(itoa bh++32::(itoa bw++32::(itoa bn++[10]))))=z7d ⟨bp,bh,bw,bn,txs⟩:=by simp [z7d]
  have lh:(z7d ⟨bp,bh,bw,bn,txs⟩).length≤100:=by simp [z7d];omega
  have d4:=(hS.below.cell (p:=⟨gt,4,none⟩) gl).trans b4
  go_wp2_with fail
  clear d4
  rw [e0] at hS
  clear e0
  go_loopw [7,8,9,39] (fun _ _ _ i wr=>∃ k:Nat,k≤n∧i = .int .i64 k∧∃ l:List UInt8,l.length≤100+2500 * k∧Hid (l=z7d ⟨bp,bh,bw,bn,txs⟩++(txs.take k).flatMap fun t=>(zp t).1)∧Sep Wb (Lt Wb.heap.size) (sb Wb.heap.size l::rds txs A n c shTx::[]) wr) (fun _ _ _ i _=>n - (intOf i).toNat)
  case atStart=>exact ⟨0,by omega,rfl,z7d ⟨bp,bh,bw,bn,txs⟩,by omega,Lib.hid (by simp),hS.sub (by repeat (with_reducible exact Sub.refl))⟩
  case round =>
   clear hS
   obtain ⟨k,hk,rfl,l,hl,HL,hS⟩:=hrel
   rcases Classical.em (k<n) with hlt|hlt
   ·(have hO:=hS.elemTxR (xs:=txs) (by repeat (first|with_reducible exact At.z|apply At.s)) hlt;clear hS;obtain ⟨b,off,x,A1,n1,c1,A2,n2,c2,rfl,hx,hS⟩:=hO)
    have HX:=Lib.hid hx
    have k1:(0:Int)≤(k:Int):=by omega
    have k2:(k:Int)<(n:Int):=by omega
    clear hx
    (go_wp2_with (first|(refine Sep.wloadNz hS (by rfl) rfl rfl (by repeat (first|with_reducible exact At.z|apply At.s)) (z9o rfl) ?_)|(refine Sep.walloc hS (by rfl) rfl (by first|exact z_op|exact z_tx) ?_;clear hS;intro g W hS)|(refine Sep.wstoreNb hS (by rfl) rfl rfl rfl (z9o rfl) (by simp [zko,Value.oneCell']) (by repeat (first|with_reducible exact At.z|apply At.s)) (by rfl) (by repeat (first|with_reducible exact Put.z|apply Put.s)) ?_;clear hS;intro W hS;refine Stop.go ?_));refine Stop.mk ?_)
    go_wp2_with (((refine Sep.wloadNb hS (by rfl) rfl rfl (by repeat (with_reducible exact At.z)) (z9o rfl) ?_)))
    refine (zrg x [_,_,_] hS (by repeat (first|with_reducible exact At.z|apply At.s)) hG1).mono ?_;clear hS;rintro e W ⟨rfl,hS⟩
    have lp:=zmm x
    go_wp2_with fail
    refine (hS.write (l:=l) (by repeat (first|with_reducible exact At.z|apply At.s)) hΔ _ (by simp [ByteArray.size];omega)).mono ?_
    clear hS
    rintro e W2 ⟨⟨v,rfl⟩,hS⟩
    go_wp2_with fail
    go_roundw
    case measure=>simp [intOf];omega
    case rel=>exact ⟨k+1,by omega,by go_num,l++(zp x).1,by simp;omega,Lib.hid (by rw [z43 HX.out,HL.out];simp),hS.sub (by repeat (with_reducible exact Sub.refl))⟩
   ·obtain rfl:k=n:=by omega
    go_wp2_with fail
    refine (hS.text (by repeat (with_reducible exact At.z))).mono ?_
    clear hS
    rintro e W3 ⟨rfl,hB⟩
    have hS:=hSo.belows hB
    go_wp2_with fail
    have em:l=z1a ⟨bp,bh,bw,bn,txs⟩:=by
     rw [HL.out,List.take_of_length_le (by have:=L1.out;omega)]
     unfold z1a
     congr 1
     have key:∀ t ∈ txs,(zp t).1=z1h t:=fun t ht=>by rw [z9p ((z3w H0.out).each t ht)]
     simp only [List.flatMap_def]
     rw [List.map_congr_left key]
    rw [em]
    refine bodyPost_ret (zgb rfl (by exact Got.tmp rfl) (by exact Got.tmp rfl)) rfl ?_
    exact ⟨by rw [HR.out];rfl,hS.sub (by repeat (first|with_reducible exact Sub.refl|apply Sub.skip))⟩
 ·have q:((za t) != 0)=true:=by simp [h0]
  have HR:Hid (R=([],za t)):=Lib.hid (by rw [HP.out,if_pos h0])
  clear h0 HP
  go_wp2_with fail
  refine bodyPost_ret (zgb rfl (by exact Got.tmp rfl) (by exact Got.tmp rfl)) rfl ?_
  exact ⟨by rw [HR.out];rfl,hS.sub (by repeat (first|with_reducible exact Sub.refl|apply Sub.skip))⟩
noncomputable def z1v:z6:=spD (fun _:Block=>True) fun t=>z0d t
theorem zog (t:Block):z1v (zi t)=some [.s (z0d t).1,I (z0d t).2]:=zb (f:=fun t:Block=>z0d t) t trivial
theorem z035 (t:Block):I64 (z0d t).2:=by
 unfold z0d
 split
 ·exact (z0av t).i64
 ·show I64 0
  exact ⟨by decide,by decide⟩
theorem zgc:Meets Tryz.prog z1v 11 ⟨[.agg 5],[(false,[.scal]),(false,[.scal])],true⟩ :=
 z5g rfl (z1u (fn:=Tryz.f11) (by kernel_rfl) (by kernel_rfl) (by kernel_rfl)) fun t _ W F us hF h=>by
  obtain ⟨cs,rfl,hr⟩:=zcy h
  have hS:Sep W F [rep t cs shBlock] W:=(Sep.start W F hF.1).addRep (S:=shBlock) (shBlock.more (fun b hb=>⟨.inl hb,by simp⟩) (she_block.of hr))
  refine (z07n t cs hS At.z hF.2).mono ?_
  rintro e w' ⟨rfl,hS'⟩
  exact ⟨_,rfl,hS'.below,zjg rfl rfl (.s _ (by have:=z034 t;omega)) (.i _ _ (wrap_i64 (z035 t)))⟩
end
section
open Go.Lib (itoa atoiAll)
open Go.RowKit
def zz0:List (List UInt8)→Option (List Int)
 | []=>some []
 | w::r=>match z05v w with
  | none=>none
  | some n=>(zz0 r).map fun l=>n::l
def tIn:List UInt8:=[105,110]
def tOut:List UInt8:=[111,117,116]
def tTx:List UInt8:=[116,120,32]
def zoh (o:List Out) (i:List In) (x:List UInt8) (n:List Int):Option (List Out × List In) :=
 if (zi0 (Go.Lib.cut x [58]).2.1).2≠0 then none else if Go.Lib.contains x [58]=false then none else
 if (zbv 32 (Go.Lib.cut x [58]).1).headD []=tIn∧n.length=2∧o.length=0 then some (o,i++[⟨⟨n.getD 0 0,n.getD 1 0⟩,(zi0 (Go.Lib.cut x [58]).2.1).1⟩]) else
 if (zbv 32 (Go.Lib.cut x [58]).1).headD []=tOut∧n.length=1 then some (o++[⟨n.getD 0 0,(zi0 (Go.Lib.cut x [58]).2.1).1⟩],i) else none
def z0eb (o:List Out) (i:List In) (x:List UInt8):Option (List Out × List In):=match zz0 ((zbv 32 (Go.Lib.cut x [58]).1).drop 1) with
 | none=>none
 | some n=>zoh o i x n
def zTx:Tx:=⟨0,[],[]⟩
def zoi (n:Int) (o:List Out) (i:List In):List (List UInt8)→Tx × Int
 | []=>if zl ⟨n,i,o⟩≠0 then (zTx,zl ⟨n,i,o⟩) else (⟨n,i,o⟩,0)
 | x::r=>match z0eb o i x with
  | none=>(zTx,1)
  | some p=>zoi n p.1 p.2 r
end
section
open Go.RowKit Go.Shelf
open Go.Lib (itoa atoiAll atoiSat)
set_option maxRecDepth 100000
section
variable {P:Program} {W:World} {F:Nat→Prop}
end
noncomputable def zjy:z6:=spD (fun x:List UInt8 × List UInt8=>x.1.length≤1000000000∧∃ c,x.2=[c]) fun x=>zbv (x.2.headD 0) x.1
def zf5 (s:List UInt8):Int × GoErr:=match atoiAll s with
 | .ok v=>(v,⟨false⟩)
 | .range=>(atoiSat s,⟨true⟩)
 | _=>(0,⟨true⟩)
noncomputable def z05x:z6:=spD (fun s:List UInt8=>s.length≤1000000000) fun s=>zf5 s
end
section
open Go.RowKit Go.Shelf
open Go.Lib (itoa atoiAll atoiSat)
set_option maxRecDepth 100000
noncomputable def z0be:z6:=spD (fun x:List UInt8 × List UInt8=>x.1.length≤1000000000) fun x=>Go.Lib.cut x.1 x.2
noncomputable def zoj:z6:=spD (fun x:List UInt8 × List UInt8=>x.1.length≤1000000000) fun x=>Go.Lib.contains x.1 x.2
noncomputable def zz1:z6:=spD (fun _:List UInt8 × List UInt8=>True) fun x=>(Go.Lib.trimPrefix x.1 x.2,Go.Lib.hasPrefix x.1 x.2)
noncomputable def zz2:z6:=spD (fun _:List UInt8 × List UInt8=>True) fun x=>(Go.Lib.trimSuffix x.1 x.2,Go.Lib.hasSuffix x.1 x.2)
end
section
open Go.RowKit
open Go.Lib (itoa atoiAll atoiSat)
set_option maxRecDepth 100000
set_option maxHeartbeats 4000000
section
variable {sp:Nat→z6} {N:Nat} {E E':Env} {ks:List (List Dt→Option (List Dt))} {res:Option (List Dt)}
end
noncomputable def zz3:z6:=spD (fun _:List UInt8=>True) fun s=>zi0 s
def z0bf (acc:List Op) (ws:List (List UInt8)):List Op × Int:=match zob ws with
 | none=>([],1)
 | some l=>if zk (acc++l)≠0 then ([],zk (acc++l)) else (acc++l,0)
attribute [local irreducible] den denX z1c z1n
attribute [local irreducible] z0o spD z2h itoa zk z4z z7v z5x z0bf zf5 zbv z0b1 zyq zyr
attribute [local irreducible] z05x zcj z24 zjy
end
section
open Go.RowKit
noncomputable def z8w:z6:=spD (fun _:List Int × List Int=>True) fun x=>decide (x.1=x.2)
theorem zz4 (a b:List Int):z8w [.l 1 (a.map zg),.l 1 (b.map zg)]=some [.b (decide (a=b))]:=zb (f:=fun x:List Int × List Int=>decide (x.1=x.2)) (a,b) trivial
theorem z0ec:Meets Tryz.prog z8w 25 ⟨[.one,.one],[(false,[.scal])],true⟩ :=
 zmh rfl (z1u (fn:=Tryz.f25) (by kernel_rfl) (by kernel_rfl) (by kernel_rfl)) fun ⟨a,b⟩ _ W F us hF h=>by
  obtain ⟨v,us,rfl,h1,h⟩:=z16 h
  obtain ⟨v2,us,rfl,h2,h⟩:=z16 h
  obtain rfl:=z1r h
  obtain ⟨A,n,c,rfl,k1⟩:=z2u z2d h1
  obtain ⟨A2,n2,c2,rfl,k2⟩:=z2u z2d h2
  refine (z0ae a b A A2 n c n2 c2 W F F k1 k2).mono ?_
  rintro r W' ⟨rfl,m,rfl⟩
  exact ⟨rfl,zag (Below.refl _ _) m⟩
end
section
open Go.RowKit
open Go.Lib (itoa)
set_option maxRecDepth 100000
set_option maxHeartbeats 4000000
def numI (w:List UInt8):Int × Bool:=((zf5 w).1,!(zf5 w).2.is && decide (itoa (zf5 w).1=w))
def z0jm (o:List Out) (i:List In) (x:List UInt8) (a:List Int) (ws:List (List UInt8)):Option (List Out × List In):=match zz0 ws with
 | none=>none
 | some n=>zoh o i x (a++n)
def z0jn (n:Int) (r:List (List UInt8)) (p:Option (List Out × List In)):Tx × Int:=match p with
 | none=>(zTx,1)
 | some p=>zoi n p.1 p.2 r
attribute [local irreducible] z0o spD z2h itoa zk z4z z7v z0bf zf5 zbv zl zi0
section
variable {α:Type} {f:α→List Dt} {sp:Nat→z6} {N:Nat} {E:Env}
end
attribute [local irreducible] den denX z1c z1n
attribute [local irreducible] z05x zcj
attribute [local irreducible] numI z0jm zoi z0jn zoh
attribute [local irreducible] zz1 zz2 zz3 zoj z0be zjy z9i
end
section
open Go.RowKit
set_option maxRecDepth 100000
set_option maxHeartbeats 4000000
attribute [local irreducible] z0o spD z2h
def z07o:T :=
 .lets [.call 10 [.v 9] 0] [] (.lets [] [.inr 6 (.v 4) (.v 3)] (.lets [.set (.v 4) (.v 3) 3 [.v 12]] [] (.lets [.bin .add (.v 3) (.c (.i .i64 1))] [] (.again 0 [.v 14,.v 13]))))
def z07p:T :=
 .lets [] [.inr 6 (.v 4) (.v 3)] (.lets [.idx (.v 4) (.v 3) 0,.idx (.v 4) (.v 3) 1,.idx (.v 4) (.v 3) 2,.idx (.v 4) (.v 3) 3,.idx (.v 4) (.v 3) 4,.idx (.v 4) (.v 3) 5] []
 z07o)
def zku:T :=
 .lets [.call 9 [.v 0] 0] [] (.lets [.len (.v 1)] [] (.loop [.c (.i .i64 0),.v 1] (.lets [.bin .lss (.v 3) (.v 2)] [] (.ite (.v 5) z07p (.ret [.v 4])))))
def z0bg:T :=
 .lets [.idx (.v 3) (.v 6) 0,.idx (.v 3) (.v 6) 1,.idx (.v 3) (.v 6) 2,.idx (.v 3) (.v 6) 3,.idx (.v 3) (.v 6) 4,.idx (.v 3) (.v 6) 5] [] (.lets [.bin .add (.v 5) (.v 10)] []
 (.lets [.bin .add (.v 6) (.c (.i .i64 1))] [] (.again 0 [.v 14,.v 15])))
def z0bh:T :=
 .lets [.idx (.v 2) (.v 10) 0,.idx (.v 2) (.v 10) 1] [] (.lets [.bin .sub (.v 9) (.v 12)] [] (.lets [.bin .add (.v 10) (.c (.i .i64 1))] [] (.again 1 [.v 14,.v 15])))
def z0bi:T :=
 .lets [.len (.v 2)] [] (.loop [.v 5,.c (.i .i64 0)] (.lets [.bin .lss (.v 10) (.v 8)] [] (.ite (.v 11) (.lets [] [.inr 2 (.v 2) (.v 10)] z0bh) (.ret [.v 9]))))
def zok:T :=
 .lets [.len (.v 3)] [] (.loop [.c (.i .i64 0),.c (.i .i64 0)] (.lets [.bin .lss (.v 6) (.v 4)] [] (.ite (.v 7) (.lets [] [.inr 6 (.v 3) (.v 6)] z0bg) z0bi)))
def z4j (l:List Coin):Prop:=l.length≤1000000∧∀ c ∈ l,c.o.lock.length≤8796093022208
theorem CoinsOK.short {l:List Coin} (h:CoinsOK l):z4j l:=⟨by have:=h.len;omega,fun c hc=>by have:=z9j (z5d (h.good c hc)).2.2.2.2.2.2.2.2;omega⟩
noncomputable def z7e:z6:=spD z4j fun l=>l
theorem zi8 (l:List Coin) (h:z4j l):z7e [.l 6 (l.map zj)]=some [.l 6 (l.map zj)]:=zb (p:=z4j) (f:=fun l:List Coin=>l) l h
theorem zz5:Meets Tryz.prog z7e 155 ⟨[.one],[(false,[.fresh 102 6])],false⟩:=by
 refine z9 (sp:=(z05 [(9,zdw),(10,z56)])) (sigs:=z08) (cut:=[]) (hints:=[⟨3,[.t 9,.o 6]⟩]) (fn:=Tryz.f155) (t:=zku) (by kernel_rfl) (by kernel_rfl) (by kernel_rfl) ?_ ?_
 ·exact (zq (L:=[(9,zdw),(10,z56)]) ⟨z5 rfl z0e0,z5 rfl zma,trivial⟩)
 ·rintro ds rs - h
  obtain ⟨l,⟨hl,hk⟩,rfl,rfl⟩:=zd h
  clear h
  refine ⟨⟨l.length+1,?_⟩,z023 (by simp [zu,CF.isScal])⟩
  show den _ _ zku [.l 6 (l.map zj)] []=ret l
  unfold zku
  repeat' (first|refine dq1 ?_|refine dqk rfl (zw1 _ hl) ?_|fail)
  (refine z0c (fun (_:Unit) k=>[I k,.l 6 (l.map zj)]) (fun _ _ _=>l) (fun _ _=>True) () l ?_ ?_ ?_ ?_ ?_;rfl;exact trivial;exact Nat.lt_succ_self _)
  ·rintro _ k c r hx hd hkl - again hag
   repeat' (first|refine dq1 ?_|refine dqc ?_|refine dqm ?_|refine dqk rfl (z7u _ (hk c (List.mem_of_getElem? hx))) ?_|refine dqT ?_|fail)
   refine z7 (z9f rfl rfl rfl (by omega) (by simp) (by exact hx) rfl) ?_
   repeat' (first|refine dq1 ?_|exact zm rfl rfl (hag () trivial)|fail)
  ·intro _ _ again
   repeat' (first|refine dq1 ?_|exact z4 rfl rfl|refine dqF ?_|fail)
theorem z036 (l:List Coin):∀ s:Int,l.foldl (fun s c=>s+c.o.coin) s=s+ze l:=by
 induction l with
 | nil=>intro s;simp [ze]
 | cons c l ih=>intro s;rw [List.foldl_cons,ih,ze];omega
def z1i (t:Tx) (l:List Coin):Int:=t.outs.foldl (fun s o=>s - o.coin) (l.foldl (fun s c=>s+c.o.coin) 0)
def zf6 (x:Tx × List Coin):Prop:=x.2.length≤1000000∧(∀ c ∈ x.2,0≤c.o.coin∧c.o.coin≤1000000000)∧x.1.outs.length≤1000000∧∀ o ∈ x.1.outs,0≤o.coin∧o.coin≤1000000000
noncomputable def z5p:z6:=spD zf6 fun x=>z1i x.1 x.2
theorem zaq (t:Tx) (l:List Coin) (h:zf6 (t,l)):z5p [I t.height,.l 3 (t.ins.map eIn),.l 2 (t.outs.map z1x),.l 6 (l.map zj)]=some [I (z1i t l)]:=zb (p:=zf6) (f:=fun x:Tx × List Coin=>z1i x.1 x.2) (t,l) h
theorem zol:Meets Tryz.prog z5p 130 ⟨[.agg 3,.one],[(false,[.scal])],true⟩:=by
 refine z9 (sp:=(z05 [])) (sigs:=z08) (cut:=[]) (hints:=[⟨3,[.t 5,.t 12]⟩,⟨8,[.t 5,.t 25]⟩]) (fn:=Tryz.f130) (t:=zok) (by kernel_rfl) (by kernel_rfl) (by kernel_rfl) ?_ ?_
 ·exact (zq (L:=[]) trivial)
 ·rintro ds rs - h
  obtain ⟨⟨t,l⟩,⟨h1,h2,h3,h4⟩,rfl,rfl⟩:=zd h
  clear h
  simp only at h1 h2 h3 h4
  refine ⟨⟨l.length+t.outs.length+1,?_⟩,z0a rfl⟩
  show den _ _ zok [I t.height,.l 3 (t.ins.map eIn),.l 2 (t.outs.map z1x),.l 6 (l.map zj)] []=ret (z1i t l)
  unfold zok z1i
  repeat' (first|refine dq1 ?_|fail)
  (refine z0c (fun (s:Int) k=>[I s,I k]) (fun (s:Int) _ (r:List Coin)=>t.outs.foldl (fun s o=>s - o.coin) (r.foldl (fun s c=>s+c.o.coin) s)) (fun s k=>0≤s∧s≤k * 1000000000) (0:Int) l ?_ ?_ ?_ ?_ ?_;rfl;exact ⟨by omega,by omega⟩;omega)
  ·rintro s k c r hx hd hkl ⟨h0,h5⟩ again hag
   have hc:=h2 c (List.mem_of_getElem? hx)
   repeat' (first|refine dq1 ?_|refine dqc ?_|refine dqm ?_|refine dqT ?_|fail)
   exact zm rfl rfl (hag (s+c.o.coin) ⟨by omega,by omega⟩)
  ·rintro s ⟨h0,h5⟩ again
   repeat' (first|refine dq1 ?_|refine dqF ?_|fail)
   (refine z0c (fun (s:Int) k=>[I s,I k]) (fun (s:Int) _ (r:List Out)=>r.foldl (fun s o=>s - o.coin) s) (fun s k => - (k * 1000000000)≤s∧s≤l.length * 1000000000) s t.outs ?_ ?_ ?_ ?_ ?_;rfl;exact ⟨by omega,by omega⟩;omega)
   ·rintro s k c r hx hd hkl ⟨h0,h5⟩ again' hag
    have hc:=h4 c (List.mem_of_getElem? hx)
    repeat' (first|refine dq1 ?_|refine dqc ?_|refine dqm ?_|refine dqT ?_|fail)
    exact zm rfl rfl (hag (s - c.coin) ⟨by omega,by omega⟩)
   ·rintro s ⟨h0,h5⟩ again'
    repeat' (first|refine dq1 ?_|exact z4 rfl rfl|refine dqF ?_|fail)
def z8e:Coin:=⟨⟨0,0⟩,⟨0,[]⟩,0,false⟩
def zz6 (l:List Coin) (p:Point):Coin × Int:=if zx l≠0 then (z8e,zx l) else if z39 l p=true then ((l[zw l p]?).getD z8e,0) else (z8e,7)
end
section
open Go.RowKit
set_option maxRecDepth 100000
set_option maxHeartbeats 4000000
theorem zeb (l m:List Op):z69 [.l 2 (l.map eOp),.l 2 (m.map eOp)]=some [.b (decide (l=m))]:=zb (f:=fun x:List Op × List Op=>decide (x.1=x.2)) (l,m) trivial
theorem zom:Meets Tryz.prog z69 137 ⟨[.one,.one],[(false,[.scal])],true⟩ :=
 ze7 (e:=fun x:{ x:List Op × List Op // True }=>Enc.e x.1) (d:=fun x=>.b (decide (x.1.1=x.1.2))) rfl (z1u (fn:=Tryz.f137) (by kernel_rfl) (by kernel_rfl) (by kernel_rfl)) (fun _=>rfl) fun x W F us hF h=>by
  obtain ⟨v,us,rfl,h1,h⟩:=z16 h
  obtain ⟨v2,us,rfl,h2,h⟩:=z16 h
  obtain rfl:=z1r h
  obtain ⟨A,n,c,rfl,k1⟩:=z2u z98 h1
  obtain ⟨A2,n2,c2,rfl,k2⟩:=z2u z98 h2
  refine (z0dl x.1.1 x.1.2 A A2 n c n2 c2 W F F k1 k2).mono ?_
  rintro r W' ⟨rfl,m,rfl⟩
  exact ⟨_,rfl,zag (Below.refl _ _) m,.b _⟩
attribute [local irreducible] z0o spD z2h
theorem zkv {α:Type} {sz:Nat} {l:List α} {f:α→List Dt} (h:Dt.ok (.l sz (l.map f))):l.length≤9223372036854775807:=by
 cases h with
 | l _ _ h1 _ _=>simpa using h1
theorem z0jo (x y:Out):(decide (x.coin=y.coin) && decide (x.lock=y.lock))=decide (x=y):=by
 cases x;cases y
 simp only [Out.mk.injEq,Bool.decide_and]
noncomputable def z51:z6:=spD (fun _:Out × Out=>True) fun x=>decide (x.1=x.2)
theorem ze0 (x y:Out):z51 [I x.coin,.l 2 (x.lock.map eOp),I y.coin,.l 2 (y.lock.map eOp)]=some [.b (decide (x=y))]:=zb (f:=fun x:Out × Out=>decide (x.1=x.2)) (x,y) trivial
def zec:T :=
 .lets [.bin .eql (.v 0) (.v 2)] [] (.ite (.v 4) (.lets [.call 20 [.v 1,.v 3] 0] [] (.ret [.v 5])) (.ret [.c (.b false)]))
def z037:T :=
 .ite (.v 13) (.lets [.bin .eql (.v 4) (.v 10)] [] (.ite (.v 14) (.lets [.beq false (.v 5) (.v 11)] [] (.ret [.v 15])) (.ret [.c (.b false)]))) (.ret [.c (.b false)])
def zi9:T :=
 .lets [.eqs false [(.v 0,.v 6),(.v 1,.v 7)]] [] (.ite (.v 12) (.lets [.call 21 [.v 2,.v 3,.v 8,.v 9] 0] [] z037) (.ret [.c (.b false)]))
def z038:T :=
 .lets [.call 27 [.v 9,.v 10,.v 11,.v 12,.v 13,.v 14,.v 15,.v 16,.v 17,.v 18,.v 19,.v 20] 0] [] (.lets [.not (.v 21)] [] (.ite (.v 22) (.ret [.c (.b false)]) (.lets [.bin
 .add (.v 7) (.c (.i .i64 1))] [] (.again 0 [.v 6,.v 23]))))
def z039:T :=
 .lets [] [.inr 6 (.v 1) (.v 7)] (.lets [.idx (.v 1) (.v 7) 0,.idx (.v 1) (.v 7) 1,.idx (.v 1) (.v 7) 2,.idx (.v 1) (.v 7) 3,.idx (.v 1) (.v 7) 4,.idx (.v 1) (.v 7) 5] []
 z038)
def z03a:T :=
 .lets [] [.inr 6 (.v 0) (.v 7)] (.lets [.idx (.v 0) (.v 7) 0,.idx (.v 0) (.v 7) 1,.idx (.v 0) (.v 7) 2,.idx (.v 0) (.v 7) 3,.idx (.v 0) (.v 7) 4,.idx (.v 0) (.v 7) 5] []
 z039)
def z03b:T :=
 .ite (.v 4) (.ret [.c (.b false)]) (.lets [.len (.v 0)] [] (.loop [.c (.b false),.c (.i .i64 0)] (.lets [.bin .lss (.v 7) (.v 5)] [] (.ite (.v 8) z03a (.ret [.c (.b
 true)])))))
def zia:T :=
 .lets [.len (.v 0)] [] (.lets [.len (.v 1)] [] (.lets [.bin .neq (.v 2) (.v 3)] [] z03b))
def zkw:T :=
 .lets [.call 22 [.v 0,.v 1] 0] [] (.ret [.v 2])
theorem zjz:Meets Tryz.prog z51 92 ⟨[.agg 2,.agg 2],[(false,[.scal])],true⟩:=by
 refine z9 (sp:=(z05 [(20,z69)])) (sigs:=z08) (cut:=[]) (hints:=[]) (fn:=Tryz.f92) (t:=zec) (by kernel_rfl) (by kernel_rfl) (by kernel_rfl) ?_ ?_
 ·exact (zq (L:=[(20,z69)]) ⟨z5 rfl zom,trivial⟩)
 ·rintro ds rs - h
  obtain ⟨⟨x,y⟩,-,rfl,rfl⟩:=zd h
  clear h
  refine ⟨⟨1,?_⟩,z0a rfl⟩
  show den _ _ zec [I x.coin,.l 2 (x.lock.map eOp),I y.coin,.l 2 (y.lock.map eOp)] []=ret (decide (x=y))
  rw [← z0jo]
  unfold zec
  repeat' (first|refine dq1 ?_|refine dqk rfl (zeb _ _) ?_|exact z4 rfl rfl|refine tU (fun h=>?_) fun h=>?_|fail)
theorem z0hb (x y:Coin):(decide (x.p=y.p) && (decide (x.o=y.o) && (decide (x.height=y.height) && decide (x.reward=y.reward))))=decide (x=y):=by
 cases x;cases y
 simp only [Coin.mk.injEq,Bool.decide_and]
noncomputable def zbz:z6:=spD (fun _:Coin × Coin=>True) fun x=>decide (x.1=x.2)
theorem zt2 (x y:Coin):zbz (zj x++zj y)=some [.b (decide (x=y))]:=zb (f:=fun x:Coin × Coin=>decide (x.1=x.2)) (x,y) trivial
theorem z0bj:Meets Tryz.prog zbz 91 ⟨[.agg 6,.agg 6],[(false,[.scal])],true⟩:=by
 refine z9 (sp:=(z05 [(21,z51)])) (sigs:=z08) (cut:=[]) (hints:=[]) (fn:=Tryz.f91) (t:=zi9) (by kernel_rfl) (by kernel_rfl) (by kernel_rfl) ?_ ?_
 ·exact (zq (L:=[(21,z51)]) ⟨z5 rfl zjz,trivial⟩)
 ·rintro ds rs - h
  obtain ⟨⟨x,y⟩,-,rfl,rfl⟩:=zd h
  clear h
  refine ⟨⟨1,?_⟩,z0a rfl⟩
  show den _ _ zi9 [I x.p.tx,I x.p.at_,I x.o.coin,.l 2 (x.o.lock.map eOp),I x.height,.b x.reward,I y.p.tx,I y.p.at_,I y.o.coin,.l 2 (y.o.lock.map eOp),I y.height,.b y.reward] []=ret (decide (x=y))
  rw [← z0hb]
  unfold zi9
  repeat' (first|refine dq1 ?_|refine dqk rfl (ze0 x.o y.o) ?_|exact z4 rfl rfl|refine tU (fun h=>?_) fun h=>?_|fail)
noncomputable def zc0:z6:=spD (fun _:List Coin × List Coin=>True) fun x=>decide (x.1=x.2)
noncomputable def zb2:z6:=spD (fun _:List Coin × List Coin=>True) fun x=>decide (x.1=x.2)
theorem zt3 (l m:List Coin):zc0 [.l 6 (l.map zj),.l 6 (m.map zj)]=some [.b (decide (l=m))]:=zb (f:=fun x:List Coin × List Coin=>decide (x.1=x.2)) (l,m) trivial
theorem zz7 (l m:List Coin):zb2 [.l 6 (l.map zj),.l 6 (m.map zj)]=some [.b (decide (l=m))]:=zb (f:=fun x:List Coin × List Coin=>decide (x.1=x.2)) (l,m) trivial
theorem zb3 {α:Type} [DecidableEq α] (l m:List α):decide (l=m)=if (l.length:Int)≠m.length then false else decide (l=m):=by
 by_cases h:(l.length:Int)≠m.length
 ·rw [if_pos h,decide_eq_false]
  rintro rfl
  exact h rfl
 ·rw [if_neg h]
theorem z0bk:Meets Tryz.prog zc0 90 ⟨[.one,.one,.clos 91 []],[(false,[.scal])],true⟩:=by
 refine z9 (sp:=(z05 [(27,zbz)])) (sigs:=z08) (cut:=[]) (hints:=[⟨4,[.t 6,.t 17]⟩]) (fn:=Tryz.f90) (t:=zia) (by kernel_rfl) (by kernel_rfl) (by kernel_rfl) ?_ ?_
 ·exact (zq (L:=[(27,zbz)]) ⟨z5 rfl z0bj,trivial⟩)
 ·rintro ds rs hok h
  obtain ⟨⟨l,m⟩,-,rfl,rfl⟩:=zd h
  clear h
  have hll:=zkv (hok (.l 6 (l.map zj)) (List.mem_cons_self ..))
  refine ⟨⟨l.length+1,?_⟩,z0a rfl⟩
  show den _ _ zia [.l 6 (l.map zj),.l 6 (m.map zj)] []=ret (decide (l=m))
  rw [zb3]
  unfold zia
  repeat' (first|refine dq1 ?_|exact z4 rfl rfl|refine tR (fun h=>?_) fun h=>?_|fail)
  have hlm:l.length=m.length:=by omega
  (refine z0c (fun (_:Unit) k=>[.b false,I k]) (fun (_:Unit) k (r:List Coin)=>decide (r=m.drop k)) (fun _ _=>True) () l ?_ ?_ ?_ ?_ ?_;rfl;exact trivial;exact Nat.lt_succ_self _)
  ·rintro _ k x r hx hd hk - again hag
   have hy:m[k]? = some (m[k]'(by omega)):=List.getElem?_eq_getElem (by omega)
   have hdy:m.drop k=m[k]'(by omega)::m.drop (k+1):=List.drop_eq_getElem_cons (by omega)
   rw [hdy]
   generalize m[k]'(by omega)=y at *
   have e:decide (x::r=y::m.drop (k+1))=if decide (x=y)=true then decide (r=m.drop (k+1)) else false:=by
    by_cases h:x=y
    ·simp [h]
    ·simp [h]
   rw [e]
   have hkm:k<m.length:=by omega
   repeat' (first|refine dq1 ?_|refine dqc ?_|refine dqm ?_|refine dqk rfl (zt2 x y) ?_|exact z4 rfl rfl|exact zm rfl rfl (hag () trivial)|refine tN (fun h=>?_) fun h=>?_|refine dqT ?_|fail)
  ·rintro _ - again
   rw [hlm,List.drop_length]
   repeat' (first|refine dq1 ?_|exact z4 rfl rfl|refine dqF ?_|fail)
theorem z0ed:Meets Tryz.prog zb2 31 ⟨[.one,.one],[(false,[.scal])],true⟩:=by
 refine z9 (sp:=(z05 [(22,zc0)])) (sigs:=z08) (cut:=[]) (hints:=[]) (fn:=Tryz.f31) (t:=zkw) (by kernel_rfl) (by kernel_rfl) (by kernel_rfl) ?_ ?_
 ·exact (zq (L:=[(22,zc0)]) ⟨z5 rfl z0bk,trivial⟩)
 ·rintro ds rs - h
  obtain ⟨⟨l,m⟩,-,rfl,rfl⟩:=zd h
  clear h
  refine ⟨⟨1,?_⟩,z0a rfl⟩
  show den _ _ zkw [.l 6 (l.map zj),.l 6 (m.map zj)] []=ret (decide (l=m))
  unfold zkw
  repeat' (first|refine dqk rfl (zt3 l m) ?_|exact z4 rfl rfl|fail)
end
section
open Go.RowKit
open Go.Lib (itoa)
set_option maxRecDepth 100000
set_option maxHeartbeats 4000000
theorem z0ki (x y:In):(if x.p=y.p then decide (x.key=y.key) else false)=decide (x=y):=by
 cases x;cases y
 by_cases h:(‹Point› : Point)=‹Point› <;> simp only [In.mk.injEq,Bool.decide_and] <;> split <;> simp [*]
theorem z0kj (t u:Tx):(if t.height=u.height then if decide (t.ins=u.ins)=true then decide (t.outs=u.outs) else false else false)=decide (t=u):=by
 cases t;cases u
 simp only [Tx.mk.injEq,Bool.decide_and]
 split <;> rename_i h
 ·split <;> rename_i h2
  ·simp [h,h2]
  ·simp [h,h2]
 ·simp [h]
noncomputable def zc1:z6:=spD (fun _:In × In=>True) fun x=>decide (x.1=x.2)
theorem zt4 (x y:In):zc1 (eIn x++eIn y)=some [.b (decide (x=y))]:=zb (f:=fun x:In × In=>decide (x.1=x.2)) (x,y) trivial
noncomputable def zf7:z6:=spD (fun _:List In × List In=>True) fun x=>decide (x.1=x.2)
theorem z07q (l m:List In):zf7 [.l 3 (l.map eIn),.l 3 (m.map eIn)]=some [.b (decide (l=m))]:=zb (f:=fun x:List In × List In=>decide (x.1=x.2)) (l,m) trivial
noncomputable def zgd:z6:=spD (fun _:List Out × List Out=>True) fun x=>decide (x.1=x.2)
theorem z03c (l m:List Out):zgd [.l 2 (l.map z1x),.l 2 (m.map z1x)]=some [.b (decide (l=m))]:=zb (f:=fun x:List Out × List Out=>decide (x.1=x.2)) (l,m) trivial
noncomputable def z4p:z6:=spD (fun _:Tx × Tx=>True) fun x=>decide (x.1=x.2)
theorem zib (x y:Tx):z4p (eTx x++eTx y)=some [.b (decide (x=y))]:=zb (f:=fun x:Tx × Tx=>decide (x.1=x.2)) (x,y) trivial
attribute [local irreducible] z0o spD z2h zk zl
attribute [local irreducible] den denX z1c z1n
def zic:T :=
 .lets [.eqs false [(.v 0,.v 3),(.v 1,.v 4)]] [] (.ite (.v 6) (.lets [.call 20 [.v 2,.v 5] 0] [] (.ret [.v 7])) (.ret [.c (.b false)]))
def z0ee:T :=
 .lets [.call 66 [.v 9,.v 10,.v 11,.v 12,.v 13,.v 14] 0] [] (.lets [.not (.v 15)] [] (.ite (.v 16) (.ret [.c (.b false)]) (.lets [.bin .add (.v 7) (.c (.i .i64 1))] [] (.again 0
 [.v 6,.v 17]))))
def z0ef:T :=
 .lets [.idx (.v 0) (.v 7) 0,.idx (.v 0) (.v 7) 1,.idx (.v 0) (.v 7) 2] [] (.lets [] [.inr 3 (.v 1) (.v 7)] (.lets [.idx (.v 1) (.v 7) 0,.idx (.v 1) (.v 7) 1,.idx (.v 1) (.v 7)
 2] [] z0ee))
def z0eg:T :=
 .lets [.len (.v 0)] [] (.loop [.c (.b false),.c (.i .i64 0)] (.lets [.bin .lss (.v 7) (.v 5)] [] (.ite (.v 8) (.lets [] [.inr 3 (.v 0) (.v 7)] z0ef) (.ret [.c (.b true)]))))
def zz8:T :=
 .lets [.len (.v 0)] [] (.lets [.len (.v 1)] [] (.lets [.bin .neq (.v 2) (.v 3)] [] (.ite (.v 4) (.ret [.c (.b false)]) z0eg)))
def z0bl:T :=
 .lets [.call 21 [.v 9,.v 10,.v 11,.v 12] 0] [] (.lets [.not (.v 13)] [] (.ite (.v 14) (.ret [.c (.b false)]) (.lets [.bin .add (.v 7) (.c (.i .i64 1))] [] (.again 0 [.v 6,.v
 15]))))
def z0bm:T :=
 .lets [] [.inr 2 (.v 0) (.v 7)] (.lets [.idx (.v 0) (.v 7) 0,.idx (.v 0) (.v 7) 1] [] (.lets [] [.inr 2 (.v 1) (.v 7)] (.lets [.idx (.v 1) (.v 7) 0,.idx (.v 1) (.v 7) 1] []
 z0bl)))
def z0bn:T :=
 .ite (.v 4) (.ret [.c (.b false)]) (.lets [.len (.v 0)] [] (.loop [.c (.b false),.c (.i .i64 0)] (.lets [.bin .lss (.v 7) (.v 5)] [] (.ite (.v 8) z0bm (.ret [.c (.b
 true)])))))
def zon:T :=
 .lets [.len (.v 0)] [] (.lets [.len (.v 1)] [] (.lets [.bin .neq (.v 2) (.v 3)] [] z0bn))
def zkx:T :=
 .lets [.bin .eql (.v 0) (.v 3)] [] (.ite (.v 6) (.lets [.call 67 [.v 1,.v 4] 0] [] (.ite (.v 7) (.lets [.call 68 [.v 2,.v 5] 0] [] (.ret [.v 8])) (.ret [.c (.b false)]))) (.ret
 [.c (.b false)]))
attribute [local irreducible] z69
theorem z0bo:Meets Tryz.prog zc1 136 ⟨[.agg 3,.agg 3],[(false,[.scal])],true⟩:=by
 refine z9 (sp:=(z05 [(20,z69)])) (sigs:=z08) (cut:=[]) (hints:=[]) (fn:=Tryz.f136) (t:=zic) (by kernel_rfl) (by kernel_rfl) (by kernel_rfl) ?_ ?_
 ·exact (zq (L:=[(20,z69)]) ⟨z5 rfl zom,trivial⟩)
 ·rintro ds rs - h
  obtain ⟨⟨x,y⟩,-,rfl,rfl⟩:=zd h
  clear h
  refine ⟨⟨1,?_⟩,z0a rfl⟩
  show den _ _ zic [I x.p.tx,I x.p.at_,.l 2 (x.key.map eOp),I y.p.tx,I y.p.at_,.l 2 (y.key.map eOp)] []=ret (decide (x=y))
  rw [← z0ki]
  unfold zic
  repeat' (first|refine dq1 ?_|refine dqk rfl (zeb _ _) ?_|exact z4 rfl rfl|refine tR (fun h=>?_) fun h=>?_|fail)
theorem z0jp:Meets Tryz.prog zf7 135 ⟨[.one,.one,.clos 136 []],[(false,[.scal])],true⟩:=by
 refine z9 (sp:=(z05 [(66,zc1)])) (sigs:=z08) (cut:=[]) (hints:=[⟨4,[.t 6,.t 17]⟩]) (fn:=Tryz.f135) (t:=zz8) (by kernel_rfl) (by kernel_rfl) (by kernel_rfl) ?_ ?_
 ·exact (zq (L:=[(66,zc1)]) ⟨z5 rfl z0bo,trivial⟩)
 ·rintro ds rs hok h
  obtain ⟨⟨l,m⟩,-,rfl,rfl⟩:=zd h
  clear h
  have hll:=zkv (hok (.l 3 (l.map eIn)) (List.mem_cons_self ..))
  refine ⟨⟨l.length+1,?_⟩,z0a rfl⟩
  show den _ _ zz8 [.l 3 (l.map eIn),.l 3 (m.map eIn)] []=ret (decide (l=m))
  rw [zb3]
  unfold zz8
  repeat' (first|refine dq1 ?_|exact z4 rfl rfl|refine tR (fun h=>?_) fun h=>?_|fail)
  have hlm:l.length=m.length:=by omega
  (refine z0c (fun (_:Unit) k=>[.b false,I k]) (fun (_:Unit) k (r:List In)=>decide (r=m.drop k)) (fun _ _=>True) () l ?_ ?_ ?_ ?_ ?_;rfl;exact trivial;exact Nat.lt_succ_self _)
  ·rintro _ k x r hx hd hk - again hag
   have hy:m[k]? = some (m[k]'(by omega)):=List.getElem?_eq_getElem (by omega)
   have hdy:m.drop k=m[k]'(by omega)::m.drop (k+1):=List.drop_eq_getElem_cons (by omega)
   rw [hdy]
   generalize m[k]'(by omega)=y at *
   have e:decide (x::r=y::m.drop (k+1))=if decide (x=y)=true then decide (r=m.drop (k+1)) else false:=by
    by_cases h:x=y
    ·simp [h]
    ·simp [h]
   rw [e]
   have hkm:k<m.length:=by omega
   repeat' (first|refine dq1 ?_|refine dqc ?_|refine dqm ?_|refine dqk rfl (zt4 x y) ?_|exact z4 rfl rfl|exact zm rfl rfl (hag () trivial)|refine tN (fun h=>?_) fun h=>?_|refine dqT ?_|fail)
  ·rintro _ - again
   rw [hlm,List.drop_length]
   repeat' (first|refine dq1 ?_|exact z4 rfl rfl|refine dqF ?_|fail)
attribute [local irreducible] z51
theorem z0hc:Meets Tryz.prog zgd 138 ⟨[.one,.one,.clos 92 []],[(false,[.scal])],true⟩:=by
 refine z9 (sp:=(z05 [(21,z51)])) (sigs:=z08) (cut:=[]) (hints:=[⟨4,[.t 6,.t 17]⟩]) (fn:=Tryz.f138) (t:=zon) (by kernel_rfl) (by kernel_rfl) (by kernel_rfl) ?_ ?_
 ·exact (zq (L:=[(21,z51)]) ⟨z5 rfl zjz,trivial⟩)
 ·rintro ds rs hok h
  obtain ⟨⟨l,m⟩,-,rfl,rfl⟩:=zd h
  clear h
  have hll:=zkv (hok (.l 2 (l.map z1x)) (List.mem_cons_self ..))
  refine ⟨⟨l.length+1,?_⟩,z0a rfl⟩
  show den _ _ zon [.l 2 (l.map z1x),.l 2 (m.map z1x)] []=ret (decide (l=m))
  rw [zb3]
  unfold zon
  repeat' (first|refine dq1 ?_|exact z4 rfl rfl|refine tR (fun h=>?_) fun h=>?_|fail)
  have hlm:l.length=m.length:=by omega
  (refine z0c (fun (_:Unit) k=>[.b false,I k]) (fun (_:Unit) k (r:List Out)=>decide (r=m.drop k)) (fun _ _=>True) () l ?_ ?_ ?_ ?_ ?_;rfl;exact trivial;exact Nat.lt_succ_self _)
  ·rintro _ k x r hx hd hk - again hag
   have hy:m[k]? = some (m[k]'(by omega)):=List.getElem?_eq_getElem (by omega)
   have hdy:m.drop k=m[k]'(by omega)::m.drop (k+1):=List.drop_eq_getElem_cons (by omega)
   rw [hdy]
   generalize m[k]'(by omega)=y at *
   have e:decide (x::r=y::m.drop (k+1))=if decide (x=y)=true then decide (r=m.drop (k+1)) else false:=by
    by_cases h:x=y
    ·simp [h]
    ·simp [h]
   rw [e]
   have hkm:k<m.length:=by omega
   repeat' (first|refine dq1 ?_|refine dqc ?_|refine dqm ?_|refine dqk rfl (ze0 x y) ?_|exact z4 rfl rfl|exact zm rfl rfl (hag () trivial)|refine tN (fun h=>?_) fun h=>?_|refine dqT ?_|fail)
  ·rintro _ - again
   rw [hlm,List.drop_length]
   repeat' (first|refine dq1 ?_|exact z4 rfl rfl|refine dqF ?_|fail)
attribute [local irreducible] zf7
theorem zz9:Meets Tryz.prog z4p 62 ⟨[.agg 3,.agg 3],[(false,[.scal])],true⟩:=by
 refine z9 (sp:=(z05 [(67,zf7),(68,zgd)])) (sigs:=z08) (cut:=[]) (hints:=[]) (fn:=Tryz.f62) (t:=zkx) (by kernel_rfl) (by kernel_rfl) (by kernel_rfl) ?_ ?_
 ·exact (zq (L:=[(67,zf7),(68,zgd)]) ⟨z5 rfl z0jp,z5 rfl z0hc,trivial⟩)
 ·rintro ds rs - h
  obtain ⟨⟨x,y⟩,-,rfl,rfl⟩:=zd h
  clear h
  refine ⟨⟨1,?_⟩,z0a rfl⟩
  show den _ _ zkx [I x.height,.l 3 (x.ins.map eIn),.l 2 (x.outs.map z1x),I y.height,.l 3 (y.ins.map eIn),.l 2 (y.outs.map z1x)] []=ret (decide (x=y))
  rw [← z0kj]
  unfold zkx
  repeat' (first|refine dq1 ?_|refine dqk rfl (z07q _ _) ?_|refine dqk rfl (z03c _ _) ?_|exact z4 rfl rfl|((first|refine tR ?_ ?_|refine tB ?_ ?_) <;> intro h)|fail)
end
section
open Go.RowKit
def zoo:List CF→List Dt→Prop
 | .scal::fs,d::ds=>d.scal=true∧zoo fs ds
 | _::fs,_::ds=>zoo fs ds
 | _,_=>True
theorem zop:∀ {fs:List CF} {ds:List Dt},zoo fs ds→∀ (j:Nat) (d:Dt),fs[j]? = some .scal→ds[j]? = some d→d.scal=true
 | [],_,_,j,d,hf,_=>by cases hf
 | _::_,[],_,j,d,_,hd=>by cases hd
 | c::fs,x::ds,h,j,d,hf,hd=>by
  cases j with
  | zero =>
   simp only [List.getElem?_cons_zero,Option.some.injEq] at hf hd
   subst hf;subst hd
   exact h.1
  | succ j =>
   have h':zoo fs ds:=by
    cases c with
    | scal=>exact h.2
    | pure=>exact h
    | fresh e sz=>exact h
   exact zop h' j d (by simpa using hf) (by simpa using hd)
theorem z1d {s:Sig} {rs:List Dt} (h:zoo (zu s) rs):z74 s rs:=fun i d h1 h2=>zop h i d h1 h2
def zoq:List CF→Bool
 | []=>true
 | .fresh _ _::_=>false
 | _::fs=>zoq fs
theorem zed:∀ {fs:List CF},zoq fs=true→∀ c ∈ fs,c = .scal∨c = .pure
 | [],_,c,h=>by cases h
 | x::fs,h,c,hc=>by
  cases x with
  | scal =>
   rcases List.mem_cons.1 hc with rfl|hc
   ·exact .inl rfl
   ·exact zed (fs:=fs) h c hc
  | pure =>
   rcases List.mem_cons.1 hc with rfl|hc
   ·exact .inr rfl
   ·exact zed (fs:=fs) h c hc
  | fresh e sz=>cases h
section
variable {W W':World} {F F':Nat→Prop} {pk:List PK} {b:Bool}
theorem resP {s:Sig} {rs:List Dt} {v:Value} {us:List Value} (hv:zkj s.res v us) (hc:zoq (zu s)=true) (hs:zoo (zu s) rs) (hr:Reps W' F' rs us) (hl:rs.length=(zu s).length) (hF':∀ b,F' b→F b∨(W.heap.size≤b∧b<W'.heap.size)):∃ us F',ResR W F W' s rs v us F' :=
 ⟨us,F',zfz hv (zed hc) (zop hs) hl hr hF'⟩
end
end
section
open Go.RowKit
end
section
open Go.RowKit
set_option maxRecDepth 100000
set_option maxHeartbeats 4000000
theorem zrh:∀ l s:List (List UInt8),Er (z78 l s)
 | [],_=>z19 _ rfl
 | x::l,s=>z1o (z19 _ rfl) (z1o (z19 _ rfl) (zrh l _))
theorem zji (k:Book):Er (zf k):=z1o (z19 _ rfl) (zrh _ _)
theorem zzd (t:List (List UInt8)) (s:List UInt8):Er (z27 t s):=z1o (z19 _ rfl) (z1o (z19 _ rfl) (z19 _ rfl))
theorem z0ei (k:Book) (s:List UInt8):Er (z1z k s):=z1o (zji k) (z1o (z19 _ rfl) (zzd _ _))
theorem zze:∀ (l t:List (List UInt8)) (o:List Int),Er (z2r l t o).2.2
 | [],t,o=>z19 _ rfl
 | s::l,t,o=>by
  rw [z2r]
  split
  ·exact z19 _ rfl
  ·split
   ·exact zzd _ _
   ·exact zze l _ _
theorem z07u (k:Book) (l:List (List UInt8)):Er (z0z k l).2.2:=by
 unfold z0z
 split
 ·exact zji k
 ·exact zze _ _ _
theorem zb5 {n:Int} (h:0≤n∧n≤1000):I64 n:=⟨by have:=h.1;omega,by have:=h.2;omega⟩
noncomputable def z25:z6:=spD (fun _:Book=>True) fun k=>zf k
theorem z9q (k:Book):z25 [.l 1 (k.texts.map z06)]=some [I (zf k)]:=zb (f:=fun k:Book=>zf k) k trivial
theorem zef:Meets Tryz.prog z25 85 ⟨[.agg 1],[(false,[.scal])],true⟩ :=
 zga rfl (z1u (fn:=Tryz.f85) (by kernel_rfl) (by kernel_rfl) (by kernel_rfl)) fun k _ W F us hF h=>by
  obtain ⟨cs,rfl,hr⟩:=zcy h
  exact ⟨(zji k).i64,z8a k cs W F (she_book.of hr) hF.1⟩
theorem z0bp {W W':World} {F:Nat→Prop}:∀ b,Mid W W' b→F b∨(W.heap.size≤b∧b<W'.heap.size):=fun b h=>.inr h
theorem z0ej (k:Book) (s:List UInt8):I64 (z17 k s):=by
 unfold z17
 split
 ·exact zb5 ⟨by decide,by decide⟩
 rename_i h
 split
 ·exact zb5 ⟨by decide,by decide⟩
 ·exact zb5 (zvk (z8b (Decidable.not_not.1 h)))
noncomputable def z6r:z6:=spD (fun _:Book × List UInt8=>True) fun x=>(z2g x.1 x.2,z17 x.1 x.2,z1z x.1 x.2)
theorem zos (k:Book) (s:List UInt8):z6r [.l 1 (k.texts.map z06),.s s]=some [.l 1 ((z2g k s).map z06),I (z17 k s),I (z1z k s)]:=zb (f:=fun x:Book × List UInt8=>(z2g x.1 x.2,z17 x.1 x.2,z1z x.1 x.2)) (k,s) trivial
theorem z07v:Meets Tryz.prog z6r 218 ⟨[.agg 1,.one],[(true,[.pure]),(false,[.scal]),(false,[.scal])],false⟩ :=
 z5g rfl (z1u (fn:=Tryz.f218) (by kernel_rfl) (by kernel_rfl) (by kernel_rfl)) fun x _ W F us hF h=>by
  obtain ⟨k,s⟩:=x
  obtain ⟨cs,us,rfl,h1,h⟩:=znu (d1:=z7q k) (d2:=z06 s) h rfl
  obtain ⟨v,us,rfl,h2,h⟩:=z16 h
  obtain rfl:=z1r h
  obtain ⟨rfl,hs⟩:=zf2 h2
  refine (z0ag k cs s W F (she_book.of h1) hF.1 hs).mono ?_
  rintro e w' ⟨A,n,c,rfl,hr,hb⟩
  refine ⟨_,rfl,hb,?_⟩
  exact resP (us:=[.slice A n c,.int .i64 (z17 k s),.int .i64 (z1z k s)]) (F':=Mid W w') ⟨[.agg #[.slice A n c],.int .i64 (z17 k s),.int .i64 (z1z k s)],rfl,.agg #[.slice A n c],_,[.slice A n c],_,rfl,rfl,⟨rfl,rfl⟩,.int .i64 (z17 k s),_,[.int .i64 (z17 k s)],_,rfl,rfl,⟨rfl,rfl⟩,.int .i64 (z1z k s),[],[.int .i64 (z1z k s)],[],rfl,rfl,⟨rfl,rfl⟩,rfl,rfl⟩ rfl ⟨rfl,rfl,trivial⟩ ⟨zcg za7 hr,.i _ _ (wrap_i64 (z0ej k s)),.i _ _ (wrap_i64 (z0ei k s).i64),trivial⟩ rfl z0bp
noncomputable def z9r:z6:=spD (fun x:Book × List (List UInt8)=>x.2.length≤8796093022207) fun x=>z0z x.1 x.2
theorem zt9 (k:Book) (l:List (List UInt8)) (h:l.length≤8796093022207):z9r [.l 1 (k.texts.map z06),.l 1 (l.map z06)]=some [.l 1 ((z0z k l).1.map z06),.l 1 ((z0z k l).2.1.map zg),I (z0z k l).2.2]:=zb (p:=fun x:Book × List (List UInt8)=>x.2.length≤8796093022207) (f:=fun x:Book × List (List UInt8)=>z0z x.1 x.2) (k,l) h
theorem z0bq:Meets Tryz.prog z9r 126 ⟨[.agg 1,.one],[(true,[.pure]),(false,[.pure]),(false,[.scal])],false⟩ :=
 z5g rfl (z1u (fn:=Tryz.f126) (by kernel_rfl) (by kernel_rfl) (by kernel_rfl)) fun x hx W F us hF h=>by
  obtain ⟨k,l⟩:=x
  obtain ⟨cs,us,rfl,h1,h⟩:=znu (d1:=z7q k) (d2:=Enc.e l) h rfl
  obtain ⟨v,us,rfl,h2,h⟩:=z16 h
  obtain rfl:=z1r h
  obtain ⟨A,n,c,rfl,hl⟩:=z2u za7 h2
  have:=hl.1
  simp only at hx
  refine (z0gk k cs l A n c W F (she_book.of h1) hl hF.1 (by omega)).mono ?_
  rintro e w' ⟨A,n,c,A',n',c',rfl,hr,hr',hb⟩
  refine ⟨_,rfl,hb,?_⟩
  exact resP (us:=[.slice A n c,.slice A' n' c',.int .i64 (z0z k l).2.2]) (F':=Mid W w') ⟨[.agg #[.slice A n c],.slice A' n' c',.int .i64 (z0z k l).2.2],rfl,.agg #[.slice A n c],_,[.slice A n c],_,rfl,rfl,⟨rfl,rfl⟩,.slice A' n' c',_,[.slice A' n' c'],_,rfl,rfl,⟨rfl,rfl⟩,.int .i64 (z0z k l).2.2,[],[.int .i64 (z0z k l).2.2],[],rfl,rfl,⟨rfl,rfl⟩,rfl,rfl⟩ rfl ⟨rfl,trivial⟩ ⟨zcg za7 hr,zcg z2d hr',.i _ _ (wrap_i64 (z07u k l).i64),trivial⟩ rfl z0bp
noncomputable def z31:z6:=spD (fun _:Block=>True) fun k=>za k
theorem zab (b:Block):z31 [I b.parent,I b.height,I b.work,I b.nonce,.l 3 (b.txs.map eTx)]=some [I (za b)]:=zb (f:=fun k:Block=>za k) b trivial
theorem zge:Meets Tryz.prog z31 15 ⟨[.agg 5],[(false,[.scal])],true⟩ :=
 zga rfl (z1u (fn:=Tryz.f15) (by kernel_rfl) (by kernel_rfl) (by kernel_rfl)) fun k _ W F us hF h=>by
  obtain ⟨cs,rfl,hr⟩:=zcy h
  exact ⟨(z0av k).i64,zew k cs W F (she_block.of hr) hF.1⟩
theorem zie (n:Int):0≤z18 n∧z18 n≤1000:=by
  unfold z18
  split
  ·exact ⟨by decide,by decide⟩
  ·rename_i h
   have h1:(0:Int)≤2 ^ (min ((n - 1) / 8) 30).toNat:=Int.pow_nonneg (by decide)
   have h2:=Int.ediv_nonneg (show (0:Int)≤64 by decide) h1
   have h3:=Int.ediv_le_self (2 ^ (min ((n - 1) / 8) 30).toNat) (show (0:Int)≤64 by decide)
   exact ⟨h2,by omega⟩
theorem zri (n:Int):I64 (z18 n)∧I64 (z3o n):=by
 have h1:=zie n
 have h2:0≤z3o n∧z3o n≤1000:=by
  unfold z3o
  split <;> exact ⟨by decide,by decide⟩
 exact ⟨zb5 h1,zb5 h2⟩
noncomputable def z3k:z6:=spD (fun _:Int=>True) fun n=>(z18 n,z3o n)
theorem zd4 (n:Int):z3k [I n]=some [I (z18 n),I (z3o n)]:=zb (f:=fun n:Int=>(z18 n,z3o n)) n trivial
theorem z0hd (n:Int) (w:World):Calls Tryz.prog 128 #[.int .i64 n] w fun e w'=>e = .returned (.tuple #[.int .i64 (z18 n),.int .i64 (z3o n)])∧w=w':=by
 by_cases h:n<1∨1000<n
 ·go_enter Tryz.func128,Tryz.ntmps128
  go_wp2
  all_goals (go_ret2;refine ⟨zcm ?_ ?_,rfl⟩)
  all_goals simp [z18,z3o,h]
 ·have h1:1≤n:=by omega
  have h2:n≤1000:=by omega
  go_enter Tryz.func128,Tryz.ntmps128
  go_wp2
  all_goals (go_ret2;refine ⟨zcm ?_ ?_,rfl⟩)
  all_goals first|(simp only [z18];rw [if_neg (by omega)])|(simp [z3o];omega)
theorem zif:Meets Tryz.prog z3k 128 ⟨[.one],[(false,[.scal]),(false,[.scal])],true⟩ :=
 z5g rfl (z1u (fn:=Tryz.f128) (by kernel_rfl) (by kernel_rfl) (by kernel_rfl)) fun n _ W F us hF h=>by
  obtain ⟨v,us,rfl,h2,h⟩:=z16 (d:=I n) h
  obtain rfl:=z1r h
  obtain ⟨rfl,hn⟩:=zci h2
  refine (z0hd n W).mono ?_
  rintro e w' ⟨rfl,rfl⟩
  exact ⟨_,rfl,Below.refl _ _,zjg rfl rfl (.i _ _ (wrap_i64 (zri n).1)) (.i _ _ (wrap_i64 (zri n).2))⟩
theorem z0he {α:Type} [DecidableEq α] (l:List α) (x:α) (h:l.length≤9223372036854775807):I64 (idx l x):=by
 have:=zm0 l x
 exact ⟨by omega,by omega⟩
noncomputable def z3c:z6:=spD (fun _:List Int × Int=>True) fun x=>idx x.1 x.2
theorem z7f (l:List Int) (n:Int):z3c [.l 1 (l.map zg),I n]=some [I (idx l n)]:=zb (f:=fun x:List Int × Int=>idx x.1 x.2) (l,n) trivial
theorem zd5:Meets Tryz.prog z3c 82 ⟨[.one,.one],[(false,[.scal])],true⟩ :=
 zga rfl (z1u (fn:=Tryz.f82) (by kernel_rfl) (by kernel_rfl) (by kernel_rfl)) fun x _ W F us hF h=>by
  obtain ⟨l,n⟩:=x
  obtain ⟨v,us,rfl,h1,h⟩:=z16 h
  obtain ⟨v2,us,rfl,h2,h⟩:=z16 h
  obtain rfl:=z1r h
  obtain ⟨rfl,hn⟩:=zci h2
  obtain ⟨A,m,c,rfl,hl⟩:=z2u z2d h1
  have hlm:l.length=m:=hl.1
  have:=hl.2.1
  have:=hl.2.2.1
  refine ⟨z0he l n (by omega),(z0af l n A m c W F hl).mono ?_⟩
  rintro e w' ⟨rfl,rfl⟩
  exact ⟨rfl,Below.refl _ _⟩
noncomputable def zd6:z6:=spD (fun l:List Int=>l.length≤1000000) fun l=>l
theorem z03e (l:List Int) (h:l.length≤1000000):zd6 [.l 1 (l.map zg)]=some [.l 1 (l.map zg)]:=zb (p:=fun l:List Int=>l.length≤1000000) (f:=fun l:List Int=>l) l h
theorem z0hf:Meets Tryz.prog zd6 45 ⟨[.one],[(false,[.fresh 3 1])],false⟩ :=
 z4o (e:=fun x:{ l:List Int // l.length≤1000000 }=>Enc.e x.1) (xs:=fun x=>x.1) z2d rfl rfl (by decide) (z1u (fn:=Tryz.f45) (by kernel_rfl) (by kernel_rfl) (by kernel_rfl)) fun x W F us hF h=>by
  obtain ⟨v,us,rfl,h1,h⟩:=z16 h
  obtain rfl:=z1r h
  obtain ⟨A,n,c,rfl,k1⟩:=z2u z2d h1
  have:=x.2
  have:=k1.1
  exact (z0ab x.1 A n c W F k1 hF (by omega)).mono fun r W' h=>⟨n,h⟩
noncomputable def zd7:z6:=spD (fun l:List (List UInt8)=>l.length≤1000000) fun l=>l
theorem z03f (l:List (List UInt8)) (h:l.length≤1000000):zd7 [.l 1 (l.map z06)]=some [.l 1 (l.map z06)]:=zb (p:=fun l:List (List UInt8)=>l.length≤1000000) (f:=fun l:List (List UInt8)=>l) l h
theorem z0hg:Meets Tryz.prog zd7 156 ⟨[.one],[(false,[.fresh 9 1])],false⟩ :=
 z4o (e:=fun x:{ l:List (List UInt8) // l.length≤1000000 }=>Enc.e x.1) (xs:=fun x=>x.1) za7 rfl rfl (by decide) (z1u (fn:=Tryz.f156) (by kernel_rfl) (by kernel_rfl) (by kernel_rfl)) fun x W F us hF h=>by
  obtain ⟨v,us,rfl,h1,h⟩:=z16 h
  obtain rfl:=z1r h
  obtain ⟨A,n,c,rfl,k1⟩:=z2u za7 h1
  have:=x.2
  have:=k1.1
  exact (zds x.1 A n c W F k1 hF (by omega)).mono fun r W' h=>⟨n,h⟩
noncomputable def zb6:z6:=spD (fun _:List Int=>True) fun l=>l.reverse
theorem zzf (l:List Int):zb6 [.l 1 (l.map zg)]=some [.l 1 (l.reverse.map zg)]:=zb (f:=fun l:List Int=>l.reverse) l trivial
theorem zrj {W:World} {F:Nat→Prop}:∀ {l:List Int} {vs:List Value},Reps W F (l.map zg).flatten vs→vs=l.map (Value.int .i64)∧∀ x ∈ l,I64 x
 | [],[],_=>⟨rfl,by simp⟩
 | [],_::_,h=>absurd h id
 | x::l,vs,h=>by
  cases vs with
  | nil=>exact absurd h id
  | cons v vs =>
   have h':Rep W F (I x) v∧Reps W F (l.map zg).flatten vs:=h
   obtain ⟨rfl,hx⟩:=zci h'.1
   obtain ⟨rfl,hl⟩:=zrj h'.2
   refine ⟨rfl,fun y hy=>?_⟩
   rcases List.mem_cons.1 hy with rfl|hy
   ·exact hx
   ·exact hl y hy
theorem zrk {W:World} {F:Nat→Prop}:∀ {l:List Int},(∀ x ∈ l,I64 x)→Reps W F (l.map zg).flatten (l.map (Value.int .i64))
 | [],_=>trivial
 | x::l,h=>⟨.i _ _ (wrap_i64 (h x (by simp))),zrk fun y hy=>h y (List.mem_cons_of_mem _ hy)⟩
theorem z0ek:Meets Tryz.prog zb6 171 ⟨[.mine 3 1],[],false⟩:=⟨fun h=>(by cases h),fun e sz ps he=>by
 cases he
 intro W F base v xs vs ds args rs hF hbase hno hlen hown hreps hpk hs
 obtain ⟨l,-,h1,rfl⟩:=zd hs
 have h1':xs=l.map zg∧ds=[]:=by
  injection h1 with ha hb
  injection ha with _ ha
  exact ⟨ha,hb⟩
 obtain ⟨rfl,rfl⟩:=h1'
 obtain rfl:=z1r hpk
 obtain ⟨rfl,hI⟩:=zrj hreps
 refine ⟨l.reverse.map zg,rfl,by simp [zg],.inl ⟨(z1u (fn:=Tryz.f171) (by kernel_rfl) (by kernel_rfl) (by kernel_rfl)).run _ _,?_⟩⟩
 rw [List.length_map] at hown
 have hown':=hown
 rcases hown.2 with ⟨rfl,hn⟩|⟨g,cap,cur,rfl,hg,hh,hnc,hcm,hcs,ht⟩
 ·obtain rfl:l=[]:=List.eq_nil_of_length_eq_zero hn
  refine (zt6 none 0 W).mono ?_
  rintro e w' ⟨rfl,rfl⟩
  exact ⟨_,rfl,.slice none 0 0,[],⟨fun _=>rfl,fun h=>absurd rfl h⟩,World.grownBy.refl _ _,hown',trivial,fun b hb=>.inl hb⟩
 ·unfold maxLen at hcm
  have hcell:∀ j,j<l.length→W.cell? ⟨g,0+j,none⟩=some (.int .i64 (l.getD j 0)):=by
   intro j hj
   have e1:(cur.toList.take (l.length * 1))[j]? = some (.int .i64 l[j]):=by rw [ht];simp [hj]
   rw [List.getElem?_take] at e1
   split at e1
   ·rw [cell_of_row W g _ cur _ (0,0) hh]
    simpa [List.getD,hj] using e1
   ·cases e1
  refine (zt5 g 0 l.length cap l W (by omega) (by omega) hcell (fun j _=>z0df hh)).mono ?_
  rintro e w' ⟨rfl,q,rfl⟩
  rw [List.take_of_length_le (Nat.le_refl _)]
  obtain ⟨s1,s2,s3,s4⟩:=zt8 (g:=g) (l.reverse.map (Value.int .i64)) 0 (W.drewN q)
  have hb0:=zag (Below.refl W.heap.size W) q
  have hgr:W.grownBy ((W.drewN q).setCells g 0 (l.reverse.map (Value.int .i64))) (Value.slice (some ⟨g,0,none⟩) l.length cap).ownBlock :=
   ⟨s2.trans hb0.os,s3.trans hb0.tape,s4.trans hb0.output,by have:=hb0.size;omega,fun b hlt hb=>(zzc _ _ _ _ (fun e=>hb (by rw [e];rfl))).trans (hb0.block b hlt)⟩
  have hown2:(W.drewN q).ownsRow base 3 1 (.slice (some ⟨g,0,none⟩) l.length cap) l.length (l.map (Value.int .i64)):=zha hown' (fun b hb=>hb0.block b (by
   simp only [Value.ownBlock,Option.some.injEq] at hb
   subst hb
   exact zhn hh))
  have hset:=zi6 rfl (l.reverse.map (Value.int .i64)) 0 _ _ hown2
  rw [z0e9 _ _ (by simp)] at hset
  exact ⟨_,rfl,_,l.reverse.map (Value.int .i64),⟨fun _=>rfl,fun h=>absurd rfl h⟩,hgr,by rw [List.length_map,List.length_reverse];exact hset,zrk fun x hx=>hI x (List.mem_reverse.1 hx),fun b hb=>.inl hb⟩⟩
end
section
open Go.RowKit
open Go.Lib (itoa)
set_option maxRecDepth 100000
set_option maxHeartbeats 4000000
def z2v (b:Block):List (List UInt8):=b.txs.map fun t=>(zp t).1
def zac (k:Book) (s:List UInt8) (l:List (List UInt8)):List (List UInt8) × Int × List Int × Int :=
 if (z0z k (l++[s])).2.2≠0 then ([],0,[],(z0z k (l++[s])).2.2) else
 ((z0z k (l++[s])).1,((z0z k (l++[s])).2.1).getD l.length 0,((z0z k (l++[s])).2.1).take l.length,0)
def z00 (k:Book) (b:Block):List (List UInt8) × Int × List Int × Int :=
 if (z0d b).2≠0 then ([],0,[],(z0d b).2) else zac k (z0d b).1 (z2v b)
theorem zrl:∀ (l t:List (List UInt8)) (o:List Int),(z2r l t o).2.2=0→(z2r l t o).2.1.length=o.length+l.length
 | [],t,o,_=>by simp [z2r]
 | s::l,t,o,h=>by
  rw [z2r] at h ⊢
  split at h
  ·cases h
  rename_i h1
  rw [if_neg h1]
  split at h
  ·rename_i h2;exact absurd h h2
  rename_i h2
  rw [if_neg h2]
  rw [zrl l _ _ h]
  simp;omega
theorem zk1 {k:Book} {l:List (List UInt8)} (h:(z0z k l).2.2=0):(z0z k l).2.1.length=l.length:=by
 unfold z0z at h ⊢
 split at h
 ·rename_i h1;exact absurd h h1
 rename_i h1
 rw [if_neg h1]
 simpa using zrl l k.texts [] h
theorem zbi {b:Block} (h:(z0d b).2=0):za b=0:=by
 unfold z0d at h
 by_cases hb:za b=0
 ·exact hb
 ·rw [if_pos hb] at h;exact absurd h hb
attribute [local irreducible] z0o spD z0z z0d zp
attribute [local irreducible] den denX z1c z1n
noncomputable def z3y:z6:=spD (fun _:Book × Block=>True) fun x=>z00 x.1 x.2
theorem zf9 (k:Book) (b:Block):z3y [.l 1 (k.texts.map z06),I b.parent,I b.height,I b.work,I b.nonce,.l 3 (b.txs.map eTx)]=some [.l 1 ((z00 k b).1.map z06),I (z00 k b).2.1,.l 1 ((z00 k b).2.2.1.map zg),I (z00 k b).2.2.2]:=zb (f:=fun x:Book × Block=>z00 x.1 x.2) (k,b) trivial
theorem z9s (b:Block):z1v [I b.parent,I b.height,I b.work,I b.nonce,.l 3 (b.txs.map eTx)]=some [.s (z0d b).1,I (z0d b).2]:=zog b
theorem zad (t:Tx):z37 [I t.height,.l 3 (t.ins.map eIn),.l 2 (t.outs.map z1x)]=some [.s (zp t).1,I (zp t).2]:=zt1 t
def zzg:T :=
 .lets [.call 64 [.v 13,.v 14,.v 15] 0,.call 64 [.v 13,.v 14,.v 15] 1] [] (.lets [.mk 1 [[.v 16]]] [] (.lets [.app 1 (.v 10) (.v 18)] [] (.lets [.bin .add (.v 11) (.c (.i .i64
 1))] [] (.again 0 [.v 19,.v 20]))))
def zzh:T :=
 .lets [.len (.v 10)] [] (.lets [.sub 1 (.v 16) none (some (.v 21)),.sub 1 (.v 16) (some (.v 21)) (some (.v 22))] [] (.ret [.v 15,.v 20,.v 23,.c (.i .i64 0)]))
def zzi:T :=
 .ite (.v 18) (.ret [.c (.nil 1),.c (.i .i64 0),.c (.nil 1),.v 17]) (.lets [.len (.v 10)] [] (.lets [] [.inr 1 (.v 16) (.v 19)] (.lets [.idx (.v 16) (.v 19) 0] [] (.lets [.len (.v
 10)] [] zzh))))
def zzj:T :=
 .lets [.app 1 (.v 10) (.v 13)] [] (.lets [.call 71 [.v 0,.v 14] 0,.call 71 [.v 0,.v 14] 1,.call 71 [.v 0,.v 14] 2] [] (.lets [.bin .neq (.v 17) (.c (.i .i64 0))] []
 zzi))
def zzk:T :=
 .ite (.v 12) (.lets [] [.inr 3 (.v 5) (.v 11)] (.lets [.idx (.v 5) (.v 11) 0,.idx (.v 5) (.v 11) 1,.idx (.v 5) (.v 11) 2] [] zzg)) (.lets [.mk 1 [[.v 6]]] []
 zzj)
def zzl:T :=
 .ite (.v 8) (.ret [.c (.nil 1),.c (.i .i64 0),.c (.nil 1),.v 7]) (.lets [.len (.v 5)] [] (.loop [.c (.nil 1),.c (.i .i64 0)] (.lets [.bin .lss (.v 11) (.v 9)] [] zzk)))
def zgf:T :=
 .lets [.call 65 [.v 1,.v 2,.v 3,.v 4,.v 5] 0,.call 65 [.v 1,.v 2,.v 3,.v 4,.v 5] 1] [] (.lets [.bin .neq (.v 7) (.c (.i .i64 0))] [] zzl)
attribute [local irreducible] z1v z9r z37
theorem zmo:Meets Tryz.prog z3y 58 ⟨[.agg 1,.agg 5],[(true,[.pure]),(false,[.scal]),(false,[.pure]),(false,[.scal])],false⟩:=by
 refine z9 (sp:=(z05 [(64,z37),(65,z1v),(71,z9r)])) (sigs:=z08) (cut:=[]) (hints:=[⟨6,[.r 9 9 1,.t 27]⟩]) (fn:=Tryz.f58) (t:=zgf) (by kernel_rfl) (by kernel_rfl) (by kernel_rfl) ?_ ?_
 ·exact (zq (L:=[(64,z37),(65,z1v),(71,z9r)]) ⟨z5 rfl zi7,z5 rfl zgc,z5 rfl z0bq,trivial⟩)
 ·rintro ds rs hok h
  obtain ⟨⟨k,b⟩,-,rfl,rfl⟩:=zd h
  clear h
  refine ⟨⟨100,?_⟩,z1d ⟨rfl,rfl,trivial⟩⟩
  show den _ _ zgf [.l 1 (k.texts.map z06),I b.parent,I b.height,I b.work,I b.nonce,.l 3 (b.txs.map eTx)] []=ret (z00 k b)
  have a1:=z9s b
  unfold zgf z00
  have hpz:=fun h=>(z3w (zbi (b:=b) h)).len
  generalize z0d b=pb at *
  obtain ⟨s,e⟩:=pb
  simp only at *
  repeat' (first|refine dq1 ?_|refine dqK rfl (a1) ?_|exact z4 rfl rfl|refine tR (fun h=>?_) fun h=>?_|fail)
  have hlen:b.txs.length≤4:=hpz (by omega)
  (refine z0c (fun (a:List (List UInt8)) k=>[.l 1 (a.map z06),I k]) (fun (a:List (List UInt8)) _ (r:List Tx)=>zac k s (a++r.map fun t=>(zp t).1)) (fun a k=>a.length=k) [] b.txs ?_ ?_ ?_ ?_ ?_;rfl;exact rfl;omega)
  ·rintro a i x r hx hd hk ha again hag
   have a2:=zad x
   have e:a++((x::r).map fun t=>(zp t).1)=(a++[(zp x).1])++r.map fun t=>(zp t).1:=by simp
   rw [e]
   have hag':=hag (a++[(zp x).1]) (by simp;omega)
   generalize zp x=px at *
   obtain ⟨z,f⟩:=px
   simp only at *
   repeat' (first|refine dq1 ?_|refine dqc ?_|refine dqm ?_|refine dqK rfl (a2) ?_|refine z7 (z5c rfl rfl (by simp)) ?_|refine dqT ?_|fail)
   exact zm rfl rfl hag'
  ·rintro a ha again
   simp only [List.map_nil,List.append_nil]
   have a3:=zt9 k (a++[s]) (by simp;omega)
   have hl:=fun h=>zk1 (k:=k) (l:=a++[s]) h
   unfold zac
   generalize z0z k (a++[s])=q at *
   obtain ⟨tx,ns,e2⟩:=q
   simp only at *
   repeat' (first|refine dq1 ?_|refine dqK rfl (a3) ?_|refine z7 (z5c rfl rfl (by simp)) ?_|exact z4 rfl rfl|refine tR (fun h=>?_) fun h=>?_|refine dqF ?_|fail)
   have hl:=hl (by omega)
   simp only [List.length_append,List.length_cons,List.length_nil] at hl
   have hg:ns[((a.length:Int)).toNat]? = some (ns.getD a.length 0):=by
    rw [Int.toNat_natCast,List.getD_eq_getElem?_getD,List.getElem?_eq_getElem (by omega)]
    rfl
   generalize ns.getD a.length 0=y at *
   have ht:ns.take ((a.length:Int)).toNat=ns.take a.length:=by rw [Int.toNat_natCast]
   repeat' (first|refine dq1 ?_|refine dqc ?_|fail)
   refine za8 (z35 (z05q rfl rfl (by omega) (by omega) ht) (z35 (z0at (m:=(a.length:Int)) (n:=(a.length:Int)) rfl rfl rfl (by omega) (by omega) (by omega)) zhm)) ?_ rfl
   exact z4 rfl rfl
end
section
open Go.RowKit
set_option maxRecDepth 100000
set_option maxHeartbeats 4000000
theorem z03g (ns:List Int) (bs:List Block) (k f:Nat):z6i ns bs k (f+1)=if z07 ns k<1 then 3 else if z07 ns k > 120 then 3 else if za (z01 bs k)≠0 then za (z01 bs k) else if z2c (ns.take k) (z07 ns k)=true then 6 else if z0m ns bs (z01 bs k) k≠0 then z0m ns bs (z01 bs k) k else z6i ns bs (k+1) f:=by
 rw [z6i]
 have e0:z52 ns bs k (z07 ns k) (z01 bs k)=if z07 ns k<1∨120<z07 ns k then 3 else if za (z01 bs k)≠0 then za (z01 bs k) else if z2c (ns.take k) (z07 ns k)=true then 6 else z0m ns bs (z01 bs k) k:=rfl
 generalize z52 ns bs k (z07 ns k) (z01 bs k)=st at *
 by_cases h1:z07 ns k<1
 ·rw [if_pos (Or.inl h1)] at e0
  rw [e0,if_pos (by decide),if_pos h1]
 by_cases h2:z07 ns k > 120
 ·rw [if_pos (Or.inr h2)] at e0
  rw [e0,if_pos (by decide),if_neg h1,if_pos h2]
 rw [if_neg (show ¬ (z07 ns k<1∨120<z07 ns k) by omega)] at e0
 rw [if_neg h1,if_neg h2]
 by_cases h3:za (z01 bs k)≠0
 ·rw [if_pos h3] at e0
  rw [e0,if_pos h3,if_pos h3]
 rw [if_neg h3] at e0
 rw [if_neg h3]
 by_cases h4:z2c (ns.take k) (z07 ns k)=true
 ·rw [if_pos h4] at e0
  rw [e0,if_pos (by decide),if_pos h4]
 ·rw [if_neg h4] at e0
  rw [e0,if_neg h4]
theorem z0hh {ns:List Int} {bs:List Block} (ok:TreeOK ns bs) {m:Int} (h0:m≠0) (hm:0≤idx ns m):1≤ns.length∧up ns bs ns.length m=m::up ns bs ns.length (z0e ns bs m)∧(z0e ns bs m=0∨0≤idx ns (z0e ns bs m)):=by
 obtain ⟨_,_,j,hj,he,_,hp⟩:=ok.name hm
 have hr:=ok.rem h0 hm
 have hpi:z0e ns bs m=0∨0≤idx ns (z0e ns bs m):=hp.imp id fun h=>h.2.1
 have hrl:z4k ns m≤ns.length:=by unfold z4k;rw [if_neg h0];omega
 refine ⟨by omega,?_,hpi⟩
 obtain ⟨f,hf⟩:∃ f,ns.length=f+1:=⟨ns.length - 1,by omega⟩
 have:up ns bs ns.length m=m::up ns bs f (z0e ns bs m):=by rw [hf,up,if_neg h0]
 rw [this,zor ok f ns.length _ hpi (by omega) (by omega)]
section
variable {sp:Nat→z6} {N:Nat} {E:Env} {ks:List (List Dt→Option (List Dt))}
theorem z0br {σ ρ:Type} [Enc ρ] {ats:List Atom} {body:T} (enc:σ→List Dt) (val:σ→ρ) (rk:σ→Nat) (Inv:σ→Prop) (s0:σ) (h:vals E ats=some (enc s0)) (h0:Inv s0) (hN:rk s0<N)
  (step:∀ (s:σ),Inv s→∀ again:List Dt→Option (List Dt),(∀ s',Inv s'→rk s'<rk s→again (enc s')=ret (val s'))→den sp N body (E++enc s) (ks++[again])=ret (val s)):den sp N (.loop ats body) E ks=ret (val s0):=by
 refine zfy h ?_
 have key:∀ (n:Nat) (s:σ),rk s≤n→Inv s→∀ M,n<M→z66 (fun again ds=>den sp N body (E++ds) (ks++[again])) M (enc s)=ret (val s):=by
  intro n
  induction n with
  | zero =>
   intro s hs hi M hM
   obtain ⟨M,rfl⟩:∃ j,M=j+1:=⟨M - 1,by omega⟩
   rw [z66]
   exact step s hi _ fun s' _ hlt=>by omega
  | succ n ih =>
   intro s hs hi M hM
   obtain ⟨M,rfl⟩:∃ j,M=j+1:=⟨M - 1,by omega⟩
   rw [z66]
   exact step s hi _ fun s' hi' hlt=>ih s' (by omega) hi' M (by omega)
 exact key (rk s0) s0 (Nat.le_refl _) h0 N hN
end
noncomputable def zfa:z6:=spD (fun l:List In=>l.length≤3518437208780) fun l=>l
theorem z07w (l:List In) (h:l.length≤3518437208780):zfa [.l 3 (l.map eIn)]=some [.l 3 (l.map eIn)]:=zb (p:=fun l:List In=>l.length≤3518437208780) (f:=fun l:List In=>l) l h
theorem z0jr:Meets Tryz.prog zfa 215 ⟨[.one],[(false,[.fresh 97 3])],false⟩ :=
 z4o (e:=fun x:{ l:List In // l.length≤3518437208780 }=>Enc.e x.1) (xs:=fun x=>x.1) zva rfl rfl (by decide) (z1u (fn:=Tryz.f215) (by kernel_rfl) (by kernel_rfl) (by kernel_rfl)) fun x W F us hF h=>by
  obtain ⟨v,us,rfl,h1,h⟩:=z16 h
  obtain rfl:=z1r h
  obtain ⟨A,n,c,rfl,k1⟩:=z2u zva h1
  have:=x.2
  have:=k1.1
  exact (z0di x.1 A n c W F k1 hF (by omega)).mono fun r W' h=>⟨n,h⟩
noncomputable def zd8:z6:=spD (fun l:List Out=>l.length≤4398046510976) fun l=>l
theorem z03h (l:List Out) (h:l.length≤4398046510976):zd8 [.l 2 (l.map z1x)]=some [.l 2 (l.map z1x)]:=zb (p:=fun l:List Out=>l.length≤4398046510976) (f:=fun l:List Out=>l) l h
theorem z0hi:Meets Tryz.prog zd8 216 ⟨[.one],[(false,[.fresh 100 2])],false⟩ :=
 z4o (e:=fun x:{ l:List Out // l.length≤4398046510976 }=>Enc.e x.1) (xs:=fun x=>x.1) zjc rfl rfl (by decide) (z1u (fn:=Tryz.f216) (by kernel_rfl) (by kernel_rfl) (by kernel_rfl)) fun x W F us hF h=>by
  obtain ⟨v,us,rfl,h1,h⟩:=z16 h
  obtain rfl:=z1r h
  obtain ⟨A,n,c,rfl,k1⟩:=z2u zjc h1
  have:=x.2
  have:=k1.1
  exact (z0ac x.1 A n c W F k1 hF (by omega)).mono fun r W' h=>⟨n,h⟩
noncomputable def z7z:z6:=spD (fun l:List Tx=>l.length≤2513169434843) fun l=>l
theorem zk2 (l:List Tx) (h:l.length≤2513169434843):z7z [.l 3 (l.map eTx)]=some [.l 3 (l.map eTx)]:=zb (p:=fun l:List Tx=>l.length≤2513169434843) (f:=fun l:List Tx=>l) l h
theorem z07x (l:List Tx) (h:l.length≤1000000):z7z [.l 3 (l.map eTx)]=some [.l 3 (l.map eTx)]:=zk2 l (by omega)
theorem z0bs:Meets Tryz.prog z7z 153 ⟨[.one],[(false,[.fresh 56 3])],false⟩ :=
 z4o (e:=fun x:{ l:List Tx // l.length≤2513169434843 }=>Enc.e x.1) (xs:=fun x=>x.1) she_tx rfl rfl (by decide) (z1u (fn:=Tryz.f153) (by kernel_rfl) (by kernel_rfl) (by kernel_rfl)) fun x W F us hF h=>by
  obtain ⟨v,us,rfl,h1,h⟩:=z16 h
  obtain rfl:=z1r h
  obtain ⟨A,n,c,rfl,k1⟩:=z2u she_tx h1
  have:=x.2
  have:=k1.1
  exact (z0dj x.1 A n c W F k1 hF (by omega)).mono fun r W' h=>⟨n,h⟩
noncomputable def zd9:z6:=spD (fun l:List Block=>l.length≤1000000) fun l=>l
theorem z03i (l:List Block) (h:l.length≤1000000):zd9 [.l 5 (l.map zi)]=some [.l 5 (l.map zi)]:=zb (p:=fun l:List Block=>l.length≤1000000) (f:=fun l:List Block=>l) l h
theorem z0hj:Meets Tryz.prog zd9 214 ⟨[.one],[(false,[.fresh 24 5])],false⟩ :=
 z4o (e:=fun x:{ l:List Block // l.length≤1000000 }=>Enc.e x.1) (xs:=fun x=>x.1) she_block rfl rfl (by decide) (z1u (fn:=Tryz.f214) (by kernel_rfl) (by kernel_rfl) (by kernel_rfl)) fun x W F us hF h=>by
  obtain ⟨v,us,rfl,h1,h⟩:=z16 h
  obtain rfl:=z1r h
  obtain ⟨A,n,c,rfl,k1⟩:=z2u she_block h1
  have:=x.2
  have:=k1.1
  exact (z022 x.1 A n c W F k1 hF (by omega)).mono fun r W' h=>⟨n,h⟩
attribute [local irreducible] z0o spD za zy
attribute [local irreducible] den denX z1c z1n
def zmp (t:Tx):Prop:=(t.ins.length≤3518437208780∧∀ x ∈ t.ins,x.key.length≤8796093021952)∧(t.outs.length≤4398046510976∧∀ x ∈ t.outs,x.lock.length≤8796093021952)
def zmq (b:Block):Prop:=b.txs.length≤2513169434843∧∀ t ∈ b.txs,zmp t
theorem TxSmall.fit {t:Tx} (h:TxSmall t):zmp t:=⟨⟨by have:=h.ins;omega,fun x hx=>by have:=h.key x hx;omega⟩,by have:=h.outs;omega,fun x hx=>by have:=h.lock x hx;omega⟩
theorem BlockSmall.fit {b:Block} (h:BlockSmall b):zmq b:=⟨by have:=h.txs;omega,fun x hx=>(h.each x hx).fit⟩
noncomputable def z2s:z6:=spD zmp fun t=>t
theorem zh2 (t:Tx) (h:zmp t):z2s [I t.height,.l 3 (t.ins.map eIn),.l 2 (t.outs.map z1x)]=some (eTx t):=zb (p:=zmp) (f:=fun t:Tx=>t) t h
theorem zda (t:Tx) (h:TxSmall t):z2s [I t.height,.l 3 (t.ins.map eIn),.l 2 (t.outs.map z1x)]=some (eTx t):=zh2 t h.fit
def z07y:T :=
 .lets [.call 10 [.v 11] 0] [] (.lets [] [.inr 3 (.v 7) (.v 6)] (.lets [.set (.v 7) (.v 6) 2 [.v 12]] [] (.lets [.bin .add (.v 6) (.c (.i .i64 1))] [] (.again 0 [.v 14,.v 13]))))
def z07z:T :=
 .lets [.call 10 [.v 14] 0] [] (.lets [] [.inr 2 (.v 11) (.v 10)] (.lets [.set (.v 11) (.v 10) 1 [.v 15]] [] (.lets [.bin .add (.v 10) (.c (.i .i64 1))] [] (.again 1 [.v 17,.v
 16]))))
def z080:T :=
 .lets [.bin .lss (.v 10) (.v 9)] [] (.ite (.v 12) (.lets [] [.inr 2 (.v 11) (.v 10)] (.lets [.idx (.v 11) (.v 10) 0,.idx (.v 11) (.v 10) 1] [] z07z)) (.ret [.v 0,.v 7,.v
 11]))
def z081:T :=
 .ite (.v 8) (.lets [] [.inr 3 (.v 7) (.v 6)] (.lets [.idx (.v 7) (.v 6) 0,.idx (.v 7) (.v 6) 1,.idx (.v 7) (.v 6) 2] [] z07y)) (.lets [.len (.v 4)] [] (.loop [.c (.i .i64
 0),.v 4] z080))
def zky:T :=
 .lets [.call 153 [.v 1] 0] [] (.lets [.call 154 [.v 2] 0] [] (.lets [.len (.v 3)] [] (.loop [.c (.i .i64 0),.v 3] (.lets [.bin .lss (.v 6) (.v 5)] [] z081))))
attribute [local irreducible] zfa z56 zd8
theorem zgg:Meets Tryz.prog z2s 154 ⟨[.agg 3],[(true,[.scal,.pure,.pure])],false⟩:=by
 refine z9 (sp:=(z05 [(10,z56),(153,zfa),(154,zd8)])) (sigs:=z08) (cut:=[]) (hints:=[⟨3,[.t 18,.o 9]⟩,⟨8,[.t 35,.o 12]⟩]) (fn:=Tryz.f154) (t:=zky) (by kernel_rfl) (by kernel_rfl) (by kernel_rfl) ?_ ?_
 ·exact (zq (L:=[(10,z56),(153,zfa),(154,zd8)]) ⟨z5 rfl zma,z5 rfl z0jr,z5 rfl z0hi,trivial⟩)
 ·rintro ds rs - h
  obtain ⟨t,ht,rfl,rfl⟩:=zd h
  clear h
  obtain ⟨⟨h1,h3⟩,h2,h4⟩:=ht
  refine ⟨⟨t.ins.length+t.outs.length+1,?_⟩,z1d ⟨rfl,trivial⟩⟩
  show den _ _ zky [I t.height,.l 3 (t.ins.map eIn),.l 2 (t.outs.map z1x)] []=ret t
  unfold zky
  repeat' (first|refine dq1 ?_|refine dqk rfl (z07w _ (by omega)) ?_|refine dqk rfl (z03h _ (by omega)) ?_|fail)
  (refine z0c (fun (_:Unit) k=>[I k,.l 3 (t.ins.map eIn)]) (fun _ _ _=>t) (fun _ _=>True) () t.ins ?_ ?_ ?_ ?_ ?_;rfl;exact trivial;omega)
  ·rintro _ k c r hx hd hkl - again hag
   repeat' (first|refine dq1 ?_|refine dqc ?_|refine dqm ?_|refine dqk rfl (z7u _ (by have:=h3 c (List.mem_of_getElem? hx);omega)) ?_|refine dqT ?_|fail)
   refine z7 (z9f rfl rfl rfl (by omega) (by simp) (by exact hx) rfl) ?_
   repeat' (first|refine dq1 ?_|exact zm rfl rfl (hag () trivial)|fail)
  ·intro _ _ again
   repeat' (first|refine dq1 ?_|refine dqF ?_|fail)
   (refine z0c (fun (_:Unit) k=>[I k,.l 2 (t.outs.map z1x)]) (fun _ _ _=>t) (fun _ _=>True) () t.outs ?_ ?_ ?_ ?_ ?_;rfl;exact trivial;omega)
   ·rintro _ k c r hx hd hkl - again hag
    repeat' (first|refine dq1 ?_|refine dqc ?_|refine dqm ?_|refine dqk rfl (z7u _ (by have:=h4 c (List.mem_of_getElem? hx);omega)) ?_|refine dqT ?_|fail)
    refine z7 (z9f rfl rfl rfl (by omega) (by simp) (by exact hx) rfl) ?_
    repeat' (first|refine dq1 ?_|exact zm rfl rfl (hag () trivial)|fail)
   ·intro _ _ again
    repeat' (first|refine dq1 ?_|exact z4 rfl rfl|refine dqF ?_|fail)
noncomputable def z4l:z6:=spD zmq fun t=>t
theorem zot (b:Block) (h:zmq b):z4l [I b.parent,I b.height,I b.work,I b.nonce,.l 3 (b.txs.map eTx)]=some (zi b):=zb (p:=zmq) (f:=fun t:Block=>t) b h
theorem zbj (b:Block) (h:BlockSmall b):z4l [I b.parent,I b.height,I b.work,I b.nonce,.l 3 (b.txs.map eTx)]=some (zi b):=zot b h.fit
def z03j:T :=
 .lets [.call 91 [.v 10,.v 11,.v 12] 0,.call 91 [.v 10,.v 11,.v 12] 1,.call 91 [.v 10,.v 11,.v 12] 2] [] (.lets [] [.inr 3 (.v 8) (.v 7)] (.lets [.set (.v 8) (.v 7) 0 [.v 13,
 .v 14,.v 15]] [] (.lets [.bin .add (.v 7) (.c (.i .i64 1))] [] (.again 0 [.v 17,.v 16]))))
def z03k:T :=
 .ite (.v 9) (.lets [] [.inr 3 (.v 8) (.v 7)] (.lets [.idx (.v 8) (.v 7) 0,.idx (.v 8) (.v 7) 1,.idx (.v 8) (.v 7) 2] [] z03j)) (.ret [.v 0,.v 1,.v 2,.v 3,.v 8])
def zig:T :=
 .lets [.call 114 [.v 4] 0] [] (.lets [.len (.v 5)] [] (.loop [.c (.i .i64 0),.v 5] (.lets [.bin .lss (.v 7) (.v 6)] [] z03k)))
attribute [local irreducible] z7z
theorem zih:Meets Tryz.prog z4l 83 ⟨[.agg 5],[(true,[.scal,.scal,.scal,.scal,.pure])],false⟩:=by
 refine z9 (sp:=(z05 [(91,z2s),(114,z7z)])) (sigs:=z08) (cut:=[]) (hints:=[⟨3,[.t 12,.o 7]⟩]) (fn:=Tryz.f83) (t:=zig) (by kernel_rfl) (by kernel_rfl) (by kernel_rfl) ?_ ?_
 ·exact (zq (L:=[(91,z2s),(114,z7z)]) ⟨z5 rfl zgg,z5 rfl z0bs,trivial⟩)
 ·rintro ds rs - h
  obtain ⟨b,hb,rfl,rfl⟩:=zd h
  clear h
  obtain ⟨h1,h2⟩:=hb
  refine ⟨⟨b.txs.length+1,?_⟩,z1d ⟨rfl,rfl,rfl,rfl,trivial⟩⟩
  show den _ _ zig [I b.parent,I b.height,I b.work,I b.nonce,.l 3 (b.txs.map eTx)] []=ret b
  unfold zig
  repeat' (first|refine dq1 ?_|refine dqk rfl (zk2 _ (by omega)) ?_|fail)
  (refine z0c (fun (_:Unit) k=>[I k,.l 3 (b.txs.map eTx)]) (fun _ _ _=>b) (fun _ _=>True) () b.txs ?_ ?_ ?_ ?_ ?_;rfl;exact trivial;omega)
  ·rintro _ k c r hx hd hkl - again hag
   repeat' (first|refine dq1 ?_|refine dqc ?_|refine dqm ?_|refine dqK rfl (zh2 c (h2 c (List.mem_of_getElem? hx))) ?_|refine dqT ?_|fail)
   refine z7 (z9f rfl rfl rfl (by omega) (by simp) (by exact hx) rfl) ?_
   repeat' (first|refine dq1 ?_|exact zm rfl rfl (hag () trivial)|fail)
  ·intro _ _ again
   repeat' (first|refine dq1 ?_|exact z4 rfl rfl|refine dqF ?_|fail)
noncomputable def z4q:z6:=spD TreeSmall fun t=>t
theorem zfb (t:Tree) (h:TreeSmall t):z4q [.l 1 (t.names.map zg),.l 5 (t.blocks.map zi)]=some (zal t):=zb (p:=TreeSmall) (f:=fun t:Tree=>t) t h
def zzm:T :=
 .lets [] [.inr 5 (.v 6) (.v 5)] (.lets [.set (.v 6) (.v 5) 0 [.v 13,.v 14,.v 15,.v 16,.v 17]] [] (.lets [.bin .add (.v 5) (.c (.i .i64 1))] [] (.again 0 [.v 19,.v 18])))
def zzn:T :=
 .lets [.call 137 [.v 8,.v 9,.v 10,.v 11,.v 12] 0,.call 137 [.v 8,.v 9,.v 10,.v 11,.v 12] 1,.call 137 [.v 8,.v 9,.v 10,.v 11,.v 12] 2,.call 137 [.v 8,.v 9,.v 10,.v
 11,.v 12] 3,.call 137 [.v 8,.v 9,.v 10,.v 11,.v 12] 4] [] zzm
def zzo:T :=
 .lets [] [.inr 5 (.v 6) (.v 5)] (.lets [.idx (.v 6) (.v 5) 0,.idx (.v 6) (.v 5) 1,.idx (.v 6) (.v 5) 2,.idx (.v 6) (.v 5) 3,.idx (.v 6) (.v 5) 4] [] zzn)
def zzp:T :=
 .lets [.call 136 [.v 1] 0] [] (.lets [.len (.v 3)] [] (.loop [.c (.i .i64 0),.v 3] (.lets [.bin .lss (.v 5) (.v 4)] [] (.ite (.v 7) zzo (.ret [.v 2,.v 6])))))
def zgh:T :=
 .lets [.call 85 [.v 0] 0] [] zzp
attribute [local irreducible] zd9 zd6
theorem zmr:Meets Tryz.prog z4q 150 ⟨[.agg 2],[(true,[.fresh 3 1,.fresh 24 5])],false⟩:=by
 refine z9 (sp:=(z05 [(85,zd6),(136,zd9),(137,z4l)])) (sigs:=z08) (cut:=[]) (hints:=[⟨3,[.t 16,.o 10]⟩]) (fn:=Tryz.f150) (t:=zgh) (by kernel_rfl) (by kernel_rfl) (by kernel_rfl) ?_ ?_
 ·exact (zq (L:=[(85,zd6),(136,zd9),(137,z4l)]) ⟨z5 rfl z0hf,z5 rfl z0hj,z5 rfl zih,trivial⟩)
 ·rintro ds rs - h
  obtain ⟨t,ht,rfl,rfl⟩:=zd h
  clear h
  have h1:=ht.names
  have h2:=ht.blocks
  refine ⟨⟨t.blocks.length+1,?_⟩,z1d trivial⟩
  show den _ _ zgh [.l 1 (t.names.map zg),.l 5 (t.blocks.map zi)] []=ret t
  unfold zgh
  repeat' (first|refine dq1 ?_|refine dqk rfl (z03e _ (by omega)) ?_|refine dqk rfl (z03i _ (by omega)) ?_|fail)
  (refine z0c (fun (_:Unit) k=>[I k,.l 5 (t.blocks.map zi)]) (fun _ _ _=>t) (fun _ _=>True) () t.blocks ?_ ?_ ?_ ?_ ?_;rfl;exact trivial;omega)
  ·rintro _ k c r hx hd hkl - again hag
   repeat' (first|refine dq1 ?_|refine dqc ?_|refine dqm ?_|refine dqK rfl (zbj c (ht.each c (List.mem_of_getElem? hx))) ?_|refine dqT ?_|fail)
   refine z7 (z9f rfl rfl rfl (by omega) (by simp) (by exact hx) rfl) ?_
   repeat' (first|refine dq1 ?_|exact zm rfl rfl (hag () trivial)|fail)
  ·intro _ _ again
   repeat' (first|refine dq1 ?_|exact z4 rfl rfl|refine dqF ?_|fail)
noncomputable def z7g:z6:=spD (fun _:List Int × Int=>True) fun x=>z2c x.1 x.2
theorem zeg (l:List Int) (n:Int):z7g [.l 1 (l.map zg),I n]=some [.b (z2c l n)]:=zb (f:=fun x:List Int × Int=>z2c x.1 x.2) (l,n) trivial
def zou:T :=
 .lets [.call 87 [.v 0,.v 1] 0] [] (.lets [.bin .geq (.v 2) (.c (.i .i64 0))] [] (.ret [.v 3]))
attribute [local irreducible] z3c
theorem zov:Meets Tryz.prog z7g 104 ⟨[.one,.one],[(false,[.scal])],true⟩:=by
 refine z9 (sp:=(z05 [(87,z3c)])) (sigs:=z08) (cut:=[]) (hints:=[]) (fn:=Tryz.f104) (t:=zou) (by kernel_rfl) (by kernel_rfl) (by kernel_rfl) ?_ ?_
 ·exact (zq (L:=[(87,z3c)]) ⟨z5 rfl zd5,trivial⟩)
 ·rintro ds rs - h
  obtain ⟨⟨l,n⟩,-,rfl,rfl⟩:=zd h
  clear h
  refine ⟨⟨1,?_⟩,z0a rfl⟩
  show den _ _ zou [.l 1 (l.map zg),I n] []=ret (z2c l n)
  have e:z2c l n=decide (idx l n ≥ 0):=by
   unfold z2c
   by_cases h:n ∈ l
   ·rw [decide_eq_true h,decide_eq_true ((z0b l n).2 h)]
   ·rw [decide_eq_false h,decide_eq_false fun k=>h ((z0b l n).1 k)]
  rw [e]
  unfold zou
  repeat' (first|refine dq1 ?_|refine dqk rfl (z7f l n) ?_|exact z4 rfl rfl|fail)
def zrm (x:Tree × Block × Int):Prop:=0≤x.2.2∧x.2.2≤x.1.names.length∧x.1.names.length=x.1.blocks.length∧∀ b ∈ x.1.blocks.take x.2.2.toNat,0≤b.height∧b.height≤1000
noncomputable def z5q:z6:=spD zrm fun x=>z0m x.1.names x.1.blocks x.2.1 x.2.2.toNat
theorem zfc (t:Tree) (b:Block) (m:Nat) (h1:m≤t.names.length) (h2:t.names.length=t.blocks.length) (h3:∀ b ∈ t.blocks.take m,0≤b.height∧b.height≤1000):z5q [.l 1 (t.names.map zg),.l 5 (t.blocks.map zi),I b.parent,I b.height,I b.work,I b.nonce,.l 3 (b.txs.map eTx),I m]=some [I (z0m t.names t.blocks b m)] :=
 zb (p:=zrm) (f:=fun x:Tree × Block × Int=>z0m x.1.names x.1.blocks x.2.1 x.2.2.toNat) (t,b,(m:Int)) ⟨by simp only;omega,by simp only;omega,h2,by simpa using h3⟩
def zzq:T :=
 .lets [.idx (.v 1) (.v 10) 1] [] (.lets [.bin .add (.v 12) (.c (.i .i64 1))] [] (.lets [.bin .neq (.v 3) (.v 13)] [] (.ite (.v 14) (.ret [.c (.i .i64 4)]) (.ret [.c (.i .i64 0)]))))
def zzr:T :=
 .lets [.call 87 [.v 9,.v 2] 0] [] (.lets [.bin .lss (.v 10) (.c (.i .i64 0))] [] (.ite (.v 11) (.ret [.c (.i .i64 5)]) (.lets [] [.inr 5 (.v 1) (.v 10)] zzq)))
def zzs:T :=
 .ite (.v 8) (.lets [.sub 1 (.v 0) none (some (.v 7))] [] zzr) (.lets [.bin .add (.c (.i .i64 0)) (.c (.i .i64 1))] [] (.lets [.bin .neq (.v 3) (.v 9)] [] (.ite (.v 10)
 (.ret [.c (.i .i64 4)]) (.ret [.c (.i .i64 0)]))))
def zgi:T :=
 .lets [.bin .neq (.v 2) (.c (.i .i64 0))] [] zzs
theorem zms:Meets Tryz.prog z5q 149 ⟨[.agg 2,.agg 5,.one],[(false,[.scal])],true⟩:=by
 refine z9 (sp:=(z05 [(87,z3c)])) (sigs:=z08) (cut:=[]) (hints:=[]) (fn:=Tryz.f149) (t:=zgi) (by kernel_rfl) (by kernel_rfl) (by kernel_rfl) ?_ ?_
 ·exact (zq (L:=[(87,z3c)]) ⟨z5 rfl zd5,trivial⟩)
 ·rintro ds rs - h
  obtain ⟨⟨t,b,m⟩,⟨h1,h2,h3,h4⟩,rfl,rfl⟩:=zd h
  clear h
  simp only at h1 h2 h3 h4
  refine ⟨⟨1,?_⟩,z0a rfl⟩
  show den _ _ zgi [.l 1 (t.names.map zg),.l 5 (t.blocks.map zi),I b.parent,I b.height,I b.work,I b.nonce,.l 3 (b.txs.map eTx),I m] []=ret (z0m t.names t.blocks b m.toNat)
  have e:z0m t.names t.blocks b m.toNat=if b.parent≠0 then (if idx (t.names.take m.toNat) b.parent<0 then 5 else if b.height≠(z01 t.blocks (idx (t.names.take m.toNat) b.parent)).height+1 then 4 else 0) else (if b.height≠0+1 then 4 else 0):=by
   unfold z0m
   by_cases h:b.parent=0
   ·rw [if_pos h,if_neg (show ¬ b.parent≠0 from fun k=>k h)];rfl
   ·rw [if_neg h,if_pos (show b.parent≠0 from h)]
  rw [e]
  clear e
  unfold zgi
  have a1:=z7f (t.names.take m.toNat) b.parent
  have hb:=zm0 (t.names.take m.toNat) b.parent
  rw [List.length_take] at hb
  have hat:¬ idx (t.names.take m.toNat) b.parent<0→t.blocks[(idx (t.names.take m.toNat) b.parent).toNat]? = some (z01 t.blocks (idx (t.names.take m.toNat) b.parent))∧0≤(z01 t.blocks (idx (t.names.take m.toNat) b.parent)).height∧(z01 t.blocks (idx (t.names.take m.toNat) b.parent)).height≤1000∧idx (t.names.take m.toNat) b.parent<t.blocks.length:=by
   intro hn
   obtain ⟨i,hi,his⟩:=z5h (show 0≤idx (t.names.take m.toNat) b.parent by omega)
   have hil:=(List.getElem?_eq_some_iff.1 his).1
   rw [List.length_take] at hil
   have hlt:(idx (t.names.take m.toNat) b.parent).toNat<t.blocks.length:=by omega
   have e1:t.blocks[(idx (t.names.take m.toNat) b.parent).toNat]? = some (z01 t.blocks (idx (t.names.take m.toNat) b.parent)):=by
    unfold z01
    rw [List.getElem?_eq_getElem hlt,Option.getD_some]
   suffices hm:z01 t.blocks (idx (t.names.take m.toNat) b.parent) ∈ t.blocks.take m.toNat from ⟨e1,(h4 _ hm).1,(h4 _ hm).2,by omega⟩
   refine List.mem_of_getElem? (i:=(idx (t.names.take m.toNat) b.parent).toNat) ?_
   rw [List.getElem?_take,if_pos (by omega)]
   exact e1
  generalize idx (t.names.take m.toNat) b.parent=j at *
  have hl:(t.names.take m.toNat).map zg=(t.names.map zg).take m.toNat:=List.map_take
  generalize z01 t.blocks j=x at *
  rw [hl] at a1
  refine z7 (z9e rfl rfl) ?_
  refine tR (fun h=>?_) (fun h=>?_)
  rotate_left
  ·repeat' (first|refine dq1 ?_|exact z4 rfl rfl|refine tR (fun h=>?_) fun h=>?_|fail)
  ·refine z7 (d:=.l 1 ((t.names.map zg).take m.toNat)) ?_ ?_
   ·simp [denX,Atom.val,bndI,asI,h1,h2]
   refine dqk rfl a1 ?_
   refine z7 (zvu rfl rfl) ?_
   refine tR (fun h=>?_) (fun h=>?_)
   ·repeat' (first|exact z4 rfl rfl|fail)
   ·obtain ⟨hx,g1,g2,g3⟩:=hat h
    repeat' (first|refine dq1 ?_|refine dqc ?_|exact z4 rfl rfl|refine tR (fun h=>?_) fun h=>?_|fail)
noncomputable def z32:z6:=spD (fun _:Tree=>True) fun t=>zy t
theorem z6z (t:Tree):z32 [.l 1 (t.names.map zg),.l 5 (t.blocks.map zi)]=some [I (zy t)]:=zb (f:=fun t:Tree=>zy t) t trivial
theorem zzt (t:Tree):zy t=if (t.names.length:Int)≠t.blocks.length then 4 else if (t.names.length:Int) > 24 then 2 else z6i t.names t.blocks 0 t.blocks.length:=by
 have e:zy t=if t.names.length≠t.blocks.length then 4 else if 24<t.names.length then 2 else z6i t.names t.blocks 0 t.names.length:=by with_unfolding_all rfl
 by_cases h:t.names.length=t.blocks.length
 ·have e2:zy t=if 24<t.names.length then 2 else z6i t.names t.blocks 0 t.names.length:=by rw [e];exact if_neg (fun k=>k h)
  by_cases h2:24<t.names.length
  ·rw [e2,if_pos h2,if_neg (show ¬ (t.names.length:Int)≠t.blocks.length by omega),if_pos (by omega)]
  ·rw [e2,if_neg h2,if_neg (show ¬ (t.names.length:Int)≠t.blocks.length by omega),if_neg (by omega),h]
 ·rw [e,if_pos h,if_pos (by omega)]
def zta:T :=
 .lets [.call 132 [.v 0,.v 1,.v 11,.v 12,.v 13,.v 14,.v 15,.v 9] 0] [] (.lets [.bin .neq (.v 23) (.c (.i .i64 0))] [] (.ite (.v 24) (.ret [.v 23]) (.lets [.bin .add (.v 9) (.c
 (.i .i64 1))] [] (.again 0 [.v 8,.v 25]))))
def ztb:T :=
 .ite (.v 20) (.ret [.v 19]) (.lets [.sub 1 (.v 0) none (some (.v 9))] [] (.lets [.call 131 [.v 21,.v 16] 0] [] (.ite (.v 22) (.ret [.c (.i .i64 6)]) zta)))
def ztc:T :=
 .lets [.bin .gtr (.v 16) (.c (.i .i64 120))] [] (.ite (.v 18) (.ret [.c (.i .i64 3)]) (.lets [.call 72 [.v 11,.v 12,.v 13,.v 14,.v 15] 0] [] (.lets [.bin .neq (.v 19) (.c (.i
 .i64 0))] [] ztb)))
def ztd:T :=
 .lets [] [.inr 1 (.v 0) (.v 9)] (.lets [.idx (.v 0) (.v 9) 0] [] (.lets [.bin .lss (.v 16) (.c (.i .i64 1))] [] (.ite (.v 17) (.ret [.c (.i .i64 3)]) ztc)))
def zte:T :=
 .lets [] [.inr 5 (.v 1) (.v 9)] (.lets [.idx (.v 1) (.v 9) 0,.idx (.v 1) (.v 9) 1,.idx (.v 1) (.v 9) 2,.idx (.v 1) (.v 9) 3,.idx (.v 1) (.v 9) 4] [] ztd)
def ztf:T :=
 .ite (.v 6) (.ret [.c (.i .i64 2)]) (.lets [.len (.v 1)] [] (.loop [.c (.i .i64 0),.c (.i .i64 0)] (.lets [.bin .lss (.v 9) (.v 7)] [] (.ite (.v 10) zte (.ret [.c (.i
 .i64 0)])))))
def ztg:T :=
 .lets [.len (.v 1)] [] (.lets [.bin .neq (.v 2) (.v 3)] [] (.ite (.v 4) (.ret [.c (.i .i64 4)]) (.lets [.len (.v 0)] [] (.lets [.bin .gtr (.v 5) (.c (.i .i64 24))] []
 ztf))))
def zeh:T :=
 .lets [.len (.v 0)] [] ztg
attribute [local irreducible] z31 z5q
theorem zar:Meets Tryz.prog z32 81 ⟨[.agg 2],[(false,[.scal])],true⟩:=by
 refine z9 (sp:=(z05 [(72,z31),(131,z7g),(132,z5q)])) (sigs:=z08) (cut:=[]) (hints:=[⟨6,[.t 2,.t 22]⟩]) (fn:=Tryz.f81) (t:=zeh) (by kernel_rfl) (by kernel_rfl) (by kernel_rfl) ?_ ?_
 ·exact (zq (L:=[(72,z31),(131,z7g),(132,z5q)]) ⟨z5 rfl zge,z5 rfl zov,z5 rfl zms,trivial⟩)
 ·rintro ds rs - h
  obtain ⟨t,-,rfl,rfl⟩:=zd h
  clear h
  refine ⟨⟨t.blocks.length+1,?_⟩,z0a rfl⟩
  show den _ _ zeh [.l 1 (t.names.map zg),.l 5 (t.blocks.map zi)] []=ret (zy t)
  rw [zzt]
  unfold zeh
  repeat' (first|refine dq1 ?_|exact z4 rfl rfl|refine tR (fun h=>?_) fun h=>?_|fail)
  (refine z0c (fun (_:Unit) k=>[I 0,I k]) (fun _ k (r:List Block)=>z6i t.names t.blocks k r.length) (fun _ k=>∀ x ∈ t.blocks.take k,0≤x.height∧x.height≤1000) () t.blocks ?_ ?_ ?_ ?_ ?_;rfl;exact (fun x hx=>by simp at hx);exact Nat.lt_succ_self _)
  ·rintro _ k b r hx hd hkl hI again hag
   have hb:z01 t.blocks (k:Int)=b:=by unfold z01;rw [Int.toNat_natCast,hx];rfl
   have hnl:k<t.names.length:=by omega
   obtain ⟨nm,hn⟩:∃ nm,t.names[k]? = some nm:=⟨_,List.getElem?_eq_getElem hnl⟩
   have hna:z07 t.names k=nm:=by unfold z07;rw [hn];rfl
   rw [List.length_cons,z03g,hb,hna]
   have a1:=zab b
   have a2:=zeg (t.names.take k) nm
   have a3:=zfc t b k (by omega) (by omega) hI
   rw [List.map_take] at a2
   have hn2:t.names[((k:Nat):Int).toNat]? = some nm:=by rw [Int.toNat_natCast];exact hn
   have hx2:t.blocks[((k:Nat):Int).toNat]? = some b:=by rw [Int.toNat_natCast];exact hx
   have hcut:∀ E:Env,E[0]? = some (.l 1 (t.names.map zg))→E[9]? = some (I (k:Int))→denX (fun _ _=>none) E (.sub 1 (.v 0) none (some (.v 9)))=some (.l 1 ((t.names.map zg).take k)):=by
    intro E h0 h9
    simp [denX,Atom.val,bndI,asI,h0,h9]
    omega
   repeat' (first|refine dq1 ?_|refine dqc ?_|refine dqm ?_|refine dqk rfl (a1) ?_|exact z4 rfl rfl|refine tR (fun h=>?_) fun h=>?_|refine dqT ?_|fail)
   refine z7 (d:=.l 1 ((t.names.map zg).take k)) (by simp [denX,Atom.val,bndI,asI];omega) ?_
   repeat' (first|refine dq1 ?_|refine dqk rfl (a2) ?_|refine dqk rfl (a3) ?_|exact z4 rfl rfl|((first|refine tR ?_ ?_|refine tB ?_ ?_) <;> intro h)|fail)
   refine zm rfl rfl (hag () ?_)
   have hok:za b=0:=Decidable.not_not.1 (by assumption)
   intro x hxm
   rw [List.take_add_one,hx] at hxm
   rcases List.mem_append.1 hxm with hm|hm
   ·exact hI x hm
   ·simp only [Option.toList,List.mem_singleton] at hm
    subst hm
    exact ze1 hok
  ·intro _ _ again
   repeat' (first|refine dq1 ?_|exact z4 rfl rfl|refine dqF ?_|fail)
noncomputable def z8x:z6:=spD (fun x:Tree × Int=>TreeOK x.1.names x.1.blocks∧(x.2=0∨0≤idx x.1.names x.2)) fun x=>z0n x.1.names x.1.blocks x.2
theorem zii (t:Tree) (m:Int) (ok:TreeOK t.names t.blocks) (hm:m=0∨0≤idx t.names m):z8x [.l 1 (t.names.map zg),.l 5 (t.blocks.map zi),I m]=some [.l 1 ((z0n t.names t.blocks m).map zg)]:=zb (p:=fun x:Tree × Int=>TreeOK x.1.names x.1.blocks∧(x.2=0∨0≤idx x.1.names x.2)) (f:=fun x:Tree × Int=>z0n x.1.names x.1.blocks x.2) (t,m) ⟨ok,hm⟩
theorem zgj {t:Tree} (ok:TreeOK t.names t.blocks) {m:Int} (hm:0≤idx t.names m):t.blocks[(idx t.names m).toNat]? = some (z01 t.blocks (idx t.names m))∧idx t.names m<t.blocks.length:=by
 obtain ⟨j,hj,hjs⟩:=z5h hm
 have hlt:=(List.getElem?_eq_some_iff.1 hjs).1
 have hl:=ok.len
 refine ⟨?_,by omega⟩
 unfold z01
 rw [List.getElem?_eq_getElem (by omega),Option.getD_some]
def z082:T :=
 .lets [.mk 1 [[.v 4]]] [] (.lets [.app 1 (.v 3) (.v 6)] [] (.lets [.call 87 [.v 0,.v 4] 0] [] (.lets [] [.inr 5 (.v 1) (.v 8)] (.lets [.idx (.v 1) (.v 8) 0] [] (.again 0 [.v 7,.v
 9])))))
def zkz:T :=
 .loop [.c (.nil 1),.v 2] (.lets [.bin .neq (.v 4) (.c (.i .i64 0))] [] (.ite (.v 5) z082 (.lets [.call 86 [.v 3] 0] [] (.ret [.v 6]))))
attribute [local irreducible] zb6
theorem zzu:Meets Tryz.prog z8x 105 ⟨[.agg 2,.one],[(false,[.fresh 3 1])],false⟩:=by
 refine z9 (sp:=(z05 [(86,zb6),(87,z3c)])) (sigs:=z08) (cut:=[]) (hints:=[⟨2,[.r 5 3 1,.t 1]⟩]) (fn:=Tryz.f105) (t:=zkz) (by kernel_rfl) (by kernel_rfl) (by kernel_rfl) ?_ ?_
 ·exact (zq (L:=[(86,zb6),(87,z3c)]) ⟨z5 rfl z0ek,z5 rfl zd5,trivial⟩)
 ·rintro ds rs - h
  obtain ⟨⟨t,m⟩,⟨ok,hm⟩,rfl,rfl⟩:=zd h
  clear h
  simp only at ok hm
  refine ⟨⟨t.names.length+1,?_⟩,z1d trivial⟩
  show den _ _ zkz [.l 1 (t.names.map zg),.l 5 (t.blocks.map zi),I m] []=ret (z0n t.names t.blocks m)
  unfold zkz
  have hz:∀ n,up t.names t.blocks n 0=[]:=fun n=>by cases n with
   | zero=>rfl
   | succ n=>rw [up,if_pos rfl]
  have hle:=ok.le
  have hrl:z4k t.names m≤t.names.length:=by
   rcases hm with h|h
   ·unfold z4k;rw [if_pos h];omega
   ·have:=(zgj ok h).2
    have:=ok.len
    unfold z4k;split <;> omega
  refine z0br (fun s:List Int × Int=>[.l 1 (s.1.map zg),I s.2]) (fun s=>(s.1++up t.names t.blocks t.names.length s.2).reverse) (fun s=>z4k t.names s.2) (fun s=>(s.2=0∨0≤idx t.names s.2)∧s.1.length+z4k t.names s.2≤24) ([],m) rfl ⟨hm,by simp only [List.length_nil];omega⟩ (by simp only;omega) ?_
  rintro ⟨acc,m⟩ ⟨hm,hl⟩ again hag
  simp only at hm hl hag ⊢
  by_cases h:m=0
  ·subst h
   rw [hz,List.append_nil]
   have a1:=zzf acc
   refine z7 (z9e rfl rfl) ?_
   refine dqF ?_ rfl (fun k=>k rfl)
   repeat' (first|refine dqk rfl (a1) ?_|exact z4 rfl rfl|fail)
  ·have hi:0≤idx t.names m:=hm.resolve_left h
   obtain ⟨u1,u2,u3⟩:=z0hh ok h hi
   obtain ⟨b1,b2⟩:=zgj ok hi
   have hr:=ok.rem h hi
   have a1:=z7f t.names m
   rw [u2]
   refine z7 (z9e rfl rfl) ?_
   refine dqT ?_ rfl h
   repeat' (first|refine dq1 ?_|refine dqc ?_|refine dqk rfl (a1) ?_|fail)
   have:=hag (acc++[m],z0e t.names t.blocks m) ⟨u3,by simp only [List.length_append,List.length_singleton];omega⟩ hr
   simp only [List.append_assoc,List.singleton_append] at this
   exact zm rfl rfl this
noncomputable def z7h:z6:=spD (fun x:Tree × List Int=>TreeOK x.1.names x.1.blocks∧x.2.length≤24∧∀ m ∈ x.2,0≤idx x.1.names m) fun x=>z1p x.1.names x.1.blocks x.2
theorem zij (t:Tree) (l:List Int) (ok:TreeOK t.names t.blocks) (hl:l.length≤24) (hm:∀ m ∈ l,0≤idx t.names m):z7h [.l 1 (t.names.map zg),.l 5 (t.blocks.map zi),.l 1 (l.map zg)]=some [I (z1p t.names t.blocks l)]:=zb (p:=fun x:Tree × List Int=>TreeOK x.1.names x.1.blocks∧x.2.length≤24∧∀ m ∈ x.2,0≤idx x.1.names m) (f:=fun x:Tree × List Int=>z1p x.1.names x.1.blocks x.2) (t,l) ⟨ok,hl,hm⟩
def z083:T :=
 .lets [] [.inr 5 (.v 1) (.v 8)] (.lets [.idx (.v 1) (.v 8) 2] [] (.lets [.bin .add (.v 4) (.v 9)] [] (.lets [.bin .add (.v 5) (.c (.i .i64 1))] [] (.again 0 [.v 10,.v 11]))))
def z084:T :=
 .lets [.bin .lss (.v 5) (.v 3)] [] (.ite (.v 6) (.lets [] [.inr 1 (.v 2) (.v 5)] (.lets [.idx (.v 2) (.v 5) 0] [] (.lets [.call 87 [.v 0,.v 7] 0] [] z083))) (.ret [.v 4]))
def zl0:T :=
 .lets [.len (.v 2)] [] (.loop [.c (.i .i64 0),.c (.i .i64 0)] z084)
theorem zzv:Meets Tryz.prog z7h 84 ⟨[.agg 2,.one],[(false,[.scal])],true⟩:=by
 refine z9 (sp:=(z05 [(87,z3c)])) (sigs:=z08) (cut:=[]) (hints:=[⟨3,[.t 5,.t 10]⟩]) (fn:=Tryz.f84) (t:=zl0) (by kernel_rfl) (by kernel_rfl) (by kernel_rfl) ?_ ?_
 ·exact (zq (L:=[(87,z3c)]) ⟨z5 rfl zd5,trivial⟩)
 ·rintro ds rs - h
  obtain ⟨⟨t,l⟩,⟨ok,hl,hm⟩,rfl,rfl⟩:=zd h
  clear h
  simp only at ok hl hm
  refine ⟨⟨l.length+1,?_⟩,z0a rfl⟩
  show den _ _ zl0 [.l 1 (t.names.map zg),.l 5 (t.blocks.map zi),.l 1 (l.map zg)] []=ret (z1p t.names t.blocks l)
  have hw:∀ b ∈ t.blocks,0≤b.work∧b.work≤1000:=fun b hb=>zt7 (z8g ((z02 _ _).2 ok) b hb)
  unfold zl0
  repeat' (first|refine dq1 ?_|fail)
  rw [show z1p t.names t.blocks l=0+z1p t.names t.blocks l by omega]
  (refine z0c (fun (s:Int) k=>[I s,I k]) (fun (s:Int) _ (r:List Int)=>s+z1p t.names t.blocks r) (fun s k=>0≤s∧s≤1000 * k) (0:Int) l ?_ ?_ ?_ ?_ ?_;rfl;exact ⟨by omega,by omega⟩;exact Nat.lt_succ_self _)
  ·rintro s k m r hx hd hkl ⟨i1,i2⟩ again hag
   obtain ⟨b1,b2⟩:=zgj ok (hm m (List.mem_of_getElem? hx))
   have hi:=hm m (List.mem_of_getElem? hx)
   have hwb:=hw _ (List.mem_of_getElem? b1)
   have a1:=z7f t.names m
   rw [z1p]
   generalize z01 t.blocks (idx t.names m)=b at *
   repeat' (first|refine dq1 ?_|refine dqc ?_|refine dqk rfl (a1) ?_|refine dqT ?_|fail)
   have:=hag (s+b.work) ⟨by omega,by omega⟩
   rw [Int.add_assoc] at this
   exact zm rfl rfl this
  ·rintro s ⟨i1,i2⟩ again
   rw [z1p,Int.add_zero]
   repeat' (first|refine dq1 ?_|exact z4 rfl rfl|refine dqF ?_|fail)
noncomputable def z4r:z6:=spD (fun _:Tree × Int=>True) fun x=>z3x x.1 x.2
theorem zfd (t:Tree) (m:Int):z4r [.l 1 (t.names.map zg),.l 5 (t.blocks.map zi),I m]=some [.l 1 ((z3x t m).1.map zg),I (z3x t m).2]:=zb (f:=fun x:Tree × Int=>z3x x.1 x.2) (t,m) trivial
theorem zrn (t:Tree) (m:Int):z3x t m=if zy t≠0 then ([],zy t) else if m≠0 then (if z2c t.names m=false then ([],5) else (z0n t.names t.blocks m,0)) else (z0n t.names t.blocks m,0):=by
 with_unfolding_all unfold z3x
 by_cases h:zy t≠0
 ·rw [if_pos h,if_pos h]
 rw [if_neg h,if_neg h]
 by_cases h2:m=0
 ·rw [if_neg (by omega),if_neg (fun k=>k h2)]
 rw [if_pos h2]
 have hi:=z0b t.names m
 by_cases h3:m ∈ t.names
 ·rw [if_neg (by have:=hi.2 h3;omega),if_neg (by unfold z2c;simp [h3])]
 ·rw [if_pos ⟨h2,by apply Classical.byContradiction;intro hc;exact h3 (hi.1 (by omega))⟩,if_pos (by unfold z2c;simp [h3])]
def zzw:T :=
 .lets [.call 131 [.v 0,.v 2] 0] [] (.lets [.not (.v 6)] [] (.ite (.v 7) (.ret [.c (.nil 1),.c (.i .i64 5)]) (.lets [.call 134 [.v 0,.v 1,.v 2] 0] [] (.ret [.v 8,.c (.i .i64
 0)]))))
def zzx:T :=
 .ite (.v 4) (.ret [.c (.nil 1),.v 3]) (.lets [.bin .neq (.v 2) (.c (.i .i64 0))] [] (.ite (.v 5) zzw (.lets [.call 134 [.v 0,.v 1,.v 2] 0] [] (.ret [.v 6,.c (.i .i64
 0)]))))
def zgk:T :=
 .lets [.call 133 [.v 0,.v 1] 0] [] (.lets [.bin .neq (.v 3) (.c (.i .i64 0))] [] zzx)
theorem zmt:Meets Tryz.prog z4r 41 ⟨[.agg 2,.one],[(false,[.pure]),(false,[.scal])],false⟩:=by
 refine z9 (sp:=(z05 [(131,z7g),(133,z32),(134,z8x)])) (sigs:=z08) (cut:=[]) (hints:=[]) (fn:=Tryz.f41) (t:=zgk) (by kernel_rfl) (by kernel_rfl) (by kernel_rfl) ?_ ?_
 ·exact (zq (L:=[(131,z7g),(133,z32),(134,z8x)]) ⟨z5 rfl zov,z5 rfl zar,z5 rfl zzu,trivial⟩)
 ·rintro ds rs - h
  obtain ⟨⟨t,m⟩,-,rfl,rfl⟩:=zd h
  clear h
  refine ⟨⟨1,?_⟩,z1d ⟨rfl,trivial⟩⟩
  show den _ _ zgk [.l 1 (t.names.map zg),.l 5 (t.blocks.map zi),I m] []=ret (z3x t m)
  rw [zrn]
  unfold zgk
  have a1:=z6z t
  have a2:=zeg t.names m
  have a3:=zii t m
  have hok:=(z02 t.names t.blocks).1
  have hin:z2c t.names m=true→0≤idx t.names m:=(z8k _ _).1
  generalize z2c t.names m=d at *
  refine dqk rfl a1 ?_
  refine z7 (z9e rfl rfl) ?_
  refine tR (fun h=>?_) (fun h=>?_)
  ·repeat' (first|exact z4 rfl rfl|fail)
  have h:=Decidable.not_not.1 h
  have ok:=hok h
  refine z7 (z9e rfl rfl) ?_
  refine tR (fun h=>?_) (fun h=>?_)
  rotate_left
  ·have a3:=a3 ok (.inl (Decidable.not_not.1 h))
   repeat' (first|refine dqk rfl (a3) ?_|exact z4 rfl rfl|fail)
  ·refine dqk rfl a2 ?_
   refine z7 (z0ar rfl) ?_
   cases d with
   | true =>
    have a3:=a3 ok (.inr (hin rfl))
    rw [if_neg (by decide)]
    repeat' (first|refine dqk rfl (a3) ?_|exact z4 rfl rfl|refine z4i rfl ?_|fail)
   | false =>
    rw [if_pos rfl]
    repeat' (first|exact z4 rfl rfl|refine z6w rfl ?_|fail)
theorem z085 {t:Tree} {m:Int} (h:(z3x t m).2=0):TreeOK t.names t.blocks∧(m=0∨0≤idx t.names m)∧z3x t m=(z0n t.names t.blocks m,0):=by
 rw [zrn] at h ⊢
 by_cases h1:zy t≠0
 ·rw [if_pos h1] at h;exact absurd h h1
 rw [if_neg h1] at h ⊢
 have ok:=(z02 t.names t.blocks).1 (Decidable.not_not.1 h1)
 by_cases h2:m=0
 ·rw [if_neg (fun k=>k h2)]
  exact ⟨ok,.inl h2,rfl⟩
 rw [if_pos h2] at h ⊢
 by_cases h3:z2c t.names m=false
 ·rw [if_pos h3] at h;exact absurd h (by decide)
 ·rw [if_neg h3]
  exact ⟨ok,.inr ((z8k _ _).1 (by simpa using h3)),rfl⟩
noncomputable def z87:z6:=spD (fun _:Tree × Int=>True) fun x=>z8h x.1 x.2
theorem zfe (t:Tree) (m:Int):z87 [.l 1 (t.names.map zg),.l 5 (t.blocks.map zi),I m]=some [I (z8h t m).1,I (z8h t m).2]:=zb (f:=fun x:Tree × Int=>z8h x.1 x.2) (t,m) trivial
def zzy:T :=
 .lets [.bin .neq (.v 4) (.c (.i .i64 0))] [] (.ite (.v 5) (.ret [.c (.i .i64 0),.v 4]) (.lets [.call 135 [.v 0,.v 1,.v 3] 0] [] (.ret [.v 6,.c (.i .i64 0)])))
def zgl:T :=
 .lets [.call 88 [.v 0,.v 1,.v 2] 0,.call 88 [.v 0,.v 1,.v 2] 1] [] zzy
attribute [local irreducible] z7h z4r
theorem z086:Meets Tryz.prog z87 23 ⟨[.agg 2,.one],[(false,[.scal]),(false,[.scal])],true⟩:=by
 refine z9 (sp:=(z05 [(88,z4r),(135,z7h)])) (sigs:=z08) (cut:=[]) (hints:=[]) (fn:=Tryz.f23) (t:=zgl) (by kernel_rfl) (by kernel_rfl) (by kernel_rfl) ?_ ?_
 ·exact (zq (L:=[(88,z4r),(135,z7h)]) ⟨z5 rfl zmt,z5 rfl zzv,trivial⟩)
 ·rintro ds rs - h
  obtain ⟨⟨t,m⟩,-,rfl,rfl⟩:=zd h
  clear h
  refine ⟨⟨1,?_⟩,z77 rfl rfl⟩
  show den _ _ zgl [.l 1 (t.names.map zg),.l 5 (t.blocks.map zi),I m] []=ret (z8h t m)
  have a1:=zfd t m
  have a2:=fun ok h1 h2=>zij t (z3x t m).1 ok h1 h2
  have hp:=@z085 t m
  unfold zgl z8h
  generalize z3x t m=q at *
  obtain ⟨l,e⟩:=q
  simp only at *
  by_cases he:e=0
  ·obtain ⟨ok,hm,hl⟩:=hp he
   obtain rfl:=congrArg Prod.fst hl
   simp only at a1 a2 ⊢
   have a2:=a2 ok (by have:=zb4 ok hm;have:=ok.le;omega) (z8l ok hm)
   repeat' (first|refine dq1 ?_|refine dqK rfl (a1) ?_|refine dqk rfl (a2) ?_|exact z4 rfl rfl|refine tR (fun h=>?_) fun h=>?_|fail)
  ·repeat' (first|refine dq1 ?_|refine dqK rfl (a1) ?_|exact z4 rfl rfl|refine tR (fun h=>?_) fun h=>?_|fail)
   all_goals omega
noncomputable def z5r:z6:=spD (fun _:Tree=>True) fun t=>z0v t
theorem zff (t:Tree):z5r [.l 1 (t.names.map zg),.l 5 (t.blocks.map zi)]=some [I (z0v t).1,I (z0v t).2]:=zb (f:=fun t:Tree=>z0v t) t trivial
def zzz:T :=
 .ite (.v 14) (.lets [.bin .add (.v 7) (.c (.i .i64 1))] [] (.again 0 [.v 9,.v 11,.v 15])) (.lets [.bin .add (.v 7) (.c (.i .i64 1))] [] (.again 0 [.v 5,.v 6,.v 15]))
def z000:T :=
 .lets [.bin .eql (.v 11) (.v 6)] [] (.ite (.v 13) (.lets [.bin .lss (.v 9) (.v 5)] [] zzz) (.lets [.bin .add (.v 7) (.c (.i .i64 1))] [] (.again 0 [.v 5,.v 6,.v 14])))
def z001:T :=
 .lets [.call 135 [.v 0,.v 1,.v 10] 0] [] (.lets [.bin .gtr (.v 11) (.v 6)] [] (.ite (.v 12) (.lets [.bin .add (.v 7) (.c (.i .i64 1))] [] (.again 0 [.v 9,.v 11,.v 13]))
 z000))
def z002:T :=
 .ite (.v 8) (.lets [] [.inr 1 (.v 0) (.v 7)] (.lets [.idx (.v 0) (.v 7) 0] [] (.lets [.call 134 [.v 0,.v 1,.v 9] 0] [] z001))) (.ret [.v 5,.c (.i .i64 0)])
def z003:T :=
 .ite (.v 3) (.ret [.c (.i .i64 0),.v 2]) (.lets [.len (.v 0)] [] (.loop [.c (.i .i64 0),.c (.i .i64 0),.c (.i .i64 0)] (.lets [.bin .lss (.v 7) (.v 4)] [] z002)))
def zgm:T :=
 .lets [.call 133 [.v 0,.v 1] 0] [] (.lets [.bin .neq (.v 2) (.c (.i .i64 0))] [] z003)
theorem zmu:Meets Tryz.prog z5r 76 ⟨[.agg 2],[(false,[.scal]),(false,[.scal])],true⟩:=by
 refine z9 (sp:=(z05 [(133,z32),(134,z8x),(135,z7h)])) (sigs:=z08) (cut:=[]) (hints:=[⟨6,[.t 5,.t 6,.t 18]⟩]) (fn:=Tryz.f76) (t:=zgm) (by kernel_rfl) (by kernel_rfl) (by kernel_rfl) ?_ ?_
 ·exact (zq (L:=[(133,z32),(134,z8x),(135,z7h)]) ⟨z5 rfl zar,z5 rfl zzu,z5 rfl zzv,trivial⟩)
 ·rintro ds rs - h
  obtain ⟨t,-,rfl,rfl⟩:=zd h
  clear h
  refine ⟨⟨t.names.length+1,?_⟩,z77 rfl rfl⟩
  show den _ _ zgm [.l 1 (t.names.map zg),.l 5 (t.blocks.map zi)] []=ret (z0v t)
  have a1:=z6z t
  have hok:=(z02 t.names t.blocks).1
  rw [show z0v t=if zy t≠0 then (0,zy t) else ((t.names.foldl (z15 t.names t.blocks) (0,0)).1,0) from rfl]
  unfold zgm
  refine dqk rfl a1 ?_
  refine z7 (z9e rfl rfl) ?_
  refine tR (fun h=>?_) (fun h=>?_)
  ·repeat' (first|exact z4 rfl rfl|fail)
  have h:=Decidable.not_not.1 h
  have ok:=hok h
  repeat' (first|refine dq1 ?_|fail)
  (refine z0c (fun (s:Int × Int) k=>[I s.1,I s.2,I k]) (fun (s:Int × Int) _ (r:List Int)=>((r.foldl (z15 t.names t.blocks) s).1,(0:Int))) (fun _ _=>True) ((0,0):Int × Int) t.names ?_ ?_ ?_ ?_ ?_;rfl;exact trivial;exact Nat.lt_succ_self _)
  ·rintro ⟨p,w⟩ k m r hx hd hkl - again hag
   have hm:=(z0b t.names m).2 (List.mem_of_getElem? hx)
   have hm:m=0∨0≤idx t.names m:=.inr hm
   have a2:=zii t m ok hm
   have a3:=zij t (z0n t.names t.blocks m) ok (by have:=zb4 ok hm;have:=ok.le;omega) (z8l ok hm)
   have hle:=ok.le
   rw [List.foldl_cons]
   simp only at hag ⊢
   have hst:z15 t.names t.blocks (p,w) m=if w<z1p t.names t.blocks (z0n t.names t.blocks m)∨(z1p t.names t.blocks (z0n t.names t.blocks m)=w∧m<p) then (m,z1p t.names t.blocks (z0n t.names t.blocks m)) else (p,w):=rfl
   generalize z1p t.names t.blocks (z0n t.names t.blocks m)=v at *
   by_cases h1:w<v
   ·rw [hst,if_pos (.inl h1)]
    repeat' (first|refine dq1 ?_|refine dqc ?_|refine dqk rfl (a2) ?_|refine dqk rfl (a3) ?_|refine dqT ?_|fail)
    exact zm rfl rfl (hag (m,v) trivial)
   by_cases h2:v=w
   ·by_cases h3:m<p
    ·rw [hst,if_pos (.inr ⟨h2,h3⟩)]
     repeat' (first|refine dq1 ?_|refine dqc ?_|refine dqk rfl (a2) ?_|refine dqk rfl (a3) ?_|refine dqT ?_|refine dqF ?_|fail)
     exact zm rfl rfl (hag (m,v) trivial)
    ·rw [hst,if_neg (by omega)]
     repeat' (first|refine dq1 ?_|refine dqc ?_|refine dqk rfl (a2) ?_|refine dqk rfl (a3) ?_|refine dqT ?_|refine dqF ?_|fail)
     exact zm rfl rfl (hag (p,w) trivial)
   ·rw [hst,if_neg (by omega)]
    repeat' (first|refine dq1 ?_|refine dqc ?_|refine dqk rfl (a2) ?_|refine dqk rfl (a3) ?_|refine dqT ?_|refine dqF ?_|fail)
    exact zm rfl rfl (hag (p,w) trivial)
  ·rintro ⟨p,w⟩ - again
   repeat' (first|refine dq1 ?_|exact z4 rfl rfl|refine dqF ?_|fail)
noncomputable def z1m:z6:=spD (fun _:Tree × Int=>True) fun x=>(z0h x.1 x.2,z1e x.1 x.2)
theorem z70 (t:Tree) (m:Int):z1m [.l 1 (t.names.map zg),.l 5 (t.blocks.map zi),I m]=some (zi (z0h t m)++[I (z1e t m)]):=zb (f:=fun x:Tree × Int=>(z0h x.1 x.2,z1e x.1 x.2)) (t,m) trivial
theorem zro {t:Tree} (ok:TreeOK t.names t.blocks) {b:Block} (hb:b ∈ t.blocks):BlockSmall b:=by
 have bk:=z3w (z8g (t:=t) ((z02 t.names t.blocks).2 ok) b hb)
 exact ⟨by have:=bk.len;omega,fun x hx=>z6j (bk.each x hx)⟩
theorem zmv {t:Tree} (ok:TreeOK t.names t.blocks):TreeSmall t:=by
 have:=ok.len
 have:=ok.le
 exact ⟨by omega,by omega,fun b hb=>zro ok hb⟩
def zth:T :=
 .lets [.call 137 [.v 7,.v 8,.v 9,.v 10,.v 11] 0,.call 137 [.v 7,.v 8,.v 9,.v 10,.v 11] 1,.call 137 [.v 7,.v 8,.v 9,.v 10,.v 11] 2,.call 137 [.v 7,.v 8,.v 9,.v 10,
 .v 11] 3,.call 137 [.v 7,.v 8,.v 9,.v 10,.v 11] 4] [] (.ret [.v 12,.v 13,.v 14,.v 15,.v 16,.c (.i .i64 0)])
def zti:T :=
 .lets [] [.inr 5 (.v 1) (.v 5)] (.lets [.idx (.v 1) (.v 5) 0,.idx (.v 1) (.v 5) 1,.idx (.v 1) (.v 5) 2,.idx (.v 1) (.v 5) 3,.idx (.v 1) (.v 5) 4] [] zth)
def ztj:T :=
 .lets [.bin .lss (.v 5) (.c (.i .i64 0))] [] (.ite (.v 6) (.ret [.c (.i .i64 0),.c (.i .i64 0),.c (.i .i64 0),.c (.i .i64 0),.c (.nil 3),.c (.i .i64 5)]) zti)
def ztk:T :=
 .lets [.bin .neq (.v 3) (.c (.i .i64 0))] [] (.ite (.v 4) (.ret [.c (.i .i64 0),.c (.i .i64 0),.c (.i .i64 0),.c (.i .i64 0),.c (.nil 3),.v 3]) (.lets [.call 87 [.v 0,.v 2] 0]
 [] ztj))
def zei:T :=
 .lets [.call 133 [.v 0,.v 1] 0] [] ztk
theorem zas:Meets Tryz.prog z1m 22 ⟨[.agg 2,.one],[(true,[.scal,.scal,.scal,.scal,.pure]),(false,[.scal])],false⟩:=by
 refine z9 (sp:=(z05 [(87,z3c),(133,z32),(137,z4l)])) (sigs:=z08) (cut:=[]) (hints:=[]) (fn:=Tryz.f22) (t:=zei) (by kernel_rfl) (by kernel_rfl) (by kernel_rfl) ?_ ?_
 ·exact (zq (L:=[(87,z3c),(133,z32),(137,z4l)]) ⟨z5 rfl zd5,z5 rfl zar,z5 rfl zih,trivial⟩)
 ·rintro ds rs - h
  obtain ⟨⟨t,m⟩,-,rfl,rfl⟩:=zd h
  clear h
  refine ⟨⟨1,?_⟩,z1d ⟨rfl,rfl,rfl,rfl,rfl,trivial⟩⟩
  show den _ _ zei [.l 1 (t.names.map zg),.l 5 (t.blocks.map zi),I m] []=ret (z0h t m,z1e t m)
  have a1:=z6z t
  have a2:=z7f t.names m
  have hok:=(z02 t.names t.blocks).1
  have hat:=fun ok h=>@zgj t ok m h
  have e:(z0h t m,z1e t m)=if zy t≠0 then (z6k,zy t) else if idx t.names m<0 then (z6k,5) else (z01 t.blocks (idx t.names m),0):=by
   with_unfolding_all unfold z0h z1e
   by_cases h:zy t≠0
   ·rw [if_pos h,if_neg h,if_pos h]
   ·rw [if_neg h]
    by_cases h2:idx t.names m<0
    ·rw [if_pos h2,if_neg (by decide),if_neg h,if_pos h2]
    ·rw [if_neg h2,if_pos rfl,if_neg h,if_neg h2]
  rw [e]
  clear e
  unfold zei
  generalize idx t.names m=j at *
  refine dqk rfl a1 ?_
  refine z7 (z9e rfl rfl) ?_
  refine tR (fun h=>?_) (fun h=>?_)
  ·repeat' (first|exact z4 rfl rfl|fail)
  have h:=Decidable.not_not.1 h
  have ok:=hok h
  refine dqk rfl a2 ?_
  refine z7 (zvu rfl rfl) ?_
  refine tR (fun h=>?_) (fun h=>?_)
  ·repeat' (first|exact z4 rfl rfl|fail)
  obtain ⟨b1,b2⟩:=hat ok (by omega)
  have hle:=ok.le
  have a3:=zbj _ (zro ok (List.mem_of_getElem? b1))
  generalize z01 t.blocks j=b at *
  repeat' (first|refine dqc ?_|refine dqm ?_|refine dqK rfl (a3) ?_|exact z4 rfl rfl|fail)
noncomputable def z9t:z6:=spD (fun _:Tree × Int × Block=>True) fun x=>(z23 x.1 x.2.1 x.2.2,z0g x.1 x.2.1 x.2.2)
theorem ztl (t:Tree) (m:Int) (b:Block):z9t [.l 1 (t.names.map zg),.l 5 (t.blocks.map zi),I m,I b.parent,I b.height,I b.work,I b.nonce,.l 3 (b.txs.map eTx)]=some [.l 1 ((z23 t m b).names.map zg),.l 5 ((z23 t m b).blocks.map zi),I (z0g t m b)]:=zb (f:=fun x:Tree × Int × Block=>(z23 x.1 x.2.1 x.2.2,z0g x.1 x.2.1 x.2.2)) (t,m,b) trivial
theorem z03l (t:Tree) (name:Int) (b:Block):(z23 t name b,z0g t name b)=if zy t≠0 then ((⟨[],[]⟩:Tree),zy t) else if name<1 then (⟨[],[]⟩,3) else if name > 120 then (⟨[],[]⟩,3) else if za b≠0 then (⟨[],[]⟩,za b) else if z2c t.names name=true then (⟨[],[]⟩,6) else if z0m t.names t.blocks b t.names.length≠0 then (⟨[],[]⟩,z0m t.names t.blocks b t.names.length) else if (t.names.length:Int)=24 then (⟨[],[]⟩,12) else (⟨t.names++[name],t.blocks++[b]⟩,0):=by
 have key:∀ e,z0g t name b=e→e≠0→(z23 t name b,z0g t name b)=(⟨[],[]⟩,e):=by
  intro e h h0
  with_unfolding_all unfold z23
  rw [h,if_neg h0]
 by_cases h1:zy t≠0
 ·rw [if_pos h1]
  exact key _ (by with_unfolding_all exact if_pos h1) h1
 have e1:z0g t name b=if z5y name=true then 3 else if za b≠0 then za b else if z2c t.names name=true then 6 else if z0m t.names t.blocks b t.names.length≠0 then z0m t.names t.blocks b t.names.length else if (t.names.length:Int)=24 then 12 else 0:=by with_unfolding_all exact if_neg h1
 rw [if_neg h1]
 by_cases h2:name<1
 ·rw [if_pos h2]
  exact key _ (by rw [e1,if_pos (by unfold z5y;exact decide_eq_true (.inl h2))]) (by decide)
 rw [if_neg h2]
 by_cases h3:name > 120
 ·rw [if_pos h3]
  exact key _ (by rw [e1,if_pos (by unfold z5y;exact decide_eq_true (.inr h3))]) (by decide)
 rw [if_neg h3]
 rw [if_neg (by unfold z5y;rw [decide_eq_true_iff];omega)] at e1
 by_cases h4:za b≠0
 ·rw [if_pos h4]
  exact key _ (by rw [e1,if_pos h4]) h4
 rw [if_neg h4]
 rw [if_neg h4] at e1
 by_cases h5:z2c t.names name=true
 ·rw [if_pos h5]
  exact key _ (by rw [e1,if_pos h5]) (by decide)
 rw [if_neg h5]
 rw [if_neg h5] at e1
 by_cases h6:z0m t.names t.blocks b t.names.length≠0
 ·rw [if_pos h6]
  exact key _ (by rw [e1,if_pos h6]) h6
 rw [if_neg h6]
 rw [if_neg h6] at e1
 by_cases h7:(t.names.length:Int)=24
 ·rw [if_pos h7]
  exact key _ (by rw [e1,if_pos h7]) (by decide)
 rw [if_neg h7]
 rw [if_neg h7] at e1
 rw [e1]
 with_unfolding_all unfold z23
 rw [e1,if_pos rfl]
def z03m:T :=
 .lets [.call 137 [.v 3,.v 4,.v 5,.v 6,.v 7] 0,.call 137 [.v 3,.v 4,.v 5,.v 6,.v 7] 1,.call 137 [.v 3,.v 4,.v 5,.v 6,.v 7] 2,.call 137 [.v 3,.v 4,.v 5,.v 6,.v 7]
 3,.call 137 [.v 3,.v 4,.v 5,.v 6,.v 7] 4] [] (.lets [.mk 5 [[.v 24,.v 25,.v 26,.v 27,.v 28]]] [] (.lets [.app 5 (.v 21) (.v 29)] [] (.ret [.v 23,.v 30,.c (.i .i64 0)])))
def z03n:T :=
 .ite (.v 19) (.ret [.c (.nil 1),.c (.nil 5),.c (.i .i64 12)]) (.lets [.call 113 [.v 0,.v 1] 0,.call 113 [.v 0,.v 1] 1] [] (.lets [.mk 1 [[.v 2]]] [] (.lets [.app 1 (.v 20) (.v
 22)] [] z03m)))
def z03o:T :=
 .lets [.bin .neq (.v 16) (.c (.i .i64 0))] [] (.ite (.v 17) (.ret [.c (.nil 1),.c (.nil 5),.v 16]) (.lets [.len (.v 0)] [] (.lets [.bin .eql (.v 18) (.c (.i .i64 24))] []
 z03n)))
def z03p:T :=
 .ite (.v 14) (.ret [.c (.nil 1),.c (.nil 5),.c (.i .i64 6)]) (.lets [.len (.v 0)] [] (.lets [.call 132 [.v 0,.v 1,.v 3,.v 4,.v 5,.v 6,.v 7,.v 15] 0] [] z03o))
def z03q:T :=
 .lets [.call 72 [.v 3,.v 4,.v 5,.v 6,.v 7] 0] [] (.lets [.bin .neq (.v 12) (.c (.i .i64 0))] [] (.ite (.v 13) (.ret [.c (.nil 1),.c (.nil 5),.v 12]) (.lets [.call 131 [.v 0,
 .v 2] 0] [] z03p)))
def z03r:T :=
 .ite (.v 10) (.ret [.c (.nil 1),.c (.nil 5),.c (.i .i64 3)]) (.lets [.bin .gtr (.v 2) (.c (.i .i64 120))] [] (.ite (.v 11) (.ret [.c (.nil 1),.c (.nil 5),.c (.i .i64 3)])
 z03q))
def zik:T :=
 .lets [.call 133 [.v 0,.v 1] 0] [] (.lets [.bin .neq (.v 8) (.c (.i .i64 0))] [] (.ite (.v 9) (.ret [.c (.nil 1),.c (.nil 5),.v 8]) (.lets [.bin .lss (.v 2) (.c (.i .i64 1))] []
 z03r)))
theorem z0bt:Meets Tryz.prog z9t 73 ⟨[.agg 2,.one,.agg 5],[(true,[.pure,.pure]),(false,[.scal])],false⟩:=by
 refine z9 (sp:=(z05 [(72,z31),(113,z4q),(131,z7g),(132,z5q),(133,z32),(137,z4l)])) (sigs:=z08) (cut:=[]) (hints:=[]) (fn:=Tryz.f73) (t:=zik) (by kernel_rfl) (by kernel_rfl) (by kernel_rfl) ?_ ?_
 ·exact (zq (L:=[(72,z31),(113,z4q),(131,z7g),(132,z5q),(133,z32),(137,z4l)]) ⟨z5 rfl zge,z5 rfl zmr,z5 rfl zov,z5 rfl zms,z5 rfl zar,z5 rfl zih,trivial⟩)
 ·rintro ds rs - h
  obtain ⟨⟨t,m,b⟩,-,rfl,rfl⟩:=zd h
  clear h
  refine ⟨⟨1,?_⟩,z1d ⟨rfl,trivial⟩⟩
  show den _ _ zik [.l 1 (t.names.map zg),.l 5 (t.blocks.map zi),I m,I b.parent,I b.height,I b.work,I b.nonce,.l 3 (b.txs.map eTx)] []=ret (z23 t m b,z0g t m b)
  have a1:=z6z t
  have a2:=zab b
  have a3:=zeg t.names m
  have hok:=(z02 t.names t.blocks).1
  have hbk:=@z3w b
  rw [z03l]
  unfold zik
  generalize z2c t.names m=d at *
  refine dqk rfl a1 ?_
  refine z7 (z9e rfl rfl) ?_
  refine tR (fun h=>?_) (fun h=>?_)
  ·repeat' (first|exact z4 rfl rfl|fail)
  have h:=Decidable.not_not.1 h
  have ok:=hok h
  have hle:=ok.le
  have hll:=ok.len
  have a4:=zfc t b t.names.length (Nat.le_refl _) hll (fun x hx=>ze1 (z8g (t:=t) h x (List.mem_of_mem_take hx)))
  have a5:=zfb t (zmv ok)
  by_cases hb:za b=0
  ·have bk:=hbk hb
   have a6:=zbj b ⟨by have:=bk.len;omega,fun x hx=>z6j (bk.each x hx)⟩
   clear hbk
   generalize z0m t.names t.blocks b t.names.length=st at *
   repeat' (first|refine dq1 ?_|refine dqk rfl (a2) ?_|refine dqk rfl (a3) ?_|refine dqk rfl (a4) ?_|refine dqK rfl (a5) ?_|refine dqK rfl (a6) ?_|refine z7 (z5c (r:=[zi b]) rfl rfl (by simp)) ?_|exact z4 rfl rfl|((first|refine tR ?_ ?_|refine tB ?_ ?_) <;> intro h)|fail)
  ·clear hbk
   repeat' (first|refine dq1 ?_|refine dqk rfl (a2) ?_|exact z4 rfl rfl|refine tR (fun h=>?_) fun h=>?_|fail)
   all_goals omega
end
section
open Go.RowKit
set_option maxRecDepth 100000
set_option maxHeartbeats 4000000
section
variable {ρ:Type}
def z47 (h:Int) (bad:Int→ρ) (K:List Coin→List Coin→ρ):List Coin→List Coin→List In→ρ
 | r,s,[]=>K r s
 | r,s,x::xs=>if z39 r x.p=true then
   if ((r[zw r x.p]?).getD z8e).reward=true then
    if h<((r[zw r x.p]?).getD z8e).height+2 then bad 10
    else if (z4z ((r[zw r x.p]?).getD z8e).o.lock x.key h).1=true then z47 h bad K (r.take (zw r x.p)++r.drop (zw r x.p+1)) (s++[(r[zw r x.p]?).getD z8e]) xs else bad 8
   else if (z4z ((r[zw r x.p]?).getD z8e).o.lock x.key h).1=true then z47 h bad K (r.take (zw r x.p)++r.drop (zw r x.p+1)) (s++[(r[zw r x.p]?).getD z8e]) xs else bad 8
  else bad 7
def z4g (nm h:Int) (rw:Bool) (bad:Int→ρ) (K:List Coin→ρ):List Coin→Nat→List Out→ρ
 | r,_,[]=>K r
 | r,i,o::os=>if z39 r ⟨nm,i⟩=true then bad 6 else z4g nm h rw bad K (r.take (zw r ⟨nm,i⟩)++[⟨⟨nm,i⟩,o,h,rw⟩]++r.drop (zw r ⟨nm,i⟩)) (i+1) os
end
def z55 (e:Int):List Coin × List Coin × Int:=([],[],e)
def zbk (s r:List Coin):List Coin × List Coin × Int:=if zx r≠0 then z55 (zx r) else (r,s,0)
def zr (l:List Coin) (t:Tx) (nm h:Int):List Coin × List Coin × Int :=
 if zx l≠0 then z55 (zx l) else if zl t≠0 then z55 (zl t) else
 if nm<1∨120<nm∨h<1∨1000<h then z55 3 else
 if (t.ins.length:Int)=0 then
  if t.height≠h then z55 4 else z47 h z55 (fun r s=>z4g nm h (decide ((t.ins.length:Int)=0)) z55 (zbk s) r 0 t.outs) l [] t.ins
 else z47 h z55 (fun r s=>if z1i t s<0 then z55 9 else z4g nm h (decide ((t.ins.length:Int)=0)) z55 (zbk s) r 0 t.outs) l [] t.ins
section
variable {ρ:Type}
def zue (nm:Int) (bad:Int→ρ) (K:List Coin→ρ):List Coin→Nat→List Out→ρ
 | r,_,[]=>K r
 | r,i,o::os=>if z39 r ⟨nm,i⟩=true then (if decide (((r[zw r ⟨nm,i⟩]?).getD z8e).o=o)=true then zue nm bad K (r.take (zw r ⟨nm,i⟩)++r.drop (zw r ⟨nm,i⟩+1)) (i+1) os else bad 7) else bad 7
def zuf (ins:List In) (bad:Int→ρ) (K:List Coin→ρ):List Coin→Nat→List Coin→ρ
 | r,_,[]=>K r
 | r,i,c::cs=>if z39 r c.p=true then bad 6 else if ((ins[i]?).getD ⟨⟨0,0⟩,[]⟩).p≠c.p then bad 6 else zuf ins bad K (r.take (zw r c.p)++[c]++r.drop (zw r c.p)) (i+1) cs
end
def zl1 (e:Int):List Coin × Int:=([],e)
def endR (r:List Coin):List Coin × Int:=if zx r≠0 then zl1 (zx r) else (r,0)
def z6b (l:List Coin) (t:Tx) (nm:Int) (u:List Coin):List Coin × Int :=
 if zx l≠0 then zl1 (zx l) else if zl t≠0 then zl1 (zl t) else if (u.length:Int)≠t.ins.length then zl1 4 else
  zue nm zl1 (fun r=>zuf t.ins zl1 endR r 0 u) l 0 t.outs
theorem z9u {r:List Coin} (h:z0j r) (k:Nat):z0j (r.take k++r.drop (k+1)):=by
 have:(r.take k++r.drop (k+1))=r.eraseIdx k:=(List.eraseIdx_eq_take_drop_succ r k).symm
 rw [this]
 exact h.sublist (List.eraseIdx_sublist r k)
theorem z9v {r:List Coin} (h:z0j r) {c:Coin} (hc:z39 r c.p=false):z0j (r.take (zw r c.p)++[c]++r.drop (zw r c.p)):=by
 obtain ⟨i1,i2⟩:=zjt h c.p
 have hle:=zkq r c.p
 have hne:∀ t (ht:t<r.length),r[t].p≠c.p:=fun t ht he=>by
  have:z39 r c.p=true:=List.any_eq_true.2 ⟨_,List.getElem_mem ht,by simpa using he⟩
  rw [this] at hc;cases hc
 unfold z0j
 rw [List.append_assoc,List.pairwise_append]
 refine ⟨List.Pairwise.sublist (List.take_sublist _ _) h,?_,?_⟩
 ·rw [List.singleton_append,List.pairwise_cons]
  refine ⟨fun d hd=>?_,List.Pairwise.sublist (List.drop_sublist _ _) h⟩
  obtain ⟨t,ht,rfl⟩:=List.getElem_of_mem hd
  rw [List.length_drop] at ht
  rw [List.getElem_drop]
  have:=i2 (zw r c.p+t) (by omega) (by omega)
  rcases z05o c.p r[zw r c.p+t].p with h|h|h
  ·exact h
  ·exact absurd h.symm (hne _ (by omega))
  ·exact absurd h this
 ·intro a ha b hb
  obtain ⟨t,ht,rfl⟩:=List.getElem_of_mem ha
  rw [List.length_take] at ht
  rw [List.getElem_take]
  have hat:=i1 t (by omega) (by omega)
  rw [List.singleton_append,List.mem_cons] at hb
  rcases hb with rfl|hb
  ·exact hat
  ·obtain ⟨u,hu,rfl⟩:=List.getElem_of_mem hb
   rw [List.length_drop] at hu
   rw [List.getElem_drop]
   have:=i2 (zw r c.p+u) (by omega) (by omega)
   rcases z05o r[t].p r[zw r c.p+u].p with h|h|h
   ·exact h
   ·exact absurd (h ▸ hat) this
   ·exact absurd (z8p h hat) this
structure SpI (l:List Coin) (st:List Coin × List Coin) (k:Nat):Prop where
 sorted:z0j st.1
 len:st.1.length≤l.length
 good:∀ c ∈ st.1,z5w c=0
 cnt:st.2.length=k
 spent:∀ c ∈ st.2,z5w c=0
theorem SpI.cut {l:List Coin} {r s:List Coin} {k:Nat} {c:Coin} {j:Nat} (h:SpI l (r,s) k) (hc:r[j]? = some c):SpI l (r.take j++r.drop (j+1),s++[c]) (k+1):=by
 refine ⟨z9u h.sorted j,?_,fun d hd=>?_,?_,fun d hd=>?_⟩
 ·have:=h.len
  simp only [List.length_append,List.length_take,List.length_drop] at this ⊢
  omega
 ·rcases List.mem_append.1 hd with hd|hd
  ·exact h.good d (List.mem_of_mem_take hd)
  ·exact h.good d (List.mem_of_mem_drop hd)
 ·have:=h.cnt
  simp only [List.length_append,List.length_singleton] at this ⊢
  omega
 ·rcases List.mem_append.1 hd with hd|hd
  ·exact h.spent d hd
  ·simp only [List.mem_singleton] at hd
   subst hd
   exact h.good d (List.mem_of_getElem? hc)
theorem SpI.fee {l:List Coin} {r s:List Coin} {t:Tx} (h:SpI l (r,s) t.ins.length) (ht:TxOK t):zf6 (t,s) :=
 ⟨by have:=h.cnt;have:=ht.ins;simp only at *;omega,fun c hc=>by have:=z5d (h.spent c hc);omega,by have:=ht.outs;simp only;omega,fun o ho=>by have:=ht.good o ho;omega⟩
end
section
open Go.RowKit
section
variable {P:Program} {W:World}
theorem zfg {g o t:Nat} {vs cs:List Value} (hg:W.heap[g]? = some (.cells vs.toArray t (0,0))) (hn:o+cs.length≤vs.length) (h1:∀ v ∈ cs,v.oneCell'=true):(storeCells ⟨g,o,none⟩ cs 0).run P W = .ok () (W.setCells g o cs):=by
 have h:=zhb (fr:=(0,0)) hg (o:=o) (n:=cs.length) hn
 have:=run_storeCells_cells (P:=P) g o cs 0 W (fun j hj=>by rw [Nat.add_zero];exact (h j hj).1) (fun j hj=>by rw [Nat.add_zero];exact (h j hj).2) h1
 simpa using this
theorem z0bu {t e ty sz:Nat} {z:Value} (ht:P.underlying t=some (.slice e)) (hv:∀ w,(zeroValue e).run P w = .ok z w) (hz:z.cells.size=sz) (h1:∀ v ∈ z.cells.toList,v.oneCell'=true) {g o n c tt:Nat} {vs:List Value} (hg:W.heap[g]? = some (.cells vs.toArray tt (0,0))) (hn:o+n * sz≤vs.length) :
  (Builtin.clear_ #[t] ty #[.slice (some ⟨g,o,none⟩) n c]).run P W = .ok (.tuple #[]) (W.setCells g o (Builtin.zeroCells z.cells n).toList):=by
 have hzl:(Builtin.zeroCells z.cells n).toList.length=n * sz:=by simp [Builtin.zeroCells,hz]
 cases n with
 | zero =>
  have:(Builtin.zeroCells z.cells 0).toList=[]:=List.eq_nil_of_length_eq_zero (by rw [hzl];simp)
  rw [this]
  simp [Builtin.clear_,run_underlying ht,World.setCells]
 | succ n =>
  have hs:=zfg (P:=P) (cs:=(Builtin.zeroCells z.cells (n+1)).toList) hg (by rw [hzl];exact hn) (fun v hv=>by
   rw [Array.mem_toList_iff] at hv
   simp only [Builtin.zeroCells,Array.mem_map] at hv
   obtain ⟨i,hi,rfl⟩:=hv
   have hpos:0<z.cells.size:=by
    rcases Nat.eq_zero_or_pos z.cells.size with h|h
    ·rw [h] at hi;simp at hi
    ·exact h
   have hlt:i % z.cells.size<z.cells.size:=Nat.mod_lt _ hpos
   rw [getElem!_pos z.cells _ hlt]
   exact h1 _ (by simp))
  simp [Builtin.clear_,run_underlying ht,hv,hs]
theorem zgn {t t' e ty sz:Nat} (ht:P.underlying t=some (.slice e)) (hsz:(P.info? e).map (·.size)=some sz) {g o dLen dCap sLen sCap tt:Nat} {a:Addr} {vs cs:List Value} (hg:W.heap[g]? = some (.cells vs.toArray tt (0,0))) (hl:cs.length=Nat.min sLen dLen * sz) (hsrc:∀ j v,cs[j]? = some v→W.cell? (a.add j)=some v) (hn:o+cs.length≤vs.length) (h1:∀ v ∈ cs,v.oneCell'=true) :
  (Builtin.copy_ #[t,t'] ty #[.slice (some ⟨g,o,none⟩) dLen dCap,.slice (some a) sLen sCap]).run P W = .ok (goInt (Nat.min sLen dLen)) (W.setCells g o cs):=by
 have hs:=zfg (P:=P) hg hn h1
 have hlc:=run_loadCells_list (P:=P) W a cs hsrc
 cases hq:P.info? e with
 | none=>simp [hq] at hsz
 | some i =>
  have hi:i.size=sz:=by simpa [hq] using hsz
  simp [Builtin.copy_,run_underlying ht,Builtin.lenOf,Builtin.firstCells,sizeOf,typeInfo,hq,hi,← hl,hlc,hs]
end
theorem z0em {pre mid post us:List Value} {o:Nat} (ho:o=pre.length) (h:us.length=mid.length):z1w (pre++mid++post) o us=pre++us++post:=by subst ho;exact zkh us pre mid post h
theorem z8y {vs us:List Value} {o:Nat} (h:o+us.length≤vs.length):z1w vs o us=vs.take o++us++vs.drop (o+us.length):=by
 have e:vs=vs.take o++(vs.drop o).take us.length++vs.drop (o+us.length):=by
  rw [List.append_assoc,← List.drop_drop,List.take_append_drop,List.take_append_drop]
 have h1:o=(vs.take o).length:=by rw [List.length_take];omega
 have h2:us.length=((vs.drop o).take us.length).length:=by rw [List.length_take,List.length_drop];omega
 conv=>lhs;rw [e]
 exact z0em h1 h2
theorem zil {sz:Nat}:∀ {xs:List (List Dt)},(∀ x ∈ xs,x.length=sz)→xs.flatten.length=xs.length * sz
 | [],_=>by simp
 | x::xs,h=>by rw [List.flatten_cons,List.length_append,h x (List.mem_cons_self ..),zil fun y hy=>h y (List.mem_cons_of_mem _ hy),List.length_cons,Nat.succ_mul,Nat.add_comm]
theorem zgo {sz:Nat}:∀ {xs:List (List Dt)} (i:Nat),(∀ x ∈ xs,x.length=sz)→(xs.take i).flatten=xs.flatten.take (i * sz)
 | [],i,_=>by simp
 | x::xs,0,_=>by simp
 | x::xs,i+1,h=>by
  have hx:=h x (List.mem_cons_self ..)
  rw [List.take_succ_cons,List.flatten_cons,List.flatten_cons,zgo i fun y hy=>h y (List.mem_cons_of_mem _ hy),List.take_append,hx,List.take_of_length_le (show x.length≤(i+1) * sz by rw [hx,Nat.succ_mul];omega),Nat.succ_mul,Nat.add_sub_cancel]
theorem zmw {sz:Nat} {xs:List (List Dt)} (i:Nat) (h:∀ x ∈ xs,x.length=sz):(xs.drop i).flatten=xs.flatten.drop (i * sz):=by
 have e:xs.flatten=(xs.take i).flatten++(xs.drop i).flatten:=by rw [← List.flatten_append,List.take_append_drop]
 by_cases hi:i≤xs.length
 ·have h1:(xs.take i).flatten.length=i * sz:=by rw [zil fun y hy=>h y (List.mem_of_mem_take hy),List.length_take,Nat.min_eq_left hi]
  rw [e,← h1,List.drop_left]
 ·rw [List.drop_of_length_le (by omega),List.drop_of_length_le]
  ·rfl
  ·rw [zil h];exact Nat.mul_le_mul_right _ (by omega)
section
variable {P:Program}
theorem z0bv {α:Type} [Enc α] {f e sz:Nat} (hn:Enc.n α=sz) (hpos:0<sz) (hen:En P f) (zc:Array Value) (hzc:zc.size=sz)
  (h0:∀ (W:World) (A:Option Addr) (n cap i:Nat),i≤n→n≤cap→cap≤maxLen→Calls P f #[.slice A n cap,.int .i64 i,.int .i64 i] W fun r W'=>r = .returned (.slice A n cap)∧W'=W)
  (hw:∀ (W:World) (g n cap i j:Nat) (vs:List Value),W.heap[g]? = some (.cells vs.toArray e (0,0))→n≤cap→cap≤maxLen→vs.length=cap * sz→(∀ u ∈ vs.take (n * sz),u.oneCell'=true)→i<j→j≤n →
   Calls P f #[.slice (some ⟨g,0,none⟩) n cap,.int .i64 i,.int .i64 j] W fun r W'=>r = .returned (.slice (some ⟨g,0,none⟩) (n - (j - i)) cap)∧W'=((W.drewN 1).setCells g (i * sz) ((vs.take (n * sz)).drop (j * sz))).setCells g ((i+(n - j)) * sz) (Builtin.zeroCells zc (j - i)).toList) :
  Meets P (spD (fun x:List α × Int × Int=>0≤x.2.1∧x.2.1≤x.2.2∧x.2.2≤x.1.length) fun x=>x.1.take x.2.1.toNat++x.1.drop x.2.2.toNat) f ⟨[.mine e sz,.one,.one],[(false,[.fresh e sz])],false⟩:=by
 refine ⟨fun h=>(by cases h),?_⟩
 intro e' sz' ps hps
 injection hps with h1 h2
 injection h1 with h1 h1'
 subst h1;subst h1';subst h2
 intro W F base v xs cells ds args rs hF hbase hvF hxs hown hreps hargs hsp
 obtain ⟨⟨l,i,j⟩,⟨hi0,hij,hjl⟩,he,rfl⟩:=zd hsp
 have he':Dt.l sz xs::ds=Dt.l (Enc.n α) (l.map Enc.e)::[I i,I j]:=he
 injection he' with g1 g2
 injection g1 with g3 g1
 subst g2;subst g1
 simp only at hi0 hij hjl
 obtain ⟨va,vas,rfl,ha,hargs⟩:=z16 hargs
 obtain ⟨vb,vbs,rfl,hb,hargs⟩:=z16 hargs
 obtain rfl:=z1r hargs
 obtain ⟨rfl,_⟩:=z3e ha
 obtain ⟨rfl,_⟩:=z3e hb
 obtain ⟨a,rfl⟩:∃ a:Nat,i=a:=⟨i.toNat,by omega⟩
 obtain ⟨b,rfl⟩:∃ b:Nat,j=b:=⟨j.toNat,by omega⟩
 have hlen:(l.map Enc.e).length=l.length:=List.length_map _
 rw [hlen] at hown
 refine ⟨(l.take a++l.drop b).map Enc.e,?_,fun x hx=>hxs x ?_,?_⟩
 ·show [Dt.l (Enc.n α) _]=_
  rw [hn];rfl
 ·rw [List.map_append,List.map_take,List.map_drop] at hx
  rcases List.mem_append.1 hx with hx|hx
  ·exact List.mem_of_mem_take hx
  ·exact List.mem_of_mem_drop hx
 by_cases hab:a=b
 ·subst hab
  have hsame:l.take a++l.drop a=l:=List.take_append_drop ..
  simp only [Int.toNat_natCast,hsame]
  have hv:∃ A cap,v = .slice A l.length cap∧l.length≤cap∧cap≤maxLen:=by
   rcases hown.2 with ⟨rfl,h0⟩|⟨g,cap,cur,rfl,_,_,h1,h2,_⟩
   ·exact ⟨none,0,by rw [h0],by omega,by unfold maxLen;omega⟩
   ·exact ⟨_,cap,rfl,h1,h2⟩
  obtain ⟨A,cap,rfl,h1,h2⟩:=hv
  refine .inl ⟨hen.run _ _,(h0 W A l.length cap a (by omega) h1 h2).mono ?_⟩
  rintro r W' ⟨rfl,rfl⟩
  exact ⟨_,rfl,_,cells,⟨fun h=>(by cases h),fun _=>rfl⟩,World.grownBy.refl _ _,by rw [hlen];exact hown,hreps,fun _ h=>.inl h⟩
 ·rcases hown.2 with ⟨rfl,h0⟩|⟨g,cap,cur,rfl,hbg,hg,h1,h2,hcs,htk⟩
  ·omega
  ·have hkeep:=hown
   have hml:cells.length=l.length * sz:=hown.1
   have hcs':cur.toList.length=cap * sz:=by simpa using hcs
   have hones:∀ u ∈ cur.toList.take (l.length * sz),u.oneCell'=true:=by rw [htk];exact hreps.one
   refine .inl ⟨hen.run _ _,(hw W g l.length cap a b cur.toList (by simpa using hg) h1 h2 hcs' hones (by omega) (by omega)).mono ?_⟩
   rintro r W' ⟨rfl,rfl⟩
   have hgF:¬ F g:=hvF g rfl
   generalize hW1:(W.drewN 1).setCells g (a * sz) ((cur.toList.take (l.length * sz)).drop (b * sz))=W1
   have hg0:(W.drewN 1).heap[g]? = some (.cells cur.toList.toArray e (0,0)):=by simpa using hg
   have hnl:((cur.toList.take (l.length * sz)).drop (b * sz)).length=(l.length - b) * sz:=by
    rw [htk,List.length_drop,hml,Nat.sub_mul]
   have hzl:(Builtin.zeroCells zc (b - a)).toList.length=(b - a) * sz:=by simp [Builtin.zeroCells,hzc]
   have hg1:=z28 ((cur.toList.take (l.length * sz)).drop (b * sz)) (a * sz) (W.drewN 1) cur.toList hg0
   rw [hW1] at hg1
   have hg2:=z28 (Builtin.zeroCells zc (b - a)).toList ((a+(l.length - b)) * sz) W1 _ hg1
   have hmul1:a * sz+(l.length - b) * sz=(a+(l.length - b)) * sz:=(Nat.add_mul ..).symm
   have hle1:(a+(l.length - b)) * sz≤cap * sz:=Nat.mul_le_mul_right _ (by omega)
   have hle2:(a+(l.length - b)) * sz+(b - a) * sz≤cap * sz:=by rw [← Nat.add_mul];exact Nat.mul_le_mul_right _ (by omega)
   have hle3:a * sz≤l.length * sz:=Nat.mul_le_mul_right _ (by omega)
   have hle4:l.length * sz≤cap * sz:=Nat.mul_le_mul_right _ h1
   have hfar:∀ k,k≠g→(W1.setCells g ((a+(l.length - b)) * sz) (Builtin.zeroCells zc (b - a)).toList).heap[k]? = W.heap[k]?:=by
    intro k hk
    rw [z2m g _ _ _ k hk,← hW1,z2m g _ _ _ k hk]
    rfl
   refine ⟨_,rfl,_,cells.take (a * sz)++cells.drop (b * sz),⟨fun h=>(by cases h),fun _=>rfl⟩,?_,?_,?_,fun _ h=>.inl h⟩
   ·obtain ⟨k1,k2,k3,k4⟩:=z45 g (Builtin.zeroCells zc (b - a)).toList ((a+(l.length - b)) * sz) W1
    obtain ⟨q1,q2,q3,q4⟩:=z45 g ((cur.toList.take (l.length * sz)).drop (b * sz)) (a * sz) (W.drewN 1)
    rw [hW1] at q1 q2 q3 q4
    refine ⟨k1.trans q1,k2.trans q2,k3.trans q3,?_,fun k hk hne=>hfar k fun h=>hne (by rw [h];rfl)⟩
    rw [k4,q4]
    exact Nat.le_refl _
   ·have hl2:((l.take a++l.drop b).map (Enc.e (α:=α))).length=a+(l.length - b):=by
     rw [List.length_map,List.length_append,List.length_take,List.length_drop];omega
    rw [hl2]
    refine ⟨?_,.inr ⟨g,cap,_,by rw [show l.length - (b - a)=a+(l.length - b) by omega],hbg,hg2,by omega,h2,?_,?_⟩⟩
    ·rw [List.length_append,List.length_take,List.length_drop,hml,Nat.min_eq_left hle3,← Nat.sub_mul,hmul1]
    ·rw [List.size_toArray,z21,z21];exact hcs'
    ·rw [List.toList_toArray,z8y (by rw [z21,hzl];omega),List.append_assoc,List.take_append_of_le_length (by rw [List.length_take,z21];omega),List.take_take,Nat.min_self,z8y (by rw [hnl];omega),List.take_append_of_le_length (by rw [List.length_append,List.length_take,hnl];omega),List.take_of_length_le (by rw [List.length_append,List.length_take,hnl];omega),htk]
     congr 1
     rw [← htk,List.take_take,Nat.min_eq_left hle3]
   ·rw [List.map_append,List.map_take,List.map_drop,List.flatten_append,zgo a hxs,zmw b hxs]
    have hag:Agree F W (W1.setCells g ((a+(l.length - b)) * sz) (Builtin.zeroCells zc (b - a)).toList):=fun k hk=>hfar k fun h=>hgF (h ▸ hk)
    exact ((hreps.take (a * sz)).append (hreps.drop (b * sz))).mono hag (fun _ h=>h)
theorem z004 {tS tR e sz:Nat} {W:World} (ht:P.underlying tS=some (.slice e)) (hz:∀ w,(sizeOf e).run P w = .ok sz w) {g o b off la ca lb cb t:Nat} {vs:List Value} (hg:W.heap[g]? = some (.cells vs.toArray t (0,0))) (hvs:0<vs.length) (hne:b≠g) {u:Value} (hb:W.cell? ⟨b,off,none⟩=some u) :
  (Extern.SlicesOverlaps.overlaps #[tS,tS] #[tR] #[.slice (some ⟨b,off,none⟩) la ca,.slice (some ⟨g,o,none⟩) lb cb]).run P W = .ok (.bool false) W:=by
 have hnb:(b != g)=true:=by simpa using hne
 have hnb':(b == g)=false:=by simpa using hne
 obtain ⟨arr,tb,fr,hbh,hsz⟩:∃ arr tb fr,W.heap[b]? = some (.cells arr tb fr)∧0<arr.size:=by
  unfold World.cell? at hb
  split at hb
  ·rename_i arr tb fr h
   simp at hb
   obtain ⟨hlt,_⟩:=Array.getElem?_eq_some_iff.1 hb
   exact ⟨arr,tb,fr,h,by omega⟩
  ·cases hb
 have hsa:W.shape? b=some (tb,arr.size):=by simp [World.shape?,hbh]
 have hsb:W.shape? g=some (t,vs.length):=by simp [World.shape?,hg]
 have hfg:∀ k,W.frozen? ⟨g,k,none⟩=false:=fun k=>by simp [World.frozen?,hg]
 obtain ⟨n1,hn1⟩:∃ n,arr.size=n+1:=⟨arr.size - 1,by omega⟩
 obtain ⟨n2,hn2⟩:∃ n,vs.length=n+1:=⟨vs.length - 1,by omega⟩
 rw [hn1] at hsa
 rw [hn2] at hsb
 change Sem.run P (α:=Value) (do
  let some t:=(#[tS,tS]:Array TypeId)[0]? | stuck "slices.overlaps: no parameter types"
  let .slice elem ← underlying t|stuck "slices.overlaps: slice type expected"
  let size ← sizeOf elem
  match (some ⟨b,off,none⟩:Option Addr),(some ⟨g,o,none⟩:Option Addr) with
  | some a,some b =>
   if la=0∨lb=0∨size=0 then pure (Value.bool false)
   else if a.block != b.block && (← frozen a) && (← frozen b) then unsupported .addressObserved
   else do
    if a.block != b.block then do
     noView a;noView b
     if ← mayBeOne a b then return Value.bool ((← choose (.extern "sameAddr.stringBytes" 2)) == 1)
    pure (Value.bool (a.block == b.block && a.off<b.off+lb * size && b.off<a.off+la * size))
  | _,_=>pure (Value.bool false)) W=_
 by_cases h0:la=0∨lb=0∨sz=0
 ·simp [run_underlying ht,hz,h0]
 ·cases hf1:W.frozen? ⟨b,off,none⟩ <;> cases hf2:W.frozen? ⟨b,n1+1,none⟩ <;>
   simp [run_underlying ht,hz,h0,hnb,hnb',frozen,noView,viewAt,mayBeOne,stringish,shape,Sem.run,hsa,hsb,hfg,hf1,hf2]
theorem zk3 {W:World} {b k:Nat} {v:Value} (o:Obj) (h:W.cell? ⟨b,k,none⟩=some v):(W.alloc o).cell? ⟨b,k,none⟩=some v:=by
 have hlt:b<W.heap.size:=by
  rcases Nat.lt_or_ge b W.heap.size with h'|h'
  ·exact h'
  ·simp [World.cell?,Array.getElem?_eq_none h'] at h
 rw [← h]
 simp only [World.cell?,World.alloc,Array.getElem?_push,Nat.ne_of_lt hlt,if_false]
theorem z0bw {W:World} {g o b k:Nat} {us:List Value} (h:b≠g):(W.setCells g o us).cell? ⟨b,k,none⟩=W.cell? ⟨b,k,none⟩:=by
 simp only [World.cell?,z2m g us o W b h]
theorem z0bx {W:World} {o:Oper} {a:Act} {K:Act→World→Prop} {Q:Exit→Act→World→Prop} (d s:Operand) (t t':TypeId)
  (ho:o.op = .call { callee:=.builtin .copy,args:=#[d,s],argTypes:=#[t,t'] }) (v u:Value) (hd:a.eval d=v) (hs:a.eval s=u) {v':Value} {w':World}
  (hr:(Builtin.copy_ #[t,t'] o.type #[v,u]).run P W = .ok v' w') (h:K (a.put o.dst v') w'):o.wp P a W K Q:=by
 unfold Oper.wp execOp
 simp only [ho,resolve,invoke,builtin,Sem.run_bind,Sem.run_pure,Result.andThen_ok,List.map_toArray,List.map_cons,List.map_nil,hd,hs,hr]
 exact h
theorem ztm {W:World} {ops:Array Oper} {rest:List Oper} {o:Oper} {a:Act} {Q:Exit→Act→World→Prop} (hgd:o.guard=none) (d s:Operand) (t t':TypeId)
  (ho:o.op = .call { callee:=.builtin .copy,args:=#[d,s],argTypes:=#[t,t'] }) (v u:Value) (hd:a.eval d=v) (hs:a.eval s=u) {v':Value} {w':World}
  (hr:(Builtin.copy_ #[t,t'] o.type #[v,u]).run P W = .ok v' w') (h:wpList P ops Q rest (a.put o.dst v') w'):wpList P ops Q (o::rest) a W :=
 wpList_plain hgd fun _ hK=>z0bx d s t t' ho v u hd hs hr (hK _ _ h)
theorem zk4 {ops:Array Oper} {o:Oper} {a:Act} {W:World} {K:Act→World→Prop} {Q:Exit→Act→World→Prop} {E:Prop}
  (hg:o.guard=none) (d x:Operand) (dT sT:TypeId) (hop:o.op=Op.call { callee:=Callee.builtin Builtin.copy,args:=#[d,x],argTypes:=#[dT,sT] })
  (v u:Value) (hd:a.eval d=v) (hx:a.eval x=u) {v':Value} {w':World} (hr:(Builtin.copy_ #[dT,sT] o.type #[v,u]).run P W = .ok v' w') (hK:K (a.put o.dst v') w') :
  if Region.wanted o (yielded ops a.tmps)=true then Oper.wp P o a W K Q else E:=by
 have hw:Region.wanted o (yielded ops a.tmps)=true:=by simp [Region.wanted,hg]
 rw [if_pos hw]
 unfold Oper.wp
 simp [execOp,hop,resolve,invoke,builtin,hd,hx,hr,Result.andThen]
 exact hK
theorem z0by {α:Type} [Enc α] {f e sz:Nat} (hn:Enc.n α=sz) (hpos:0<sz) (hen:En P f)
  (hroom:∀ (W:World) (g n cap i b off c:Nat) (vs cs:List Value),W.heap[g]? = some (.cells vs.toArray e (0,0))→n<cap→cap≤maxLen→vs.length=cap * sz→(∀ u ∈ vs.take (n * sz),u.oneCell'=true)→i<n→b≠g→cs.length=sz→(∀ j v,cs[j]? = some v→W.cell? ⟨b,off+j,none⟩=some v)→(∀ v ∈ cs,v.oneCell'=true) →
   Calls P f #[.slice (some ⟨g,0,none⟩) n cap,.int .i64 i,.slice (some ⟨b,off,none⟩) 1 c] W fun r W'=>r = .returned (.slice (some ⟨g,0,none⟩) (n+1) cap)∧W'=((W.drewN 1).setCells g ((i+1) * sz) ((vs.take (n * sz)).drop (i * sz))).setCells g (i * sz) cs)
  (hend:∀ (W:World) (base:Nat) (v:Value) (n b off c:Nat) (olds cs:List Value),W.ownsRow base e sz v n olds→base≤W.heap.size→n≤1000000→cs.length=sz→(∀ j v,cs[j]? = some v→W.cell? ⟨b,off+j,none⟩=some v)→(∀ v ∈ cs,v.oneCell'=true) →
   Calls P f #[v,.int .i64 n,.slice (some ⟨b,off,none⟩) 1 c] W fun r W'=>∃ v',r = .returned v'∧W'.ownsRow base e sz v' (n+1) (olds++cs)∧W.grownBy W' v.ownBlock∧(v'.ownBlock=v.ownBlock∨v'.ownBlock=some W.heap.size))
  (hgrow:∀ (W:World) (g n cap i b off c:Nat) (vs cs:List Value),W.heap[g]? = some (.cells vs.toArray e (0,0))→n=cap→n≤1000000→vs.length=cap * sz→(∀ u ∈ vs.take (n * sz),u.oneCell'=true)→i<n→cs.length=sz→(∀ j v,cs[j]? = some v→W.cell? ⟨b,off+j,none⟩=some v)→(∀ v ∈ cs,v.oneCell'=true) →
   Calls P f #[.slice (some ⟨g,0,none⟩) n cap,.int .i64 i,.slice (some ⟨b,off,none⟩) 1 c] W fun r W'=>∃ G,∃ row:List Value,n+1≤G∧G≤maxLen∧row.length=G * sz∧r = .returned (.slice (some ⟨W.heap.size,0,none⟩) (n+1) G)∧(∀ u ∈ row.take (i * sz),u.oneCell'=true)∧row.take (i * sz)=vs.take (i * sz) ∧
    W'=(((W.alloc (.cells row.toArray e)).drew.setCells W.heap.size (i * sz) cs).drew).setCells W.heap.size ((i+1) * sz) ((vs.take (n * sz)).drop (i * sz))) :
  Meets P (spD (fun x:List α × Int × List α=>0≤x.2.1∧x.2.1≤x.1.length∧x.1.length≤1000000∧x.2.2.length=1) fun x=>x.1.take x.2.1.toNat++x.2.2++x.1.drop x.2.1.toNat) f ⟨[.mine e sz,.one,.one],[(false,[.fresh e sz])],false⟩:=by
 refine ⟨fun h=>(by cases h),?_⟩
 intro e' sz' ps hps
 injection hps with h1 h2
 injection h1 with h1 h1'
 subst h1;subst h1';subst h2
 intro W F base v xs cells ds args rs hF hbase hvF hxs hown hreps hargs hsp
 obtain ⟨⟨l,i,ys⟩,⟨hi0,hil,hlm,hy1⟩,he,rfl⟩:=zd hsp
 have he':Dt.l sz xs::ds=Dt.l (Enc.n α) (l.map Enc.e)::[I i,.l (Enc.n α) (ys.map Enc.e)]:=he
 injection he' with g1 g2
 injection g1 with g3 g1
 subst g2;subst g1
 simp only at hi0 hil hlm hy1
 obtain ⟨y,rfl⟩:=List.length_eq_one_iff.1 hy1
 obtain ⟨va,vas,rfl,ha,hargs⟩:=z16 hargs
 obtain ⟨vb,vbs,rfl,hb,hargs⟩:=z16 hargs
 obtain rfl:=z1r hargs
 obtain ⟨rfl,_⟩:=z3e ha
 obtain ⟨a,rfl⟩:∃ a:Nat,i=a:=⟨i.toNat,by omega⟩
 have hlen:(l.map Enc.e).length=l.length:=List.length_map _
 have hyl:(Enc.e y).length=sz:=by rw [Enc.len,hn]
 rw [hlen] at hown
 have hml:cells.length=l.length * sz:=hown.1
 obtain ⟨b,off,c,cs,rfl,hFb,hcl,hcell,hcr⟩:∃ b off c,∃ cs:List Value,vb = .slice (some ⟨b,off,none⟩) 1 c∧F b∧cs.length=sz∧(∀ j v,cs[j]? = some v→W.cell? ⟨b,off+j,none⟩=some v)∧Reps W F (Enc.e y) cs:=by
  generalize hd:Dt.l (Enc.n α) ([y].map Enc.e)=d at hb
  cases hb with
  | l sz0 zs A n c b o vs k0 k1 k2 k3 k4 k5 k6 =>
   injection hd with e1 e2
   subst e2
   obtain ⟨rfl,hFb⟩:=k4 (by simp)
   refine ⟨b,o,c,(List.range sz).map (vs 0),by rw [k0];rfl,hFb,by simp,fun j v hv=>?_,Reps.of (by simp [hyl]) fun j d v hd hv=>?_⟩
   ·obtain ⟨hj,rfl⟩:=z2z hv
    have h:=k5 0 j (Enc.e y) _ rfl (List.getElem?_eq_getElem (by omega))
    rwa [Nat.zero_mul,Nat.add_zero] at h
   ·obtain ⟨hj,rfl⟩:=z2z hv
    exact k6 0 j (Enc.e y) d rfl hd
  | _=>cases hd
 have hc1:∀ v ∈ cs,v.oneCell'=true:=hcr.one
 refine ⟨(l.take a++[y]++l.drop a).map Enc.e,?_,fun x hx=>?_,?_⟩
 ·show [Dt.l (Enc.n α) _]=_
  rw [hn];rfl
 ·obtain ⟨z,_,rfl⟩:=List.mem_map.1 hx
  rw [Enc.len,hn]
 have hl2:((l.take a++[y]++l.drop a).map (Enc.e (α:=α))).length=l.length+1:=by
  rw [List.length_map,List.length_append,List.length_append,List.length_take,List.length_drop,List.length_singleton];omega
 have hflat:((l.take a++[y]++l.drop a).map (Enc.e (α:=α))).flatten=(l.map Enc.e).flatten.take (a * sz)++Enc.e y++(l.map Enc.e).flatten.drop (a * sz):=by
  rw [List.map_append,List.map_append,List.map_take,List.map_drop,List.flatten_append,List.flatten_append,zgo a hxs,zmw a hxs]
  simp
 rw [hl2,hflat]
 have hle3:a * sz≤l.length * sz:=Nat.mul_le_mul_right _ (by omega)
 have hnew:∀ {W':World},Agree F W W'→Reps W' F ((l.map Enc.e).flatten.take (a * sz)++Enc.e y++(l.map Enc.e).flatten.drop (a * sz)) (cells.take (a * sz)++cs++cells.drop (a * sz)):=fun hag=>(((hreps.take (a * sz)).append hcr).append (hreps.drop (a * sz))).mono hag (fun _ h=>h)
 have hnl:(cells.take (a * sz)++cs++cells.drop (a * sz)).length=(l.length+1) * sz:=by
  rw [List.length_append,List.length_append,List.length_take,List.length_drop,hcl,hml,Nat.min_eq_left hle3,Nat.succ_mul];omega
 by_cases hend':a=l.length
 ·subst hend'
  refine .inl ⟨hen.run _ _,(hend W base v l.length b off c cells cs hown hbase (by omega) hcl hcell hc1).mono ?_⟩
  rintro r W' ⟨v',rfl,q1,q2,q3⟩
  have hag:Agree F W W':=fun k hk=>q2.block k (hF.1 k hk) fun h=>hvF k h.symm hk
  refine ⟨_,rfl,v',_,⟨fun h=>(by cases h),fun _=>rfl⟩,q2,?_,hnew hag,fun k hk=>?_⟩
  ·rw [List.take_of_length_le (by omega),List.drop_of_length_le (by omega),List.append_nil];exact q1
  ·rcases q3 with q3|q3
   ·exact .inl (q3 ▸ hk)
   ·rw [q3] at hk;injection hk with hk;exact .inr (Nat.le_of_eq hk)
 ·rcases hown.2 with ⟨rfl,h0⟩|⟨g,cap,cur,rfl,hbg,hg,h1,h2,hcs,htk⟩
  ·omega
  ·have hcs':cur.toList.length=cap * sz:=by simpa using hcs
   have hones:∀ u ∈ cur.toList.take (l.length * sz),u.oneCell'=true:=by rw [htk];exact hreps.one
   have hgF:¬ F g:=hvF g rfl
   have hbg':b≠g:=fun h=>hgF (h ▸ hFb)
   have hg':W.heap[g]? = some (.cells cur.toList.toArray e (0,0)):=by simpa using hg
   have hal:a<l.length:=by omega
   have hmvl:((cur.toList.take (l.length * sz)).drop (a * sz)).length=(l.length - a) * sz:=by rw [htk,List.length_drop,hml,Nat.sub_mul]
   have e1:(a+1) * sz=a * sz+sz:=Nat.succ_mul ..
   have e2:(a+1) * sz+(l.length - a) * sz=(l.length+1) * sz:=by rw [← Nat.add_mul];congr 1;omega
   have hsplit:∀ vs':List Value,(l.length+1) * sz≤vs'.length→vs'.take (a * sz)=cells.take (a * sz)→(z1w (z1w vs' ((a+1) * sz) ((cur.toList.take (l.length * sz)).drop (a * sz))) (a * sz) cs).take ((l.length+1) * sz)=cells.take (a * sz)++cs++cells.drop (a * sz):=by
    intro vs' hl' ht'
    have k1:a * sz+cs.length≤(z1w vs' ((a+1) * sz) ((cur.toList.take (l.length * sz)).drop (a * sz))).length:=by rw [z21];omega
    rw [z8y k1,z8y (by rw [hmvl];omega),hcl,hmvl,e2,htk]
    have k2:(vs'.take ((a+1) * sz)++cells.drop (a * sz)++vs'.drop ((l.length+1) * sz)).take (a * sz)=cells.take (a * sz):=by
     rw [List.append_assoc,List.take_append_of_le_length (by rw [List.length_take];omega),List.take_take,Nat.min_eq_left (by omega),ht']
    have k3:(vs'.take ((a+1) * sz)++cells.drop (a * sz)++vs'.drop ((l.length+1) * sz)).drop (a * sz+sz)=cells.drop (a * sz)++vs'.drop ((l.length+1) * sz):=by
     rw [List.append_assoc,List.drop_append,List.drop_of_length_le (by rw [List.length_take];omega),List.length_take,Nat.min_eq_left (by omega),e1,Nat.sub_self,List.nil_append,List.drop_zero]
    rw [k2,k3,← List.append_assoc,List.take_append_of_le_length (by rw [hnl];omega),List.take_of_length_le (by rw [hnl];omega)]
   rcases Nat.lt_or_ge l.length cap with hr|hr
   ·have hcapm:(l.length+1) * sz≤cap * sz:=Nat.mul_le_mul_right _ hr
    refine .inl ⟨hen.run _ _,(hroom W g l.length cap a b off c cur.toList cs hg' hr h2 hcs' hones hal hbg' hcl hcell hc1).mono ?_⟩
    rintro r W' ⟨rfl,rfl⟩
    have hfar:∀ k,k≠g→(((W.drewN 1).setCells g ((a+1) * sz) ((cur.toList.take (l.length * sz)).drop (a * sz))).setCells g (a * sz) cs).heap[k]? = W.heap[k]?:=by
     intro k hk
     rw [z2m g _ _ _ k hk,z2m g _ _ _ k hk]
     rfl
    have hag:Agree F W (((W.drewN 1).setCells g ((a+1) * sz) ((cur.toList.take (l.length * sz)).drop (a * sz))).setCells g (a * sz) cs):=fun k hk=>hfar k fun h=>hgF (h ▸ hk)
    refine ⟨_,rfl,_,_,⟨fun h=>(by cases h),fun _=>rfl⟩,?_,⟨hnl,.inr ⟨g,cap,_,rfl,hbg,z28 cs (a * sz) _ _ (z28 _ ((a+1) * sz) (W.drewN 1) _ hg'),hr,h2,by rw [List.size_toArray,z21,z21];exact hcs',?_⟩⟩,hnew hag,fun _ h=>.inl h⟩
    ·obtain ⟨k1,k2,k3,k4⟩:=z45 g cs (a * sz) ((W.drewN 1).setCells g ((a+1) * sz) ((cur.toList.take (l.length * sz)).drop (a * sz)))
     obtain ⟨q1,q2,q3,q4⟩:=z45 g ((cur.toList.take (l.length * sz)).drop (a * sz)) ((a+1) * sz) (W.drewN 1)
     exact ⟨k1.trans q1,k2.trans q2,k3.trans q3,by rw [k4,q4];exact Nat.le_refl _,fun k hk hne=>hfar k fun h=>hne (by rw [h];rfl)⟩
    ·rw [List.toList_toArray]
     refine hsplit _ (by omega) ?_
     rw [← htk,List.take_take,Nat.min_eq_left hle3]
   ·have hcap:l.length=cap:=by omega
    refine .inl ⟨hen.run _ _,(hgrow W g l.length cap a b off c cur.toList cs hg' hcap (by omega) hcs' hones hal hcl hcell hc1).mono ?_⟩
    rintro r W' ⟨G,row,r1,r2,r3,rfl,r4,r5,rfl⟩
    have hGm:(l.length+1) * sz≤G * sz:=Nat.mul_le_mul_right _ r1
    generalize hW0:(W.alloc (.cells row.toArray e)).drew=W0
    have hs0:W0.heap.size=W.heap.size+1:=by rw [← hW0];show (W.heap.push _).size=_;simp
    have hn0:W0.heap[W.heap.size]? = some (.cells row.toArray e (0,0)):=by rw [← hW0];exact heap_alloc_new W _
    have ho0:∀ k,k<W.heap.size→W0.heap[k]? = W.heap[k]?:=fun k hk=>by
     rw [← hW0]
     show (W.alloc (.cells row.toArray e)).heap[k]? = _
     simp only [World.alloc,Array.getElem?_push,Nat.ne_of_lt hk,if_false]
    have hfar:∀ k,k<W.heap.size→(((W0.setCells W.heap.size (a * sz) cs).drew).setCells W.heap.size ((a+1) * sz) ((cur.toList.take (l.length * sz)).drop (a * sz))).heap[k]? = W.heap[k]?:=by
     intro k hk
     rw [z2m _ _ _ _ k (by omega)]
     show (W0.setCells W.heap.size (a * sz) cs).heap[k]? = _
     rw [z2m _ _ _ _ k (by omega),ho0 k hk]
    obtain ⟨z1,z2,z3⟩:W0.os=W.os∧W0.tape=W.tape∧W0.output=W.output:=by rw [← hW0];exact ⟨rfl,rfl,rfl⟩
    have hag:Agree F W (((W0.setCells W.heap.size (a * sz) cs).drew).setCells W.heap.size ((a+1) * sz) ((cur.toList.take (l.length * sz)).drop (a * sz))):=fun k hk=>hfar k (hF.1 k hk)
    have hheap:=z28 ((cur.toList.take (l.length * sz)).drop (a * sz)) ((a+1) * sz) ((W0.setCells W.heap.size (a * sz) cs).drew) _ (z28 cs (a * sz) W0 _ hn0)
    refine ⟨_,rfl,_,_,⟨fun h=>(by cases h),fun _=>rfl⟩,?_,⟨hnl,.inr ⟨W.heap.size,G,_,rfl,hbase,hheap,r1,r2,by rw [List.size_toArray,z21,z21];exact r3,?_⟩⟩,hnew hag,fun k hk=>?_⟩
    ·obtain ⟨k1,k2,k3,k4⟩:=z45 W.heap.size ((cur.toList.take (l.length * sz)).drop (a * sz)) ((a+1) * sz) ((W0.setCells W.heap.size (a * sz) cs).drew)
     obtain ⟨q1,q2,q3,q4⟩:=z45 W.heap.size cs (a * sz) W0
     refine ⟨k1.trans (q1.trans z1),k2.trans (q2.trans z2),k3.trans (q3.trans z3),?_,fun k hk hne=>hfar k hk⟩
     rw [k4]
     show W.heap.size≤(W0.setCells W.heap.size (a * sz) cs).heap.size
     rw [q4,hs0];omega
    ·rw [List.toList_toArray]
     have hswap:z1w (z1w row (a * sz) cs) ((a+1) * sz) ((cur.toList.take (l.length * sz)).drop (a * sz))=z1w (z1w row ((a+1) * sz) ((cur.toList.take (l.length * sz)).drop (a * sz))) (a * sz) cs:=by
      have hL:a * sz+cs.length≤row.length:=by omega
      have hR:(a+1) * sz+((cur.toList.take (l.length * sz)).drop (a * sz)).length≤row.length:=by rw [hmvl];omega
      rw [z8y (vs:=z1w row (a * sz) cs) (by rw [z21];exact hR),z8y hL,z8y (vs:=z1w row ((a+1) * sz) _) (by rw [z21];exact hL),z8y hR]
      have t1:(row.take (a * sz)++cs++row.drop (a * sz+cs.length)).take ((a+1) * sz)=row.take (a * sz)++cs:=by
       rw [List.take_append_of_le_length (by rw [List.length_append,List.length_take];omega),List.take_of_length_le (by rw [List.length_append,List.length_take];omega)]
      have t2:(row.take (a * sz)++cs++row.drop (a * sz+cs.length)).drop ((a+1) * sz+((cur.toList.take (l.length * sz)).drop (a * sz)).length)=row.drop ((a+1) * sz+((cur.toList.take (l.length * sz)).drop (a * sz)).length):=by
       rw [List.drop_append,List.drop_of_length_le (by rw [List.length_append,List.length_take];omega),List.nil_append,List.drop_drop]
       congr 1
       rw [List.length_append,List.length_take];omega
      have t3:(row.take ((a+1) * sz)++((cur.toList.take (l.length * sz)).drop (a * sz))++row.drop ((a+1) * sz+((cur.toList.take (l.length * sz)).drop (a * sz)).length)).take (a * sz)=row.take (a * sz):=by
       rw [List.append_assoc,List.take_append_of_le_length (by rw [List.length_take];omega),List.take_take,Nat.min_eq_left (by omega)]
      have t4:(row.take ((a+1) * sz)++((cur.toList.take (l.length * sz)).drop (a * sz))++row.drop ((a+1) * sz+((cur.toList.take (l.length * sz)).drop (a * sz)).length)).drop (a * sz+cs.length)=((cur.toList.take (l.length * sz)).drop (a * sz))++row.drop ((a+1) * sz+((cur.toList.take (l.length * sz)).drop (a * sz)).length):=by
       rw [List.append_assoc,List.drop_append,List.drop_of_length_le (by rw [List.length_take];omega),List.nil_append,List.length_take,Nat.min_eq_left (by omega),hcl,e1,Nat.sub_self,List.drop_zero]
      rw [t1,t2,t3,t4,List.append_assoc,List.append_assoc]
     rw [hswap]
     refine hsplit _ (by omega) ?_
     rw [r5,← htk,List.take_take,Nat.min_eq_left hle3]
    ·simp only [Value.ownBlock,Option.some.injEq] at hk
     exact .inr (Nat.le_of_eq hk)
end
end
section
open Go.RowKit
set_option maxRecDepth 100000
set_option maxHeartbeats 4000000
theorem z0en {W:World} {g n cap i j:Nat} {vs:List Value} (hg:W.heap[g]? = some (.cells vs.toArray 102 (0,0))) (hn:n≤cap) (hm:cap≤maxLen) (hcs:vs.length=cap * 6) (h1:∀ u ∈ vs.take (n * 6),u.oneCell'=true) (hij:i<j) (hj:j≤n) :
  Calls Tryz.prog 252 #[.slice (some ⟨g,0,none⟩) n cap,.int .i64 i,.int .i64 j] W fun e w'=>e = .returned (.slice (some ⟨g,0,none⟩) (n - (j - i)) cap) ∧
   w'=((W.drewN 1).setCells g (i * 6) ((vs.take (n * 6)).drop (j * 6))).setCells g ((i+(n - j)) * 6) (Builtin.zeroCells #[.int .i64 0,.int .i64 0,.int .i64 0,.slice none 0 0,.int .i64 0,.bool false] (j - i)).toList:=by
 have hm':cap≤9223372036854775807:=hm
 obtain ⟨news,hnews⟩:∃ news,news=(vs.take (n * 6)).drop (j * 6):=⟨_,rfl⟩
 have hlen:news.length=(n - j) * 6:=by rw [hnews,List.length_drop,List.length_take];omega
 have hg1:W.drew.heap[g]? = some (.cells vs.toArray 102 (0,0)):=hg
 obtain ⟨A,hA,hsrc⟩:∃ A:Addr,(if cap=j then some (⟨g,0,none⟩:Addr) else some ⟨g,j * 6,none⟩)=some A∧Hid (∀ t u,news[t]? = some u→W.drew.cell? (A.add t)=some u):=by
  by_cases h:cap=j
  ·refine ⟨⟨g,0,none⟩,by simp [h],fun t u hu=>?_⟩
   have:=(List.getElem?_eq_some_iff.1 hu).1
   omega
  ·refine ⟨⟨g,j * 6,none⟩,by simp [h],fun t u hu=>?_⟩
   have ht:=(List.getElem?_eq_some_iff.1 hu).1
   rw [hnews,List.getElem?_drop,List.getElem?_take,if_pos (by omega)] at hu
   rw [z4x,cell_of_row _ g _ _ 102 (0,0) hg1]
   simpa using hu
 have s1:Hid (news.length=(n - j) * 6):=hlen
 have s2:Hid (∀ u ∈ news,u.oneCell'=true):=by
  intro u hu
  rw [hnews] at hu
  exact h1 u (List.mem_of_mem_drop hu)
 have s3:Hid (∀ t,t<news.length→(W.drew.cell? ⟨g,0+i * 6+t,none⟩).isSome=true∧W.drew.frozen? ⟨g,0+i * 6+t,none⟩=false):=by
  intro t ht
  have:=zhb (fr:=(0,0)) hg1 (o:=0+i * 6) (n:=news.length) (by omega)
  exact this t ht
 obtain ⟨W1,hW1⟩:∃ W1,W1=W.drew.setCells g (0+i * 6) news:=⟨_,rfl⟩
 have hg2:W1.heap[g]? = some (.cells (z1w vs (0+i * 6) news).toArray 102 (0,0)):=by rw [hW1];exact z28 _ _ _ _ hg1
 have hcl:∀ ty,(Builtin.clear_ #[64] ty #[.slice (some ⟨g,(i+(n - j)) * 6,none⟩) (n - (i+(n - j))) (cap - (i+(n - j)))]).run Tryz.prog W1 = .ok (.tuple #[]) (W1.setCells g ((i+(n - j)) * 6) (Builtin.zeroCells #[.int .i64 0,.int .i64 0,.int .i64 0,.slice none 0 0,.int .i64 0,.bool false] (n - (i+(n - j)))).toList) :=
  fun ty=>z0bu (sz:=6) Tryz.underlying64 Tryz.zeroValue102 rfl (by simp [Value.cells,Value.oneCell']) hg2 (by rw [z21];omega)
 have hW:Hid (W1=W.drew.setCells g (0+i * 6) news):=hW1
 have hic:i≤cap:=by omega
 have hjc:j≤cap:=by omega
 have hnews:=Lib.hid hnews
 clear hW1 hg2 hg hg1 hlen
 go_enter Tryz.func252,Tryz.ntmps252
 go_wp2_with fail
 obtain ⟨ht,ie,zv,he,hz0,hsz,hbz,hzs⟩:=zod
 go_region_law (refine step_append_room rfl (.tmp 22) (.tmp 25) 64 rfl 102 ie 6 ht he hsz g 0 i cap (by simp [Act.eval,Act.put]) A (n - j) (cap - j) news (by simp [Act.eval,Act.put,hA]) s1.out hsrc.out s2.out (by omega) s3.out ?_;rw [← hW.out])
 go_wp2
 go_ret
 refine ⟨by rw [show n - (j - i)=i+(n - j) by omega];rfl,?_⟩
 rw [hW.out,Nat.zero_add,hnews.out,show n - (i+(n - j))=j - i by omega]
 rfl
theorem z0eo {W:World} {A:Option Addr} {n cap i:Nat} (hi:i≤n) (hn:n≤cap) (hm:cap≤maxLen):Calls Tryz.prog 252 #[.slice A n cap,.int .i64 i,.int .i64 i] W fun r W'=>r = .returned (.slice A n cap)∧W'=W:=by
 have hm':cap≤9223372036854775807:=hm
 have hic:i≤cap:=by omega
 go_enter Tryz.func252,Tryz.ntmps252
 go_wp2_with fail
 all_goals (go_ret;exact ⟨rfl,rfl⟩)
noncomputable def zc3:z6:=spD (fun x:List Coin × Int × Int=>0≤x.2.1∧x.2.1≤x.2.2∧x.2.2≤x.1.length) fun x=>x.1.take x.2.1.toNat++x.1.drop x.2.2.toNat
theorem z0bz:Meets Tryz.prog zc3 252 ⟨[.mine 102 6,.one,.one],[(false,[.fresh 102 6])],false⟩ :=
 z0bv rfl (by decide) (z1u (fn:=Tryz.f252) (by kernel_rfl) (by kernel_rfl) (by kernel_rfl)) #[.int .i64 0,.int .i64 0,.int .i64 0,.slice none 0 0,.int .i64 0,.bool false] rfl (fun W A n cap i h1 h2 h3=>z0eo h1 h2 h3) (fun W g n cap i j vs h1 h2 h3 h4 h5 h6 h7=>z0en h1 h2 h3 h4 h5 h6 h7)
end
section
open Go.RowKit
set_option maxRecDepth 100000
set_option maxHeartbeats 4000000
theorem z0ep {W:World} {g o b off la ca lb cb:Nat} {vs:List Value} (hg:W.heap[g]? = some (.cells vs.toArray 102 (0,0))) (hvs:0<vs.length) (hne:b≠g) {u:Value} (hb:W.cell? ⟨b,off,none⟩=some u) :
  (callFunc 255 #[.slice (some ⟨b,off,none⟩) la ca,.slice (some ⟨g,o,none⟩) lb cb]).run Tryz.prog W = .ok (.value (.bool false)) W:=by
 rw [run_callFunc_extern Tryz.func255 (by kernel_rfl) (by kernel_rfl) (by kernel_rfl) (e:=Extern.SlicesOverlaps.overlaps #[64,64] #[4]) (by kernel_rfl),
  z004 (e:=102) (sz:=6) Tryz.underlying64 Tryz.sizeOf102 hg hvs hne hb]
 rfl
theorem z0eq {W:World} {g n cap i b off c:Nat} {vs cs:List Value} (hg:W.heap[g]? = some (.cells vs.toArray 102 (0,0))) (hn:n<cap) (hm:cap≤maxLen) (hcs:vs.length=cap * 6) (h1:∀ u ∈ vs.take (n * 6),u.oneCell'=true) (hi:i<n) (hne:b≠g) (hcl:cs.length=6) (hb:∀ j v,cs[j]? = some v→W.cell? ⟨b,off+j,none⟩=some v) (h1c:∀ v ∈ cs,v.oneCell'=true) :
  Calls Tryz.prog 205 #[.slice (some ⟨g,0,none⟩) n cap,.int .i64 i,.slice (some ⟨b,off,none⟩) 1 c] W fun r W'=>r = .returned (.slice (some ⟨g,0,none⟩) (n+1) cap)∧W'=((W.drewN 1).setCells g ((i+1) * 6) ((vs.take (n * 6)).drop (i * 6))).setCells g (i * 6) cs:=by
 have hm':cap≤9223372036854775807:=hm
 obtain ⟨mv,hmv⟩:∃ mv,mv=(vs.take (n * 6)).drop (i * 6):=⟨_,rfl⟩
 have hlen:mv.length=(n - i) * 6:=by rw [hmv,List.length_drop,List.length_take];omega
 have hg1:W.drew.heap[g]? = some (.cells vs.toArray 102 (0,0)):=hg
 obtain ⟨u0,hu0⟩:∃ u,W.cell? ⟨b,off,none⟩=some u:=by
  have h:=hb 0 (cs[0]'(by omega)) (List.getElem?_eq_getElem (by omega))
  exact ⟨_,h⟩
 have hov:∀ lb cb,(callFunc 255 #[.slice (some ⟨b,off,none⟩) 1 c,.slice (some ⟨g,(i+1) * 6,none⟩) lb cb]).run Tryz.prog W = .ok (.value (.bool false)) W:=fun lb cb=>z0ep hg (by omega) hne hu0
 have hsz:(Tryz.prog.info? 102).map (·.size)=some 6:=by kernel_rfl
 have hcp1:∀ ty dc sc,(Builtin.copy_ #[64,64] ty #[.slice (some ⟨g,(i+1) * 6,none⟩) (n - i) dc,.slice (some ⟨g,i * 6,none⟩) (n+1 - i) sc]).run Tryz.prog W.drew = .ok (goInt (Nat.min (n+1 - i) (n - i):Nat)) (W.drew.setCells g ((i+1) * 6) mv):=fun ty dc sc =>
  zgn Tryz.underlying64 hsz hg1 (by rw [hlen];show _=min _ _ * 6;rw [Nat.min_def];split <;> omega) (fun j v hj=>by
   rw [z4x,cell_of_row _ g _ _ 102 (0,0) hg1]
   have hlt:=(List.getElem?_eq_some_iff.1 hj).1
   rw [hmv,List.getElem?_drop,List.getElem?_take,if_pos (by omega)] at hj
   simpa using hj) (by omega) (fun v hv=>h1 v (by rw [hmv] at hv;exact List.mem_of_mem_drop hv))
 obtain ⟨W1,hW1⟩:∃ W1,W1=W.drew.setCells g ((i+1) * 6) mv:=⟨_,rfl⟩
 have hg2:W1.heap[g]? = some (.cells (z1w vs ((i+1) * 6) mv).toArray 102 (0,0)):=by rw [hW1];exact z28 _ _ _ _ hg1
 have hcp2:∀ ty dc,(Builtin.copy_ #[64,64] ty #[.slice (some ⟨g,i * 6,none⟩) (n+1 - i) dc,.slice (some ⟨b,off,none⟩) 1 c]).run Tryz.prog W1 = .ok (goInt (Nat.min 1 (n+1 - i):Nat)) (W1.setCells g (i * 6) cs):=fun ty dc =>
  zgn Tryz.underlying64 hsz hg2 (by rw [hcl];show _=min _ _ * 6;rw [Nat.min_def];split <;> omega) (fun j v hj=>by
   rw [z4x,hW1,z0bw hne]
   exact hb j v hj) (by rw [z21];omega) h1c
 rw [← hW1] at hcp1
 have hw1:IntKind.i64.wrap ((i:Int)+1)=(i:Int)+1:=by rw [IntKind.wrap_i64];omega
 have hw2:IntKind.i64.wrap ((n:Int)+1)=(n:Int)+1:=by rw [IntKind.wrap_i64];omega
 have hz2:¬ ((i:Int)=(n:Int)):=by omega
 have hp1:(i:Int)≤(n:Int)+1:=by omega
 have hp0:(0:Int)≤(i:Int)+1:=by omega
 have hb1:¬ (cap=i+1):=by omega
 have hb4:¬ (cap=i):=by omega
 have hin:i≤n:=by omega
 have hic:i≤cap:=by omega
 have hW:=Lib.hid hW1
 have hmv':=Lib.hid hmv
 clear hmv hlen hg hg1 hg2 hW1 hcs h1 hb h1c hcl hu0
 go_enter Tryz.func205,Tryz.ntmps205
 go_wp2_with (simp only [hov])
 go_region_law (refine zk4 rfl _ _ 64 64 rfl _ _ (by simp [Act.eval,Act.put]) (by simp [Act.eval,Act.put]) (hcp1 _ _ _) ?_)
 go_wp2_with (at_builtin;refine ztm rfl _ _ 64 64 rfl _ _ rfl rfl (hcp2 _ _) ?_)
 go_ret
 refine ⟨rfl,?_⟩
 rw [hW.out,hmv'.out]
 rfl
theorem z0hk {W:World} {base:Nat} {v:Value} {n b off c:Nat} {olds cs:List Value} (hown:W.ownsRow base 102 6 v n olds) (hbase:base≤W.heap.size) (hn:n≤1000000) (hcl:cs.length=6) (hb:∀ j v,cs[j]? = some v→W.cell? ⟨b,off+j,none⟩=some v) (h1c:∀ v ∈ cs,v.oneCell'=true) :
  Calls Tryz.prog 205 #[v,.int .i64 n,.slice (some ⟨b,off,none⟩) 1 c] W fun r W'=>∃ v',r = .returned v'∧W'.ownsRow base 102 6 v' (n+1) (olds++cs)∧W.grownBy W' v.ownBlock∧(v'.ownBlock=v.ownBlock∨v'.ownBlock=some W.heap.size):=by
 obtain ⟨ht,ie,zv,he,hz0,hsz,hbz,hzs⟩:=zod
 have hrun:∀ ty,∃ v' W',(Builtin.append_ #[64,64] ty #[v,.slice (some ⟨b,off,none⟩) 1 c]).run Tryz.prog W = .ok v' W'∧W'.ownsRow base 102 6 v' (n+1) (olds++cs)∧W.grownBy W' v.ownBlock∧(v'.ownBlock=v.ownBlock∨v'.ownBlock=some W.heap.size):=fun ty=>by
  obtain ⟨v',W',hr,h2,h3,_,h5⟩:=run_append_own_at (P:=Tryz.prog) W base 64 ty 102 ie zv 6 64 ht he hz0 hsz hbz hzs (by decide) v n olds hown ⟨b,off,none⟩ 1 c cs (by omega) (fun j u hj=>by rw [z4x];exact hb j u hj) h1c (by unfold maxLen;omega) (by omega) hbase
  exact ⟨v',W',hr,h2,h3,h5⟩
 obtain ⟨v',W',hr,h2,h3,h4⟩:=hrun 64
 have hv:∃ A cap,v = .slice A n cap∧n≤cap∧cap≤maxLen:=by
  rcases hown.2 with ⟨rfl,h0⟩|⟨g,cap,cur,rfl,_,_,h1,h2,_⟩
  ·exact ⟨none,0,by rw [h0],by omega,by unfold maxLen;omega⟩
  ·exact ⟨_,cap,rfl,h1,h2⟩
 obtain ⟨A,cap,rfl,hc1,hc2⟩:=hv
 have hc3:cap≤9223372036854775807:=hc2
 have R:=Lib.hid (And.intro h2 (And.intro h3 h4))
 clear h2 h3 h4 hown hrun hb h1c hcl hbase
 go_enter Tryz.func205,Tryz.ntmps205
 go_wp2_with (at_builtin;refine Lib.wpList_append_run _ rfl _ _ _ _ rfl _ _ rfl rfl _ _ hr ?_)
 all_goals (go_ret;have R':=R.out;first|exact ⟨v',rfl,R'⟩|(subst_vars;exact ⟨v',rfl,R'⟩))
theorem z0er {W:World} {g n cap i b off c:Nat} {vs cs:List Value} (hg:W.heap[g]? = some (.cells vs.toArray 102 (0,0))) (hn:n=cap) (hm:n≤1000000) (hcs:vs.length=cap * 6) (h1:∀ u ∈ vs.take (n * 6),u.oneCell'=true) (hi:i<n) (hcl:cs.length=6) (hb:∀ j v,cs[j]? = some v→W.cell? ⟨b,off+j,none⟩=some v) (h1c:∀ v ∈ cs,v.oneCell'=true) :
  Calls Tryz.prog 205 #[.slice (some ⟨g,0,none⟩) n cap,.int .i64 i,.slice (some ⟨b,off,none⟩) 1 c] W fun r W'=>∃ G,∃ row:List Value,n+1≤G∧G≤maxLen∧row.length=G * 6∧r = .returned (.slice (some ⟨W.heap.size,0,none⟩) (n+1) G)∧(∀ u ∈ row.take (i * 6),u.oneCell'=true)∧row.take (i * 6)=vs.take (i * 6) ∧
   W'=(((W.alloc (.cells row.toArray 102)).drew.setCells W.heap.size (i * 6) cs).drew).setCells W.heap.size ((i+1) * 6) ((vs.take (n * 6)).drop (i * 6)):=by
 obtain ⟨ht,ie,zv,he,hz0,hszI,hbz,hzs⟩:=zod
 have hz1:¬ ((1:Int)=0):=by decide
 have hz2:¬ ((i:Int)=(n:Int)):=by omega
 have hz3:(cap:Int)<(n:Int)+1:=by omega
 have hsz:(Tryz.prog.info? 102).map (·.size)=some 6:=by kernel_rfl
 have hgl:g<W.heap.size:=by
  rcases Nat.lt_or_ge g W.heap.size with h|h
  ·exact h
  ·rw [Array.getElem?_eq_none h] at hg;cases hg
 have hbl:b<W.heap.size:=block_lt_of_cell (hb 0 _ (List.getElem?_eq_getElem (by omega)))
 have hkk:(n:Int)+1 - (i:Int)=((n+1 - i:Nat):Int):=by omega
 have hik:i+(n+1 - i)=n+1:=by omega
 have hg1:W.drew.heap[g]? = some (.cells vs.toArray 102 (0,0)):=hg
 have hold:(Builtin.firstCells ie.size i (.slice (some ⟨g,0,none⟩) i cap)).run Tryz.prog W.drew = .ok (vs.take (i * 6)).toArray W.drew:=by
  rw [hszI]
  exact run_firstCells_some W.drew 6 i ⟨g,0,none⟩ i cap (vs.take (i * 6)) (by rw [List.length_take];omega) (fun j v hj=>by
   rw [z4x,cell_of_row _ g _ _ 102 (0,0) hg1]
   rw [List.getElem?_take] at hj
   split at hj
   ·simpa using hj
   ·cases hj)
 have hrz:∀ ty,(Builtin.append_ #[64,3] ty #[.slice (some ⟨g,0,none⟩) i cap,.int .i64 ((n:Int)+1 - (i:Int))]).run Tryz.prog W =
   .ok (.slice (some ⟨W.heap.size,0,none⟩) (n+1) (grownCap W (n+1) cap 102)) (W.drew.alloc (.cells ((vs.take (i * 6)).toArray++Builtin.zeroCells zv.cells (n+1 - i)++Builtin.zeroCells zv.cells (grownCap W (n+1) cap 102 - (n+1))) 102)):=fun ty=>by
  have h:=Lib.run_append_grow_zeros W 64 3 ty 102 ie zv .i64 .i64 ht Tryz.underlying3 he hz0 (some ⟨g,0,none⟩) i cap (vs.take (i * 6)) hold (n+1 - i) (by omega) (by omega) (by omega) (by omega) (by rw [hbz];omega) (by rw [hbz,hik];exact growslice_fits (by omega) (by omega))
  rw [hik] at h
  rw [hkk]
  exact h
 obtain ⟨G,hG⟩:∃ G,G=grownCap W (n+1) cap 102:=⟨_,rfl⟩
 obtain ⟨row,hrow⟩:∃ row:List Value,row=vs.take (i * 6)++(Builtin.zeroCells zv.cells (n+1 - i)).toList++(Builtin.zeroCells zv.cells (G - (n+1))).toList:=⟨_,rfl⟩
 have hrowA:row.toArray=(vs.take (i * 6)).toArray++Builtin.zeroCells zv.cells (n+1 - i)++Builtin.zeroCells zv.cells (G - (n+1)):=by rw [hrow];simp
 rw [← hG,← hrowA] at hrz
 have hGn:n+1≤G:=by rw [hG];exact grownCap_ge W _ _ _
 have hGm:G≤maxLen:=by rw [hG];exact grownCap_le_maxLen W (n+1) cap 102 (by unfold maxLen;omega)
 have hG63:G≤9223372036854775807:=hGm
 have hrl:row.length=G * 6:=by
  rw [hrow]
  simp only [List.length_append,List.length_take,Array.length_toList,Builtin.zeroCells,Array.size_map,Array.size_range,hzs]
  omega
 have hrt:row.take (i * 6)=vs.take (i * 6):=by
  rw [hrow,List.append_assoc,List.take_append_of_le_length (by rw [List.length_take];omega),List.take_take,Nat.min_self]
 obtain ⟨mv,hmv⟩:∃ mv,mv=(vs.take (n * 6)).drop (i * 6):=⟨_,rfl⟩
 have hlen:mv.length=(n - i) * 6:=by rw [hmv,List.length_drop,List.length_take];omega
 have hcpA:∀ (W':World),W'.heap[W.heap.size]? = some (.cells row.toArray 102 (0,0))→(∀ k v,W.cell? ⟨b,k,none⟩=some v→W'.cell? ⟨b,k,none⟩=some v)→∀ ty dc,(Builtin.copy_ #[64,64] ty #[.slice (some ⟨W.heap.size,i * 6,none⟩) (n+1 - i) dc,.slice (some ⟨b,off,none⟩) 1 c]).run Tryz.prog W' = .ok (goInt (Nat.min 1 (n+1 - i):Nat)) (W'.setCells W.heap.size (i * 6) cs):=fun W' h1' h2' ty dc =>
  zgn ht hsz h1' (by rw [hcl];show _=min _ _ * 6;rw [Nat.min_def];split <;> omega) (fun j v hj=>by rw [z4x];exact h2' _ v (hb j v hj)) (by omega) h1c
 have hcpB:∀ (W':World) (vs':List Value),vs'.length=G * 6→W'.heap[W.heap.size]? = some (.cells vs'.toArray 102 (0,0))→W'.heap[g]? = some (.cells vs.toArray 102 (0,0))→∀ ty dc sc,(Builtin.copy_ #[64,64] ty #[.slice (some ⟨W.heap.size,(i+1) * 6,none⟩) (n - i) dc,.slice (some ⟨g,i * 6,none⟩) (n - i) sc]).run Tryz.prog W' = .ok (goInt (Nat.min (n - i) (n - i):Nat)) (W'.setCells W.heap.size ((i+1) * 6) mv):=fun W' vs' hl' h1' h2' ty dc sc =>
  zgn ht hsz h1' (by rw [hlen];show _=min _ _ * 6;rw [Nat.min_def];split <;> omega) (fun j v hj=>by
   rw [z4x,cell_of_row _ g _ _ 102 (0,0) h2']
   have hlt:=(List.getElem?_eq_some_iff.1 hj).1
   rw [hmv,List.getElem?_drop,List.getElem?_take,if_pos (by omega)] at hj
   simpa using hj) (by omega) (fun v hv=>h1 v (by rw [hmv] at hv;exact List.mem_of_mem_drop hv))
 have hA:=hcpA ((W.alloc (.cells row.toArray 102)).drew) (heap_alloc_new W _) (fun k v h=>zk3 _ h)
 have hA':=hcpA (W.drew.alloc (.cells row.toArray 102)) (heap_alloc_new W.drew _) (fun k v h=>zk3 (W:=W.drew) _ h)
 have hgold:(W.alloc (.cells row.toArray 102)).heap[g]? = some (.cells vs.toArray 102 (0,0)):=by
  have:(W.alloc (.cells row.toArray 102)).heap[g]? = W.heap[g]?:=by simp only [World.alloc,Array.getElem?_push,Nat.ne_of_lt hgl,if_false]
  rw [this];exact hg
 have hB:=hcpB (((W.alloc (.cells row.toArray 102)).drew.setCells W.heap.size (i * 6) cs).drew) (z1w row (i * 6) cs) (by rw [z21,hrl]) (z28 _ _ (W.alloc (.cells row.toArray 102)).drew _ (heap_alloc_new W _)) (by
  show ((W.alloc (.cells row.toArray 102)).drew.setCells W.heap.size (i * 6) cs).heap[g]? = _
  rw [z2m _ _ _ _ _ (by omega)];exact hgold)
 have hw1:IntKind.i64.wrap ((i:Int)+1)=(i:Int)+1:=by rw [IntKind.wrap_i64];omega
 have hw2:IntKind.i64.wrap ((n:Int)+1)=(n:Int)+1:=by rw [IntKind.wrap_i64];omega
 have hp1:(i:Int)≤(n:Int)+1:=by omega
 have hp0:(0:Int)≤(i:Int)+1:=by omega
 have hGi:¬ (G=i):=by omega
 have hGi1:¬ (G=i+1):=by omega
 have hci:¬ (cap=i):=by omega
 have hin:i≤n:=by omega
 have R:Hid (n+1≤G∧G≤maxLen∧row.length=G * 6∧(∀ u ∈ row.take (i * 6),u.oneCell'=true)∧row.take (i * 6)=vs.take (i * 6)∧mv=(vs.take (n * 6)).drop (i * 6)):=Lib.hid ⟨hGn,hGm,hrl,fun u hu=>h1 u (by rw [hrt] at hu;exact (List.take_sublist_take_left (by omega)).subset hu),hrt,hmv⟩
 have hic:i≤cap:=by omega
 have hn':=Lib.hid hn
 clear hn hmv hlen hg hg1 hgold hcs h1 hb h1c hcl hcpA hcpB hrt hrl hrow hrowA hG hGm hold hkk hik
 go_enter Tryz.func205,Tryz.ntmps205
 go_wp2_with ((at_builtin;refine Lib.wpList_append_run _ rfl _ _ _ _ rfl _ _ rfl rfl _ _ (hrz _) ?_))
 go_region_law (refine zk4 rfl _ _ 64 64 rfl _ _ (by simp [Act.eval,Act.put]) (by simp [Act.eval,Act.put]) (hB _ _ _) ?_)
 go_wp2
 go_ret
 obtain ⟨r1,r2,r3,r4,r5,r6⟩:=R.out
 exact ⟨G,row,r1,r2,r3,rfl,r4,r5,by rw [r6]⟩
noncomputable def zc4:z6:=spD (fun x:List Coin × Int × List Coin=>0≤x.2.1∧x.2.1≤x.1.length∧x.1.length≤1000000∧x.2.2.length=1) fun x=>x.1.take x.2.1.toNat++x.2.2++x.1.drop x.2.1.toNat
theorem z0c0:Meets Tryz.prog zc4 205 ⟨[.mine 102 6,.one,.one],[(false,[.fresh 102 6])],false⟩ :=
 z0by rfl (by decide) (z1u (fn:=Tryz.f205) (by kernel_rfl) (by kernel_rfl) (by kernel_rfl)) (fun W g n cap i b off c vs cs h1 h2 h3 h4 h5 h6 h7 h8 h9 h10=>z0eq h1 h2 h3 h4 h5 h6 h7 h8 h9 h10) (fun W base v n b off c olds cs h1 h2 h3 h4 h5 h6=>z0hk h1 h2 h3 h4 h5 h6) (fun W g n cap i b off c vs cs h1 h2 h3 h4 h5 h6 h7 h8 h9=>z0er h1 h2 h3 h4 h5 h6 h7 h8 h9)
end
section
open Go.RowKit
set_option maxRecDepth 100000
set_option maxHeartbeats 4000000
theorem ztn (l:List Coin) (i j:Int) (h:0≤i∧i≤j∧j≤l.length):zc3 [.l 6 (l.map zj),I i,I j]=some [.l 6 ((l.take i.toNat++l.drop j.toNat).map zj)]:=zb (p:=fun x:List Coin × Int × Int=>0≤x.2.1∧x.2.1≤x.2.2∧x.2.2≤x.1.length) (f:=fun x:List Coin × Int × Int=>x.1.take x.2.1.toNat++x.1.drop x.2.2.toNat) (l,i,j) h
theorem zh3 (l:List Coin) (i:Int) (c:Coin) (h:0≤i∧i≤l.length∧l.length≤1000000):zc4 [.l 6 (l.map zj),I i,.l 6 ([c].map zj)]=some [.l 6 ((l.take i.toNat++[c]++l.drop i.toNat).map zj)]:=zb (p:=fun x:List Coin × Int × List Coin=>0≤x.2.1∧x.2.1≤x.1.length∧x.1.length≤1000000∧x.2.2.length=1) (f:=fun x:List Coin × Int × List Coin=>x.1.take x.2.1.toNat++x.2.2++x.1.drop x.2.1.toNat) (l,i,[c]) ⟨h.1,h.2.1,h.2.2,rfl⟩
noncomputable def z5i:z6:=spD (fun _:List Coin × Tx × Int × Int=>True) fun x=>zr x.1 x.2.1 x.2.2.1 x.2.2.2
theorem zbl (l:List Coin) (t:Tx) (nm h:Int):z5i [.l 6 (l.map zj),I t.height,.l 3 (t.ins.map eIn),.l 2 (t.outs.map z1x),I nm,I h]=some [.l 6 ((zr l t nm h).1.map zj),.l 6 ((zr l t nm h).2.1.map zj),I (zr l t nm h).2.2]:=zb (f:=fun x:List Coin × Tx × Int × Int=>zr x.1 x.2.1 x.2.2.1 x.2.2.2) (l,t,nm,h) trivial
theorem z087 {a b:Dt} {n:Int} {pk:List PK} {l:Bool} {g:Bool}:z74 ⟨pk,[(false,[.pure]),(g,[.pure]),(false,[.scal])],l⟩ [a,b,I n]:=by
 intro i d hi hd
 match i,hi,hd with
 | 0,hi,_=>simp [zu] at hi
 | 1,hi,_=>simp [zu] at hi
 | 2,_,hd=>simp only [List.getElem?_cons_succ,List.getElem?_cons_zero,Option.some.injEq] at hd;subst hd;rfl
 | i+3,hi,_=>simp [zu] at hi
attribute [local irreducible] z0o spD z2h zx zl z4z z1i z5e zk
theorem zto (t:Tx):z9i [I t.height,.l 3 (t.ins.map eIn),.l 2 (t.outs.map z1x)]=some [I (zl t)]:=zb (f:=fun t:Tx=>zl t) t trivial
def z03s:T :=
 .lets [.bin .add (.v 28) (.c (.i .i64 1))] [] (.lets [.call 14 [.v 22,.v 28,.v 44] 0] [] (.lets [.bin .add (.v 23) (.c (.i .i64 1))] [] (.again 0 [.v 19,.v 20,.v 43,.v 45,.v
 46])))
def z03t:T :=
 .ite (.v 41) (.ret [.c (.nil 6),.c (.nil 6),.c (.i .i64 8)]) (.lets [.mk 6 [[.v 31,.v 32,.v 33,.v 34,.v 35,.v 36]]] [] (.lets [.app 6 (.v 21) (.v 42)] [] z03s))
def z03u:T :=
 .ite (.v 38) (.ret [.c (.nil 6),.c (.nil 6),.c (.i .i64 10)]) (.lets [.call 16 [.v 34,.v 27,.v 5] 0,.call 16 [.v 34,.v 27,.v 5] 1] [] (.lets [.not (.v 39)] [] z03t))
def z03v:T :=
 .lets [.bin .add (.v 28) (.c (.i .i64 1))] [] (.lets [.call 14 [.v 22,.v 28,.v 42] 0] [] (.lets [.bin .add (.v 23) (.c (.i .i64 1))] [] (.again 0 [.v 19,.v 20,.v 41,.v 43,.v
 44])))
def z03w:T :=
 .ite (.v 39) (.ret [.c (.nil 6),.c (.nil 6),.c (.i .i64 8)]) (.lets [.mk 6 [[.v 31,.v 32,.v 33,.v 34,.v 35,.v 36]]] [] (.lets [.app 6 (.v 21) (.v 40)] [] z03v))
def z03x:T :=
 .ite (.v 36) (.lets [.bin .add (.v 35) (.c (.i .i64 2))] [] (.lets [.bin .lss (.v 5) (.v 37)] [] z03u)) (.lets [.call 16 [.v 34,.v 27,.v 5] 0,.call 16 [.v 34,.v 27,.v 5]
 1] [] (.lets [.not (.v 37)] [] z03w))
def z03y:T :=
 .lets [.idx (.v 22) (.v 28) 0,.idx (.v 22) (.v 28) 1,.idx (.v 22) (.v 28) 2,.idx (.v 22) (.v 28) 3,.idx (.v 22) (.v 28) 4,.idx (.v 22) (.v 28) 5] [] z03x
def z03z:T :=
 .lets [.call 6 [.v 22,.v 25,.v 26] 0,.call 6 [.v 22,.v 25,.v 26] 1] [] (.lets [.not (.v 29)] [] (.ite (.v 30) (.ret [.c (.nil 6),.c (.nil 6),.c (.i .i64 7)]) (.lets [] [.inr
 6 (.v 22) (.v 28)] z03y)))
def z040:T :=
 .lets [.mk 6 [[.v 4,.v 29,.v 31,.v 35,.v 5,.v 15]]] [] (.lets [.call 15 [.v 28,.v 33,.v 36] 0] [] (.lets [.bin .add (.v 29) (.c (.i .i64 1))] [] (.again 1 [.v 26,.v 27,.v
 37,.v 38])))
def z041:T :=
 .lets [.call 6 [.v 28,.v 4,.v 29] 0,.call 6 [.v 28,.v 4,.v 29] 1] [] (.ite (.v 34) (.ret [.c (.nil 6),.c (.nil 6),.c (.i .i64 6)]) (.lets [.call 10 [.v 32] 0] []
 z040))
def z005:T :=
 .lets [.call 8 [.v 28] 0] [] (.lets [.bin .neq (.v 31) (.c (.i .i64 0))] [] (.ite (.v 32) (.ret [.c (.nil 6),.c (.nil 6),.v 31]) (.ret [.v 28,.v 21,.c (.i .i64 0)])))
def z006:T :=
 .lets [.bin .lss (.v 29) (.v 25)] [] (.ite (.v 30) (.lets [] [.inr 2 (.v 3) (.v 29)] (.lets [.idx (.v 3) (.v 29) 0,.idx (.v 3) (.v 29) 1] [] z041)) z005)
def z007:T :=
 .ite (.v 24) (.lets [] [.inr 3 (.v 2) (.v 23)] (.lets [.idx (.v 2) (.v 23) 0,.idx (.v 2) (.v 23) 1,.idx (.v 2) (.v 23) 2] [] z03z)) (.lets [.len (.v 3)] [] (.loop [.c (.nil
 6),.c (.i .i64 0),.v 22,.c (.i .i64 0)] z006))
def z008:T :=
 .lets [.call 11 [.v 0] 0] [] (.lets [.len (.v 2)] [] (.loop [.c (.nil 6),.c (.i .i64 0),.c (.nil 6),.v 17,.c (.i .i64 0)] (.lets [.bin .lss (.v 23) (.v 18)] [] z007)))
def z009:T :=
 .lets [.bin .add (.v 27) (.c (.i .i64 1))] [] (.lets [.call 14 [.v 21,.v 27,.v 43] 0] [] (.lets [.bin .add (.v 22) (.c (.i .i64 1))] [] (.again 0 [.v 18,.v 19,.v 42,.v 44,.v
 45])))
def z00a:T :=
 .ite (.v 40) (.ret [.c (.nil 6),.c (.nil 6),.c (.i .i64 8)]) (.lets [.mk 6 [[.v 30,.v 31,.v 32,.v 33,.v 34,.v 35]]] [] (.lets [.app 6 (.v 20) (.v 41)] [] z009))
def z00b:T :=
 .ite (.v 37) (.ret [.c (.nil 6),.c (.nil 6),.c (.i .i64 10)]) (.lets [.call 16 [.v 33,.v 26,.v 5] 0,.call 16 [.v 33,.v 26,.v 5] 1] [] (.lets [.not (.v 38)] [] z00a))
def z00c:T :=
 .lets [.bin .add (.v 27) (.c (.i .i64 1))] [] (.lets [.call 14 [.v 21,.v 27,.v 41] 0] [] (.lets [.bin .add (.v 22) (.c (.i .i64 1))] [] (.again 0 [.v 18,.v 19,.v 40,.v 42,.v
 43])))
def z00d:T :=
 .ite (.v 38) (.ret [.c (.nil 6),.c (.nil 6),.c (.i .i64 8)]) (.lets [.mk 6 [[.v 30,.v 31,.v 32,.v 33,.v 34,.v 35]]] [] (.lets [.app 6 (.v 20) (.v 39)] [] z00c))
def z00e:T :=
 .ite (.v 35) (.lets [.bin .add (.v 34) (.c (.i .i64 2))] [] (.lets [.bin .lss (.v 5) (.v 36)] [] z00b)) (.lets [.call 16 [.v 33,.v 26,.v 5] 0,.call 16 [.v 33,.v 26,.v
 5] 1] [] (.lets [.not (.v 36)] [] z00d))
def z00f:T :=
 .lets [.idx (.v 21) (.v 27) 0,.idx (.v 21) (.v 27) 1,.idx (.v 21) (.v 27) 2,.idx (.v 21) (.v 27) 3,.idx (.v 21) (.v 27) 4,.idx (.v 21) (.v 27) 5] [] z00e
def z00g:T :=
 .lets [.call 6 [.v 21,.v 24,.v 25] 0,.call 6 [.v 21,.v 24,.v 25] 1] [] (.lets [.not (.v 28)] [] (.ite (.v 29) (.ret [.c (.nil 6),.c (.nil 6),.c (.i .i64 7)]) (.lets [] [.inr
 6 (.v 21) (.v 27)] z00f)))
def z00h:T :=
 .lets [.mk 6 [[.v 4,.v 30,.v 32,.v 36,.v 5,.v 15]]] [] (.lets [.call 15 [.v 29,.v 34,.v 37] 0] [] (.lets [.bin .add (.v 30) (.c (.i .i64 1))] [] (.again 1 [.v 27,.v 28,.v
 38,.v 39])))
def z00i:T :=
 .lets [.call 6 [.v 29,.v 4,.v 30] 0,.call 6 [.v 29,.v 4,.v 30] 1] [] (.ite (.v 35) (.ret [.c (.nil 6),.c (.nil 6),.c (.i .i64 6)]) (.lets [.call 10 [.v 33] 0] []
 z00h))
def z00j:T :=
 .lets [.call 8 [.v 29] 0] [] (.lets [.bin .neq (.v 32) (.c (.i .i64 0))] [] (.ite (.v 33) (.ret [.c (.nil 6),.c (.nil 6),.v 32]) (.ret [.v 29,.v 20,.c (.i .i64 0)])))
def z00k:T :=
 .lets [.bin .lss (.v 30) (.v 26)] [] (.ite (.v 31) (.lets [] [.inr 2 (.v 3) (.v 30)] (.lets [.idx (.v 3) (.v 30) 0,.idx (.v 3) (.v 30) 1] [] z00i)) z00j)
def z00l:T :=
 .ite (.v 25) (.ret [.c (.nil 6),.c (.nil 6),.c (.i .i64 9)]) (.lets [.len (.v 3)] [] (.loop [.c (.nil 6),.c (.i .i64 0),.v 21,.c (.i .i64 0)] z00k))
def z00m:T :=
 .ite (.v 23) (.lets [] [.inr 3 (.v 2) (.v 22)] (.lets [.idx (.v 2) (.v 22) 0,.idx (.v 2) (.v 22) 1,.idx (.v 2) (.v 22) 2] [] z00g)) (.lets [.call 13 [.v 1,.v 2,.v 3,.v
 20] 0] [] (.lets [.bin .lss (.v 24) (.c (.i .i64 0))] [] z00l))
def z00n:T :=
 .lets [.call 11 [.v 0] 0] [] (.lets [.len (.v 2)] [] (.loop [.c (.nil 6),.c (.i .i64 0),.c (.nil 6),.v 16,.c (.i .i64 0)] (.lets [.bin .lss (.v 22) (.v 17)] [] z00m)))
def z00o:T :=
 .lets [.bin .eql (.v 14) (.c (.i .i64 0))] [] (.ite (.v 15) (.lets [.bin .neq (.v 1) (.v 5)] [] (.ite (.v 16) (.ret [.c (.nil 6),.c (.nil 6),.c (.i .i64 4)]) z008))
 z00n)
def z00p:T :=
 .ite (.v 12) (.ret [.c (.nil 6),.c (.nil 6),.c (.i .i64 3)]) (.lets [.bin .gtr (.v 5) (.c (.i .i64 1000))] [] (.ite (.v 13) (.ret [.c (.nil 6),.c (.nil 6),.c (.i .i64 3)])
 (.lets [.len (.v 2)] [] z00o)))
def z00q:T :=
 .lets [.bin .gtr (.v 4) (.c (.i .i64 120))] [] (.ite (.v 11) (.ret [.c (.nil 6),.c (.nil 6),.c (.i .i64 3)]) (.lets [.bin .lss (.v 5) (.c (.i .i64 1))] [] z00p))
def z00r:T :=
 .ite (.v 9) (.ret [.c (.nil 6),.c (.nil 6),.v 8]) (.lets [.bin .lss (.v 4) (.c (.i .i64 1))] [] (.ite (.v 10) (.ret [.c (.nil 6),.c (.nil 6),.c (.i .i64 3)]) z00q))
def z00s:T :=
 .lets [.bin .neq (.v 6) (.c (.i .i64 0))] [] (.ite (.v 7) (.ret [.c (.nil 6),.c (.nil 6),.v 6]) (.lets [.call 17 [.v 1,.v 2,.v 3] 0] [] (.lets [.bin .neq (.v 8) (.c (.i .i64
 0))] [] z00r)))
def zim:T :=
 .lets [.call 8 [.v 0] 0] [] z00s
theorem zrp:Meets Tryz.prog z5i 129 ⟨[.one,.agg 3,.one,.one],[(false,[.pure]),(true,[.pure]),(false,[.scal])],false⟩:=by
 refine z8s (sp:=(z05 [(6,zbu),(8,z36),(10,z56),(11,z7e),(13,z5p),(14,zc3),(15,zc4),(16,z9n),(17,z9i)])) (sigs:=z08) (cut:=[]) (hints:=[⟨19,[.r 8 102 6,.t 10,.r 0 102 6,.t 111,.z 84,.z 83,.z 78]⟩]) (fns:=[z76 203 Tryz.f203 [⟨2,[.r 6 102 6,.t 8,.r 7 102 6,.r 0 102 6,.t 19]⟩] [],z76 202 Tryz.f202 [] []]) (dep:=2) (pool:=240) (fn:=Tryz.f129) (t:=zim) (by kernel_rfl) (by kernel_rfl) (by kernel_rfl) ?_ ?_ ?_
 ·exact (z1y (fn:=Tryz.f203) (by kernel_rfl) (by kernel_rfl) (by kernel_rfl) (by kernel_rfl) (by kernel_rfl) (z1y (fn:=Tryz.f202) (by kernel_rfl) (by kernel_rfl) (by kernel_rfl) (by kernel_rfl) (by kernel_rfl) za9))
 ·exact (zq (L:=[(6,zbu),(8,z36),(10,z56),(11,z7e),(13,z5p),(14,zc3),(15,zc4),(16,z9n),(17,z9i)]) ⟨z5 rfl z0ay,z5 rfl zdx,z5 rfl zma,z5 rfl zz5,z5 rfl zol,z5 rfl z0bz,z5 rfl z0c0,z5 rfl z02y,z5 rfl z0aw,trivial⟩)
 ·rintro ds rs - h
  obtain ⟨⟨l,t,nm,ht⟩,-,rfl,rfl⟩:=zd h
  clear h
  refine ⟨⟨t.ins.length+t.outs.length+1,?_⟩,z087⟩
  show den _ _ zim [.l 6 (l.map zj),I t.height,.l 3 (t.ins.map eIn),.l 2 (t.outs.map z1x),I nm,I ht] []=ret (zr l t nm ht)
  unfold zim zr
  repeat' (first|refine dq1 ?_|refine dqk rfl (z57 _) ?_|refine dqk rfl (zto _) ?_|exact z4 rfl rfl|((first|refine tR ?_ ?_|refine tO ?_ ?_) <;> intro h)|fail)
  all_goals
   have ok:CoinsOK l:=(z0l l).1 (Decidable.not_not.1 (by assumption))
   have okt:TxOK t:=z7w (Decidable.not_not.1 (by assumption))
   have hl:=ok.len
   have hti:=okt.ins
   have hto:=okt.outs
   repeat' (first|refine dq1 ?_|refine dqk rfl (zi8 _ ok.short) ?_|fail)
  ·(refine z0c (fun (st:List Coin × List Coin) k=>[.l 6 (([]:List Coin).map zj),I 0,.l 6 (st.2.map zj),.l 6 (st.1.map zj),I k]) (fun (st:List Coin × List Coin) _ (xs:List In)=>z47 ht z55 (fun r s=>z4g nm ht (decide ((t.ins.length:Int)=0)) z55 (zbk s) r 0 t.outs) st.1 st.2 xs) (fun st k=>SpI l st k) (l,[]) t.ins ?_ ?_ ?_ ?_ ?_;rfl;exact ⟨ok.sorted,Nat.le_refl _,ok.good,rfl,fun c hc=>by cases hc⟩;omega)
   ·rintro ⟨r,s⟩ k x xs hx hd hk hI again hag
    rename_i h0 _
    omega
   ·rintro ⟨r,s⟩ hI again
    rw [z47]
    repeat' (first|refine dq1 ?_|refine dqF ?_|fail)
    (refine z0c (fun (r:List Coin) k=>[.l 6 (([]:List Coin).map zj),I 0,.l 6 (r.map zj),I k]) (fun (r:List Coin) k (os:List Out)=>z4g nm ht (decide ((t.ins.length:Int)=0)) z55 (zbk s) r k os) (fun r k=>z0j r∧r.length≤l.length+k) r t.outs ?_ ?_ ?_ ?_ ?_;rfl;exact ⟨hI.sorted,hI.len⟩;omega)
    ·rintro r k o os hx hd hk ⟨hs,hrl⟩ again' hag
     rw [z4g]
     have hol:=z9j (okt.good o (List.mem_of_getElem? hx)).2.2
     have hpl:=zkq r ⟨nm,k⟩
     have e1:((zw r ⟨nm,k⟩:Int)).toNat=zw r ⟨nm,k⟩:=by omega
     repeat' (first|refine dq1 ?_|refine dqc ?_|refine dqm ?_|refine dqK rfl (zbg r ⟨nm,k⟩ hs (by omega)) ?_|refine dqk rfl (z7u _ (by omega)) ?_|exact z4 rfl rfl|refine tB (fun h=>?_) fun h=>?_|refine dqT ?_|fail)
     have hno:=h
     refine z7 (z5c (r:=[(⟨⟨nm,k⟩,o,ht,decide ((t.ins.length:Int)=0)⟩:Coin)].map zj) rfl rfl (by simp)) ?_
     refine z7 (z3n rfl (zh3 _ _ _ ⟨by omega,by omega,by omega⟩) rfl) ?_
     refine z7 (zaa rfl rfl (by omega)) ?_
     rw [e1]
     exact zm rfl rfl (hag _ ⟨z9v hs (c:=⟨⟨nm,k⟩,o,ht,decide ((t.ins.length:Int)=0)⟩) hno,by simp only [List.length_append,List.length_take,List.length_drop,List.length_singleton];omega⟩)
    ·rintro r hr again'
     rw [z4g]
     unfold zbk
     repeat' (first|refine dq1 ?_|refine dqk rfl (z57 _) ?_|exact z4 rfl rfl|refine tR (fun h=>?_) fun h=>?_|refine dqF ?_|fail)
  ·(refine z0c (fun (st:List Coin × List Coin) k=>[.l 6 (([]:List Coin).map zj),I 0,.l 6 (st.2.map zj),.l 6 (st.1.map zj),I k]) (fun (st:List Coin × List Coin) _ (xs:List In)=>z47 ht z55 (fun r s=>if z1i t s<0 then z55 9 else z4g nm ht (decide ((t.ins.length:Int)=0)) z55 (zbk s) r 0 t.outs) st.1 st.2 xs) (fun st k=>SpI l st k) (l,[]) t.ins ?_ ?_ ?_ ?_ ?_;rfl;exact ⟨ok.sorted,Nat.le_refl _,ok.good,rfl,fun c hc=>by cases hc⟩;omega)
   ·rintro ⟨r,s⟩ k x xs hx hd hk hI again hag
    rw [z47]
    simp only
    have hs:=hI.sorted
    have hrl:=hI.len
    simp only at hs hrl
    repeat' (first|refine dq1 ?_|refine dqc ?_|refine dqm ?_|refine dqK rfl (zbg _ _ hs (by omega)) ?_|exact z4 rfl rfl|refine tN (fun h=>?_) fun h=>?_|refine dqT ?_|fail)
    obtain ⟨hlt,hp⟩:=(zkr hs x.p).1 h
    have hc:r[zw r x.p]? = some r[zw r x.p]:=List.getElem?_eq_getElem hlt
    rw [hc]
    generalize r[zw r x.p]=c at *
    have hcb:=z5d (hI.good c (List.mem_of_getElem? hc))
    have e1:((zw r x.p:Int)).toNat=zw r x.p:=by omega
    have e2:((zw r x.p:Int)+1).toNat=zw r x.p+1:=by omega
    simp only [Option.getD_some]
    have hxo:=hx
    have hx:=hc
    repeat' (first|refine dq1 ?_|refine dqc ?_|refine dqm ?_|refine dqK rfl (zme _ _ _) ?_|exact z4 rfl rfl|((first|refine tR ?_ ?_|refine tB ?_ ?_|refine tN ?_ ?_) <;> intro h)|fail)
    all_goals (refine z7 (z5c (r:=[c].map zj) rfl rfl (by simp)) ?_;refine z7 (zm9 (l:=s) (l':=[c]) rfl rfl (by have:=hI.cnt;simp only at this ⊢;simp only [List.length_singleton];omega)) ?_;refine z7 (zaa rfl rfl (by omega)) ?_;refine z7 (z3n rfl (ztn _ _ _ ⟨by omega,by omega,by omega⟩) rfl) ?_;refine z7 (zaa rfl rfl (by omega)) ?_;rw [e1,e2];exact zm rfl rfl (hag (r.take (zw r x.p)++r.drop (zw r x.p+1),s++[c]) (hI.cut hc)))
   ·rintro ⟨r,s⟩ hI again
    rw [z47]
    repeat' (first|refine dq1 ?_|refine dqk rfl (zaq t s (hI.fee okt)) ?_|exact z4 rfl rfl|refine tR (fun h=>?_) fun h=>?_|refine dqF ?_|fail)
    (refine z0c (fun (r:List Coin) k=>[.l 6 (([]:List Coin).map zj),I 0,.l 6 (r.map zj),I k]) (fun (r:List Coin) k (os:List Out)=>z4g nm ht (decide ((t.ins.length:Int)=0)) z55 (zbk s) r k os) (fun r k=>z0j r∧r.length≤l.length+k) r t.outs ?_ ?_ ?_ ?_ ?_;rfl;exact ⟨hI.sorted,hI.len⟩;omega)
    ·rintro r k o os hx hd hk ⟨hs,hrl⟩ again' hag
     rw [z4g]
     have hol:=z9j (okt.good o (List.mem_of_getElem? hx)).2.2
     have hpl:=zkq r ⟨nm,k⟩
     have e1:((zw r ⟨nm,k⟩:Int)).toNat=zw r ⟨nm,k⟩:=by omega
     repeat' (first|refine dq1 ?_|refine dqc ?_|refine dqm ?_|refine dqK rfl (zbg r ⟨nm,k⟩ hs (by omega)) ?_|refine dqk rfl (z7u _ (by omega)) ?_|exact z4 rfl rfl|refine tB (fun h=>?_) fun h=>?_|refine dqT ?_|fail)
     have hno:=h
     refine z7 (z5c (r:=[(⟨⟨nm,k⟩,o,ht,decide ((t.ins.length:Int)=0)⟩:Coin)].map zj) rfl rfl (by simp)) ?_
     refine z7 (z3n rfl (zh3 _ _ _ ⟨by omega,by omega,by omega⟩) rfl) ?_
     refine z7 (zaa rfl rfl (by omega)) ?_
     rw [e1]
     exact zm rfl rfl (hag _ ⟨z9v hs (c:=⟨⟨nm,k⟩,o,ht,decide ((t.ins.length:Int)=0)⟩) hno,by simp only [List.length_append,List.length_take,List.length_drop,List.length_singleton];omega⟩)
    ·rintro r hr again'
     rw [z4g]
     unfold zbk
     repeat' (first|refine dq1 ?_|refine dqk rfl (z57 _) ?_|exact z4 rfl rfl|refine tR (fun h=>?_) fun h=>?_|refine dqF ?_|fail)
end
section
open Go.RowKit
set_option maxRecDepth 100000
set_option maxHeartbeats 4000000
attribute [local irreducible] z0o spD z2h zx zl zk
end
section
open Go.RowKit
theorem hasP_mem {l:List Coin} {p:Point}:z39 l p=true↔∃ c ∈ l,c.p=p:=by
 unfold z39
 rw [List.any_eq_true]
 constructor
 ·rintro ⟨c,hc,h⟩;exact ⟨c,hc,of_decide_eq_true h⟩
 ·rintro ⟨c,hc,h⟩;exact ⟨c,hc,decide_eq_true h⟩
theorem hasP_not {l:List Coin} {p:Point}:z39 l p=false↔∀ c ∈ l,c.p≠p:=by
 rw [← Bool.not_eq_true,hasP_mem]
 constructor
 ·intro h c hc he;exact h ⟨c,hc,he⟩
 ·rintro h ⟨c,hc,he⟩;exact h c hc he
theorem zk5 {l:List Coin} (h:z0j l) {c d:Coin} (hc:c ∈ l) (hd:d ∈ l) (hp:c.p=d.p):c=d:=by
 obtain ⟨i,hi,rfl⟩:=List.getElem_of_mem hc
 obtain ⟨j,hj,rfl⟩:=List.getElem_of_mem hd
 rcases Nat.lt_trichotomy i j with hij|rfl|hij
 ·have:=z8q h hij hj;rw [hp] at this;exact absurd this (z67 _)
 ·rfl
 ·have:=z8q h hij hi;rw [hp] at this;exact absurd this (z67 _)
theorem z00t {l:List Coin} (h:z0j l) {c:Coin} (hc:c ∈ l):l[zw l c.p]? = some c:=by
 obtain ⟨hlt,hp⟩:=(zkr h c.p).1 (hasP_mem.2 ⟨c,hc,rfl⟩)
 rw [List.getElem?_eq_getElem hlt]
 exact congrArg some (zk5 h (List.getElem_mem hlt) hc hp)
theorem z0hl {l:List Coin} (h:z0j l) {p:Point} (hp:z39 l p=true):∃ c,l[zw l p]? = some c∧c ∈ l∧c.p=p:=by
 obtain ⟨c,hc,rfl⟩:=hasP_mem.1 hp
 exact ⟨c,z00t h hc,hc,rfl⟩
theorem zgp:∀ {a b:List Coin},z0j a→z0j b→(∀ c,c ∈ a↔c ∈ b)→a=b
 | [],[],_,_,_=>rfl
 | [],y::b,_,_,h=>by have:=(h y).2 (List.mem_cons_self ..);cases this
 | x::a,[],_,_,h=>by have:=(h x).1 (List.mem_cons_self ..);cases this
 | x::a,y::b,ha,hb,h=>by
  have ha':=List.pairwise_cons.1 ha
  have hb':=List.pairwise_cons.1 hb
  have hxy:x=y:=by
   rcases List.mem_cons.1 ((h x).1 (List.mem_cons_self ..)) with e|hx
   ·exact e
   ·rcases List.mem_cons.1 ((h y).2 (List.mem_cons_self ..)) with e|hy
    ·exact e.symm
    ·exact absurd (hb'.1 x hx) (zr5 (ha'.1 y hy))
  subst hxy
  congr 1
  refine zgp ha'.2 hb'.2 fun c=>⟨fun hc=>?_,fun hc=>?_⟩
  ·rcases List.mem_cons.1 ((h c).1 (List.mem_cons_of_mem _ hc)) with rfl|h'
   ·exact absurd (ha'.1 c hc) (z67 _)
   ·exact h'
  ·rcases List.mem_cons.1 ((h c).2 (List.mem_cons_of_mem _ hc)) with rfl|h'
   ·exact absurd (hb'.1 c hc) (z67 _)
   ·exact h'
theorem zow {l:List Coin} (h:z0j l) {c:Coin} {k:Nat} (hk:l[k]? = some c) {d:Coin}:d ∈ l.take k++l.drop (k+1)↔d ∈ l∧d.p≠c.p:=by
 obtain ⟨hlt,rfl⟩:=List.getElem?_eq_some_iff.1 hk
 have hsplit:l=l.take k++l[k]::l.drop (k+1):=by rw [List.getElem_cons_drop,List.take_append_drop]
 have hs:z0j (l.take k++l[k]::l.drop (k+1)):=by rw [← hsplit];exact h
 obtain ⟨_,h2,h3⟩:=List.pairwise_append.1 hs
 have h2':=List.pairwise_cons.1 h2
 constructor
 ·intro hd
  refine ⟨?_,?_⟩
  ·rcases List.mem_append.1 hd with hd|hd
   ·exact List.mem_of_mem_take hd
   ·exact List.mem_of_mem_drop hd
  ·rcases List.mem_append.1 hd with hd|hd
   ·intro e;have:=h3 d hd l[k] (List.mem_cons_self ..);rw [e] at this;exact z67 _ this
   ·intro e;have:=h2'.1 d hd;rw [e] at this;exact z67 _ this
 ·rintro ⟨hd,hne⟩
  rw [hsplit] at hd
  rcases List.mem_append.1 hd with hd|hd
  ·exact List.mem_append_left _ hd
  ·rcases List.mem_cons.1 hd with rfl|hd
   ·exact absurd rfl hne
   ·exact List.mem_append_right _ hd
theorem put_mem {l:List Coin} {c d:Coin} {k:Nat}:d ∈ l.take k++[c]++l.drop k↔d=c∨d ∈ l:=by
 have:d ∈ l↔d ∈ l.take k∨d ∈ l.drop k:=by rw [← List.mem_append,List.take_append_drop]
 rw [List.mem_append,List.mem_append,List.mem_singleton,this]
 constructor
 ·rintro ((h|h)|h)
  ·exact .inr (.inl h)
  ·exact .inl h
  ·exact .inr (.inr h)
 ·rintro (h|h|h)
  ·exact .inl (.inr h)
  ·exact .inl (.inl h)
  ·exact .inr h
theorem z0c1 {l:List Coin} {c:Coin} {k:Nat} (hk:l[k]? = some c):ze l=ze (l.take k++l.drop (k+1))+c.o.coin:=by
 obtain ⟨hlt,rfl⟩:=List.getElem?_eq_some_iff.1 hk
 have hsplit:l=l.take k++l[k]::l.drop (k+1):=by rw [List.getElem_cons_drop,List.take_append_drop]
 have e:ze l=ze (l.take k++l[k]::l.drop (k+1)):=by rw [← hsplit]
 rw [e,z4y,z4y,ze]
 omega
theorem z0c2 {l:List Coin} {c:Coin} {k:Nat}:ze (l.take k++[c]++l.drop k)=ze l+c.o.coin:=by
 have e:ze l=ze (l.take k++l.drop k):=by rw [List.take_append_drop]
 rw [e,z4y,z4y,z4y,ze,ze]
 omega
structure Fine (h:Int) (x:In) (c:Coin):Prop where
 p:c.p=x.p
 ripe:c.reward=true→c.height+2≤h
 opens:(z4z c.o.lock x.key h).1=true
inductive Spent (h:Int):List Coin→List Coin→List In→List Coin→List Coin→Prop
 | nil (r s):Spent h r s [] r s
 | cons {r s x xs r' s' c}:c ∈ r→r[zw r x.p]? = some c→Fine h x c→Spent h (r.take (zw r x.p)++r.drop (zw r x.p+1)) (s++[c]) xs r' s'→Spent h r s (x::xs) r' s'
theorem zmx {ρ:Type} {h:Int} {bad:Int→ρ} {K:List Coin→List Coin→ρ} {r s:List Coin} {x:In} {xs:List In} {c:Coin} (hm:c ∈ r) (hc:r[zw r x.p]? = some c) (hf:Fine h x c):z47 h bad K r s (x::xs)=z47 h bad K (r.take (zw r x.p)++r.drop (zw r x.p+1)) (s++[c]) xs:=by
 have hp:z39 r x.p=true:=hasP_mem.2 ⟨c,hm,hf.p⟩
 rw [z47,if_pos hp,hc]
 simp only [Option.getD_some]
 rw [if_pos hf.opens]
 by_cases hr:c.reward=true
 ·rw [if_pos hr,if_neg (by have:=hf.ripe hr;omega)]
 ·rw [if_neg hr]
theorem Spent.run {ρ:Type} {h:Int} {bad:Int→ρ} {K:List Coin→List Coin→ρ} {r s r' s':List Coin} {xs:List In} (hs:Spent h r s xs r' s'):z47 h bad K r s xs=K r' s':=by
 induction hs with
 | nil r s=>rfl
 | cons hm hc hf _ ih=>rw [zmx hm hc hf,ih]
theorem zl2 {h:Int} {K:List Coin→List Coin→List Coin × List Coin × Int}:∀ {xs:List In} {r s:List Coin},z0j r→(z47 h z55 K r s xs).2.2=0→∃ r' s',Spent h r s xs r' s'∧z47 h z55 K r s xs=K r' s'
 | [],r,s,_,_=>⟨r,s,.nil r s,rfl⟩
 | x::xs,r,s,hr,h0=>by
  by_cases hp:z39 r x.p=true
  ·obtain ⟨c,hc,hm,hcp⟩:=z0hl hr hp
   have hf:Fine h x c:=by
    rw [z47,if_pos hp,hc] at h0
    simp only [Option.getD_some] at h0
    by_cases hrw:c.reward=true
    ·rw [if_pos hrw] at h0
     by_cases hh:h<c.height+2
     ·rw [if_pos hh] at h0;cases h0
     ·rw [if_neg hh] at h0
      by_cases ho:(z4z c.o.lock x.key h).1=true
      ·exact ⟨hcp,fun _=>by omega,ho⟩
      ·rw [if_neg ho] at h0;cases h0
    ·rw [if_neg hrw] at h0
     by_cases ho:(z4z c.o.lock x.key h).1=true
     ·exact ⟨hcp,fun h=>absurd h hrw,ho⟩
     ·rw [if_neg ho] at h0;cases h0
   have e:=zmx (bad:=z55) (K:=K) (s:=s) (xs:=xs) hm hc hf
   rw [e] at h0 ⊢
   obtain ⟨r',s',h1,h2⟩:=zl2 (z9u hr _) h0
   exact ⟨r',s',.cons hm hc hf h1,h2⟩
  ·rw [z47,if_neg hp] at h0
   cases h0
structure SpentAs (h:Int) (r:List Coin) (xs:List In) (r' cs:List Coin):Prop where
 sorted:z0j r'
 mem:∀ c,c ∈ r'↔c ∈ r∧∀ x ∈ xs,x.p≠c.p
 len:cs.length=xs.length
 fine:∀ (i:Nat) (x:In),xs[i]? = some x→∃ c,cs[i]? = some c∧c ∈ r∧Fine h x c
 apart:xs.Pairwise fun x y=>x.p≠y.p
 total:ze r=ze r'+ze cs
theorem Spent.as {h:Int} {r s r' s':List Coin} {xs:List In} (hs:Spent h r s xs r' s'):z0j r→∃ cs,s'=s++cs∧SpentAs h r xs r' cs:=by
 induction hs with
 | nil r s=>exact fun hr=>⟨[],(List.append_nil s).symm,hr,fun c=>by simp,rfl,fun i x hx=>by simp at hx,.nil,by simp [ze]⟩
 | @cons r s x xs r' s' c hm hc hf hs ih =>
  intro hr
  obtain ⟨cs,rfl,H⟩:=ih (z9u hr _)
  have hcm:=fun d=>zow hr hc (d:=d)
  refine ⟨c::cs,by simp,H.sorted,fun d=>?_,by simp [H.len],fun i y hy=>?_,?_,?_⟩
  ·rw [H.mem,hcm]
   constructor
   ·rintro ⟨⟨h1,h2⟩,h3⟩
    refine ⟨h1,fun y hy=>?_⟩
    rcases List.mem_cons.1 hy with rfl|hy
    ·rw [← hf.p];exact fun e=>h2 e.symm
    ·exact h3 y hy
   ·rintro ⟨h1,h2⟩
    exact ⟨⟨h1,fun e=>h2 x (List.mem_cons_self ..) (by rw [← hf.p,e])⟩,fun y hy=>h2 y (List.mem_cons_of_mem _ hy)⟩
  ·cases i with
   | zero =>
    simp only [List.getElem?_cons_zero,Option.some.injEq] at hy
    subst hy
    exact ⟨c,rfl,hm,hf⟩
   | succ i =>
    obtain ⟨d,h1,h2,h3⟩:=H.fine i y (by simpa using hy)
    exact ⟨d,by simpa using h1,(hcm d).1 h2 |>.1,h3⟩
  ·refine List.pairwise_cons.2 ⟨fun y hy=>?_,H.apart⟩
   obtain ⟨i,hi⟩:=List.getElem?_of_mem hy
   obtain ⟨d,_,h2,h3⟩:=H.fine i y hi
   have:=((hcm d).1 h2).2
   rw [h3.p,hf.p] at this
   exact fun e=>this e.symm
  ·rw [z0c1 hc,H.total,ze];omega
theorem Spent.of {h:Int}:∀ {xs:List In} {r s cs:List Coin},z0j r→xs.Pairwise (fun x y=>x.p≠y.p)→cs.length=xs.length→(∀ (i:Nat) (x:In),xs[i]? = some x→∃ c,cs[i]? = some c∧c ∈ r∧Fine h x c)→∃ r',Spent h r s xs r' (s++cs)
 | [],r,s,cs,hr,ha,hl,hf=>by
  have:cs=[]:=List.eq_nil_of_length_eq_zero hl
  subst this
  exact ⟨r,by rw [List.append_nil];exact .nil r s⟩
 | x::xs,r,s,[],hr,ha,hl,hf=>by cases hl
 | x::xs,r,s,c::cs,hr,ha,hl,hf=>by
  obtain ⟨c',h1,hm,hfx⟩:=hf 0 x rfl
  simp only [List.getElem?_cons_zero,Option.some.injEq] at h1
  subst h1
  have hc:r[zw r x.p]? = some c:=by rw [← hfx.p];exact z00t hr hm
  have ha':=List.pairwise_cons.1 ha
  obtain ⟨r',hs⟩:=Spent.of (s:=s++[c]) (cs:=cs) (z9u hr (zw r x.p)) ha'.2 (by simpa using hl) fun i y hy=>by
   obtain ⟨d,k1,k2,k3⟩:=hf (i+1) y (by simpa using hy)
   refine ⟨d,by simpa using k1,(zow hr hc).2 ⟨k2,?_⟩,k3⟩
   rw [k3.p,hfx.p]
   exact fun e=>ha'.1 y (List.mem_of_getElem? hy) e.symm
  exact ⟨r',.cons hm hc hfx (by rw [List.append_assoc] at hs;exact hs)⟩
def z6s (nm h:Int) (rw:Bool) (i:Nat) (o:Out):Coin:=⟨⟨nm,i⟩,o,h,rw⟩
inductive Brought (nm h:Int) (rw:Bool):List Coin→Nat→List Out→List Coin→Prop
 | nil (r i):Brought nm h rw r i [] r
 | cons {r:List Coin} {i:Nat} {o:Out} {os:List Out} {m:List Coin}:z39 r ⟨nm,i⟩=false→Brought nm h rw (r.take (zw r ⟨nm,i⟩)++[z6s nm h rw i o]++r.drop (zw r ⟨nm,i⟩)) (i+1) os m→Brought nm h rw r i (o::os) m
theorem Brought.run {ρ:Type} {nm h:Int} {rw:Bool} {bad:Int→ρ} {K:List Coin→ρ} {r m:List Coin} {i:Nat} {os:List Out} (hb:Brought nm h rw r i os m):z4g nm h rw bad K r i os=K m:=by
 induction hb with
 | nil r i=>rfl
 | cons hn _ ih=>rw [z4g,if_neg (by simp [hn])];exact ih
theorem zl3 {nm h:Int} {rw:Bool} {K:List Coin→List Coin × List Coin × Int}:∀ {os:List Out} {r:List Coin} {i:Nat},(z4g nm h rw z55 K r i os).2.2=0→∃ m,Brought nm h rw r i os m∧z4g nm h rw z55 K r i os=K m
 | [],r,i,_=>⟨r,.nil r i,rfl⟩
 | o::os,r,i,h0=>by
  rw [z4g] at h0 ⊢
  cases hp:z39 r ⟨nm,i⟩ with
  | true=>rw [hp,if_pos rfl] at h0;cases h0
  | false =>
   rw [hp,if_neg (by simp)] at h0
   rw [if_neg (by simp)]
   obtain ⟨m,h1,h2⟩:=zl3 h0
   exact ⟨m,.cons hp h1,h2⟩
def z2j (os:List Out):Int:=(os.map Out.coin).sum
structure BroughtAs (nm h:Int) (rw:Bool) (r:List Coin) (i:Nat) (os:List Out) (m:List Coin):Prop where
 sorted:z0j m
 mem:∀ c,c ∈ m↔c ∈ r∨∃ (j:Nat) (o:Out),os[j]? = some o∧c=z6s nm h rw (i+j) o
 free:∀ c ∈ r,∀ j,j<os.length→c.p≠⟨nm,((i+j:Nat):Int)⟩
 total:ze m=ze r+z2j os
 len:m.length=r.length+os.length
theorem Brought.as {nm h:Int} {rw:Bool} {r m:List Coin} {i:Nat} {os:List Out} (hb:Brought nm h rw r i os m):z0j r→BroughtAs nm h rw r i os m:=by
 induction hb with
 | nil r i=>exact fun hr=>⟨hr,fun c=>by simp,fun c _ j hj=>by simp at hj,by simp [z2j],by simp⟩
 | @cons r i o os m hn hb ih =>
  intro hr
  have H:=ih (z9v hr (c:=z6s nm h rw i o) hn)
  refine ⟨H.sorted,fun c=>?_,fun c hc j hj=>?_,?_,?_⟩
  ·rw [H.mem,put_mem]
   constructor
   ·rintro ((rfl|h1)|⟨j,q,h1,h2⟩)
    ·exact .inr ⟨0,o,rfl,rfl⟩
    ·exact .inl h1
    ·exact .inr ⟨j+1,q,by simpa using h1,by rw [h2,show i+1+j=i+(j+1) by omega]⟩
   ·rintro (h1|⟨j,q,h1,h2⟩)
    ·exact .inl (.inr h1)
    ·cases j with
     | zero =>
      simp only [List.getElem?_cons_zero,Option.some.injEq] at h1
      subst h1
      exact .inl (.inl h2)
     | succ j=>exact .inr ⟨j,q,by simpa using h1,by rw [h2,show i+1+j=i+(j+1) by omega]⟩
  ·cases j with
   | zero=>exact hasP_not.1 hn c hc
   | succ j =>
    have:=H.free c (put_mem.2 (.inr hc)) j (by simpa using hj)
    rwa [show i+1+j=i+(j+1) by omega] at this
  ·rw [H.total,z0c2]
   simp only [z2j,List.map_cons,List.sum_cons,z6s]
   omega
  ·rw [H.len]
   simp only [List.length_append,List.length_take,List.length_drop,List.length_cons,List.length_nil]
   omega
theorem Brought.of {nm h:Int} {rw:Bool}:∀ {os:List Out} {r:List Coin} {i:Nat},z0j r→(∀ c ∈ r,∀ j,j<os.length→c.p≠⟨nm,((i+j:Nat):Int)⟩)→∃ m,Brought nm h rw r i os m
 | [],r,i,_,_=>⟨r,.nil r i⟩
 | o::os,r,i,hr,hf=>by
  have hn:z39 r ⟨nm,i⟩=false:=hasP_not.2 fun c hc=>hf c hc 0 (by simp)
  obtain ⟨m,hb⟩:=Brought.of (os:=os) (i:=i+1) (z9v hr (c:=z6s nm h rw i o) hn) fun c hc j hj=>by
   rcases put_mem.1 hc with rfl|hc
   ·simp only [z6s,ne_eq,Point.mk.injEq,not_and]
    intro _
    omega
   ·have:=hf c hc (j+1) (by simpa using hj)
    rwa [show i+(j+1)=i+1+j by omega] at this
  exact ⟨m,.cons hn hb⟩
theorem z0c3 (os:List Out):∀ s:Int,os.foldl (fun s o=>s - o.coin) s=s - z2j os:=by
 induction os with
 | nil=>intro s;simp [z2j]
 | cons o os ih=>intro s;rw [List.foldl_cons,ih];simp only [z2j,List.map_cons,List.sum_cons];omega
theorem zgq (t:Tx) (s:List Coin):z1i t s=ze s - z2j t.outs:=by
 unfold z1i
 rw [z0c3,z036]
 omega
structure Done (l:List Coin) (t:Tx) (nm h:Int) (r s m:List Coin):Prop where
 ok:CoinsOK l
 tx:zl t=0
 nm1:1≤nm
 nm2:nm≤120
 h1:1≤h
 h2:h≤1000
 height:t.ins.length=0→t.height=h
 spent:Spent h l [] t.ins r s
 fee:t.ins.length≠0→0≤z1i t s
 brought:Brought nm h (decide ((t.ins.length:Int)=0)) r 0 t.outs m
 end_:CoinsOK m
theorem Done.run {l:List Coin} {t:Tx} {nm h:Int} {r s m:List Coin} (d:Done l t nm h r s m):zr l t nm h=(m,s,0):=by
 unfold zr
 have hE:zbk s m=(m,s,0):=by
  unfold zbk
  rw [if_neg (by rw [(z0l m).2 d.end_];decide)]
 have a:=d.nm1;have b:=d.nm2;have c:=d.h1;have e:=d.h2
 rw [if_neg (by rw [(z0l l).2 d.ok];decide),if_neg (by rw [d.tx];decide),if_neg (by omega)]
 by_cases h0:(t.ins.length:Int)=0
 ·rw [if_pos h0,if_neg (by rw [d.height (by omega)];simp),d.spent.run,d.brought.run,hE]
 ·rw [if_neg h0,d.spent.run,if_neg (by have:=d.fee (by omega);omega),d.brought.run,hE]
theorem z9w {l:List Coin} {t:Tx} {nm h:Int} (h0:(zr l t nm h).2.2=0):∃ r,Done l t nm h r (zr l t nm h).2.1 (zr l t nm h).1:=by
 have key:∃ r s m,Done l t nm h r s m:=by
  unfold zr at h0
  by_cases k1:zx l=0
  ·rw [if_neg (by rw [k1];decide)] at h0
   have ok:=(z0l l).1 k1
   by_cases k2:zl t=0
   ·rw [if_neg (by rw [k2];decide)] at h0
    by_cases k3:nm<1∨120<nm∨h<1∨1000<h
    ·rw [if_pos k3] at h0;cases h0
    ·rw [if_neg k3] at h0
     by_cases k4:(t.ins.length:Int)=0
     ·rw [if_pos k4] at h0
      by_cases k5:t.height≠h
      ·rw [if_pos k5] at h0;cases h0
      ·rw [if_neg k5] at h0
       obtain ⟨r,s,q1,q2⟩:=zl2 ok.sorted h0
       rw [q2] at h0
       obtain ⟨m,q3,q4⟩:=zl3 h0
       rw [q4] at h0
       unfold zbk at h0
       by_cases k6:zx m=0
       ·exact ⟨r,s,m,ok,k2,by omega,by omega,by omega,by omega,fun _=>Decidable.not_not.1 k5,q1,fun h=>absurd (by omega) h,q3,(z0l m).1 k6⟩
       ·rw [if_pos k6] at h0;exact absurd h0 k6
     ·rw [if_neg k4] at h0
      obtain ⟨r,s,q1,q2⟩:=zl2 ok.sorted h0
      rw [q2] at h0
      by_cases k5:z1i t s<0
      ·simp only [if_pos k5] at h0;cases h0
      ·simp only [if_neg k5] at h0
       obtain ⟨m,q3,q4⟩:=zl3 h0
       rw [q4] at h0
       unfold zbk at h0
       by_cases k6:zx m=0
       ·exact ⟨r,s,m,ok,k2,by omega,by omega,by omega,by omega,fun h=>absurd (by omega) k4,q1,fun _=>by omega,q3,(z0l m).1 k6⟩
       ·rw [if_pos k6] at h0;exact absurd h0 k6
   ·rw [if_pos k2] at h0;exact absurd h0 k2
  ·rw [if_pos k1] at h0;exact absurd h0 k1
 obtain ⟨r,s,m,d⟩:=key
 refine ⟨r,?_⟩
 rw [d.run]
 exact d
end
section
open Go.RowKit
theorem z00u {ρ:Type} {nm h:Int} {rw:Bool} {bad:Int→ρ} {K:List Coin→ρ}:∀ {os:List Out} {r m:List Coin} {i:Nat},z0j r→Brought nm h rw r i os m→zue nm bad K m i os=K r
 | [],r,m,i,hr,hb=>by cases hb;rfl
 | o::os,r,m,i,hr,hb=>by
  have B:=hb.as hr
  have hmem:z6s nm h rw i o ∈ m:=(B.mem _).2 (.inr ⟨0,o,rfl,rfl⟩)
  have hp:z39 m ⟨nm,i⟩=true:=hasP_mem.2 ⟨_,hmem,rfl⟩
  have hat:m[zw m ⟨nm,i⟩]? = some (z6s nm h rw i o):=z00t B.sorted hmem
  have hfree:∀ c ∈ r,∀ j,j<os.length→c.p≠⟨nm,((i+1+j:Nat):Int)⟩:=fun c hc j hj=>by
   have:=B.free c hc (j+1) (by simpa using hj)
   rwa [show i+(j+1)=i+1+j by omega] at this
  obtain ⟨m2,hb2⟩:=Brought.of (nm:=nm) (h:=h) (rw:=rw) (os:=os) (r:=r) (i:=i+1) hr hfree
  have B2:=hb2.as hr
  have he:m.take (zw m ⟨nm,i⟩)++m.drop (zw m ⟨nm,i⟩+1)=m2:=by
   refine zgp (z9u B.sorted _) B2.sorted fun c=>?_
   rw [zow B.sorted hat,B.mem,B2.mem]
   constructor
   ·rintro ⟨h1|⟨j,q,h1,rfl⟩,h2⟩
    ·exact .inl h1
    ·cases j with
     | zero=>exact absurd rfl h2
     | succ j=>exact .inr ⟨j,q,by simpa using h1,by rw [show i+1+j=i+(j+1) by omega]⟩
   ·rintro (h1|⟨j,q,h1,rfl⟩)
    ·exact ⟨.inl h1,by have:=B.free c h1 0 (by simp);exact this⟩
    ·refine ⟨.inr ⟨j+1,q,by simpa using h1,by rw [show i+1+j=i+(j+1) by omega]⟩,?_⟩
     simp only [z6s,ne_eq,Point.mk.injEq,not_and]
     intro _
     omega
  rw [zue,if_pos hp,hat]
  simp only [Option.getD_some]
  rw [if_pos (by simp [z6s]),he]
  exact z00u hr hb2
theorem z00v {ρ:Type} {ins:List In} {bad:Int→ρ} {K:List Coin→ρ}:∀ {cs r:List Coin} {k:Nat},z0j r→(∀ c ∈ cs,∀ d ∈ r,d.p≠c.p)→cs.Pairwise (fun c d=>c.p≠d.p)→(∀ (j:Nat) (c:Coin),cs[j]? = some c→∃ x,ins[k+j]? = some x∧x.p=c.p)→∃ q,zuf ins bad K r k cs=K q∧z0j q∧∀ c,c ∈ q↔c ∈ r∨c ∈ cs
 | [],r,k,hr,_,_,_=>⟨r,rfl,hr,fun c=>by simp⟩
 | c::cs,r,k,hr,hd,hp,hi=>by
  have hn:z39 r c.p=false:=hasP_not.2 fun d hd'=>hd c (List.mem_cons_self ..) d hd'
  obtain ⟨x,hx,hxp⟩:=hi 0 c rfl
  have hp':=List.pairwise_cons.1 hp
  obtain ⟨q,h1,h2,h3⟩:=z00v (bad:=bad) (K:=K) (cs:=cs) (r:=r.take (zw r c.p)++[c]++r.drop (zw r c.p)) (k:=k+1) (z9v hr hn) (fun e he d hd'=>by
   rcases put_mem.1 hd' with rfl|hd'
   ·exact hp'.1 e he
   ·exact hd e (List.mem_cons_of_mem _ he) d hd') hp'.2 fun j e he=>by
    obtain ⟨y,hy,hyp⟩:=hi (j+1) e (by simpa using he)
    exact ⟨y,by rwa [show k+(j+1)=k+1+j by omega] at hy,hyp⟩
  refine ⟨q,?_,h2,fun e=>?_⟩
  ·rw [zuf,if_neg (by simp [hn]),show k=k+0 from rfl,hx]
   simp only [Option.getD_some]
   rw [if_neg (by simp [hxp])]
   exact h1
  ·rw [h3,put_mem,List.mem_cons]
   constructor
   ·rintro ((rfl|h)|h)
    ·exact .inr (.inl rfl)
    ·exact .inl h
    ·exact .inr (.inr h)
   ·rintro (h|rfl|h)
    ·exact .inl (.inr h)
    ·exact .inl (.inl rfl)
    ·exact .inr h
theorem SpentAs.apart' {h:Int} {l:List Coin} {xs:List In} {r cs:List Coin} (S:SpentAs h l xs r cs):cs.Pairwise fun c d=>c.p≠d.p:=by
 rw [List.pairwise_iff_getElem]
 intro i j hi hj hij
 have hl:=S.len
 obtain ⟨c,h1,_,h2⟩:=S.fine i xs[i] (List.getElem?_eq_getElem (by omega))
 obtain ⟨d,h3,_,h4⟩:=S.fine j xs[j] (List.getElem?_eq_getElem (by omega))
 rw [List.getElem?_eq_getElem hi] at h1
 rw [List.getElem?_eq_getElem hj] at h3
 injection h1 with h1
 injection h3 with h3
 rw [h1,h3,h2.p,h4.p]
 exact List.pairwise_iff_getElem.1 S.apart i j (by omega) (by omega) hij
theorem SpentAs.from {h:Int} {l:List Coin} {xs:List In} {r cs:List Coin} (S:SpentAs h l xs r cs) {c:Coin} (hc:c ∈ cs):c ∈ l∧∃ x ∈ xs,x.p=c.p:=by
 obtain ⟨i,hi,rfl⟩:=List.getElem_of_mem hc
 have hl:=S.len
 obtain ⟨c,h1,h2,h3⟩:=S.fine i xs[i] (List.getElem?_eq_getElem (by omega))
 rw [List.getElem?_eq_getElem hi] at h1
 injection h1 with h1
 rw [h1]
 exact ⟨h2,_,List.getElem_mem _,h3.p.symm⟩
theorem SpentAs.all {h:Int} {l:List Coin} {xs:List In} {r cs:List Coin} (S:SpentAs h l xs r cs) (hs:z0j l) {c:Coin}:c ∈ l↔c ∈ r∨c ∈ cs:=by
 constructor
 ·intro hc
  by_cases hx:∃ x ∈ xs,x.p=c.p
  ·obtain ⟨x,hx,he⟩:=hx
   obtain ⟨i,hi⟩:=List.getElem?_of_mem hx
   obtain ⟨d,h1,h2,h3⟩:=S.fine i x hi
   have:d=c:=zk5 hs h2 hc (h3.p.trans he)
   subst this
   exact .inr (List.mem_of_getElem? h1)
  ·exact .inl ((S.mem c).2 ⟨hc,fun x hx' he=>hx ⟨x,hx',he⟩⟩)
 ·rintro (hc|hc)
  ·exact ((S.mem c).1 hc).1
  ·exact (S.from hc).1
theorem Done.spentAs {l:List Coin} {t:Tx} {nm h:Int} {r s m:List Coin} (d:Done l t nm h r s m):SpentAs h l t.ins r s:=by
 obtain ⟨cs,e,S⟩:=d.spent.as d.ok.sorted
 rw [List.nil_append] at e
 exact e ▸ S
theorem Done.broughtAs {l:List Coin} {t:Tx} {nm h:Int} {r s m:List Coin} (d:Done l t nm h r s m):BroughtAs nm h (decide ((t.ins.length:Int)=0)) r 0 t.outs m:=d.brought.as d.spentAs.sorted
theorem Done.back {l:List Coin} {t:Tx} {nm h:Int} {r s m:List Coin} (d:Done l t nm h r s m):z6b m t nm s=(l,0):=by
 have S:=d.spentAs
 unfold z6b
 rw [if_neg (by rw [(z0l m).2 d.end_];decide),if_neg (by rw [d.tx];decide),if_neg (by have:=S.len;omega),z00u S.sorted d.brought]
 obtain ⟨q,h1,h2,h3⟩:=z00v (ins:=t.ins) (bad:=zl1) (K:=endR) (cs:=s) (r:=r) (k:=0) S.sorted (fun c hc e he=>by
  obtain ⟨_,x,hx,hxp⟩:=S.from hc
  rw [← hxp]
  exact fun e'=>((S.mem e).1 he).2 x hx e'.symm) S.apart' fun j c hc=>by
   have hj:=(List.getElem?_eq_some_iff.1 hc).1
   have hl:=S.len
   obtain ⟨c',k1,_,k3⟩:=S.fine j t.ins[j] (List.getElem?_eq_getElem (by omega))
   rw [hc] at k1
   injection k1 with k1
   exact ⟨t.ins[j],by rw [Nat.zero_add];exact List.getElem?_eq_getElem (by omega),by rw [k1,k3.p]⟩
 rw [h1]
 have:q=l:=zgp h2 d.ok.sorted fun c=>by rw [h3,S.all d.ok.sorted]
 subst this
 unfold endR
 rw [if_neg (by rw [(z0l q).2 d.ok];decide)]
theorem Done.short {l:List Coin} {t:Tx} {nm h:Int} {r s m:List Coin} (d:Done l t nm h r s m):z4j s:=by
 have S:=d.spentAs
 exact ⟨by have:=S.len;have:=(z7w d.tx).ins;omega,fun c hc=>d.ok.short.2 c (S.from hc).1⟩
theorem z00w {t:Tx} (ok:TxOK t):0<z2j t.outs:=by
 have key:∀ os:List Out,(∀ o ∈ os,1≤o.coin)→(os.length:Int)≤z2j os:=by
  intro os
  induction os with
  | nil=>intro _;simp [z2j]
  | cons o os ih =>
   intro h
   have h1:=h o (List.mem_cons_self ..)
   have h2:=ih fun x hx=>h x (List.mem_cons_of_mem _ hx)
   simp only [z2j,List.map_cons,List.sum_cons,List.length_cons] at h2 ⊢
   omega
 have:=key t.outs fun o ho=>(ok.good o ho).1
 have:=ok.some
 omega
theorem z0c4 {m:List Coin} {p:Point} (ok:CoinsOK m) (h:z39 m p=false):zz6 m p=(z8e,7):=by
 unfold zz6
 rw [if_neg (by rw [(z0l m).2 ok];decide),if_neg (by simp [h])]
theorem Done.gone {l:List Coin} {t:Tx} {nm h:Int} {r s m:List Coin} (d:Done l t nm h r s m) {x:In} (hx:x ∈ t.ins) (hn:x.p.tx≠nm):zz6 m x.p=(z8e,7):=by
 have S:=d.spentAs
 have B:=d.broughtAs
 refine z0c4 d.end_ (hasP_not.2 fun c hc e=>?_)
 rcases (B.mem c).1 hc with hc|⟨j,o,_,rfl⟩
 ·exact ((S.mem c).1 hc).2 x hx e.symm
 ·exact hn (by rw [← e];rfl)
end
section
open Go.RowKit
open Go.Lib (itoa)
set_option maxRecDepth 100000
set_option maxHeartbeats 4000000
def zck (b:Block) (ns:List Int) (l:List Coin) (us:List Undo) (most:Int):List Coin × List Undo × Int :=
 if most < -z1i (b.txs.getD 0 zTx) [] then ([],[],9) else
 if (zr l (b.txs.getD 0 zTx) (ns.getD 0 0) b.height).2.2≠0 then ([],[],(zr l (b.txs.getD 0 zTx) (ns.getD 0 0) b.height).2.2) else
 ((zr l (b.txs.getD 0 zTx) (ns.getD 0 0) b.height).1,us.set 0 ⟨(zr l (b.txs.getD 0 zTx) (ns.getD 0 0) b.height).2.1⟩,0)
def z6l (b:Block) (ns:List Int) (l:List Coin) (us:List Undo) (most:Int) (i:Nat):List Tx→List Coin × List Undo × Int
 | []=>zck b ns l us most
 | t::r=>if (zr l t (ns.getD i 0) b.height).2.2≠0 then ([],[],(zr l t (ns.getD i 0) b.height).2.2) else
  z6l b ns (zr l t (ns.getD i 0) b.height).1 (us.set i ⟨(zr l t (ns.getD i 0) b.height).2.1⟩) (most+z1i t (zr l t (ns.getD i 0) b.height).2.1) (i+1) r
def z20 (k:Book) (l:List Coin) (b:Block):List Coin × List Undo × Int :=
 if zx l≠0 then ([],[],zx l) else
 if (z00 k b).2.2.2≠0 then ([],[],(z00 k b).2.2.2) else
 z6l b (z00 k b).2.2.1 l (List.replicate b.txs.length ⟨[]⟩) (z18 b.height) 1 (b.txs.drop 1)
theorem zmy {k:Book} {b:Block} (h:(z00 k b).2.2.2=0):za b=0∧(z00 k b).2.2.1.length=b.txs.length:=by
 unfold z00 at h ⊢
 by_cases hp:(z0d b).2=0
 ·rw [if_neg (fun k=>k hp)] at h ⊢
  refine ⟨zbi hp,?_⟩
  unfold zac at h ⊢
  by_cases ha:(z0z k (z2v b++[(z0d b).1])).2.2=0
  ·rw [if_neg (fun k=>k ha)]
   have:=zk1 ha
   have h1:(z2v b).length=b.txs.length:=by simp [z2v]
   show (List.take _ _).length=_
   rw [List.length_take,this,List.length_append,h1,List.length_singleton]
   omega
  ·rw [if_pos ha] at h;exact absurd h ha
 ·rw [if_pos hp] at h;exact absurd h hp
theorem z0es {t:Tx} (h:zl t=0):zf6 (t,[]):=by
 have ok:=z7w h
 exact ⟨by simp,by simp,by have:=ok.outs;simp only;omega,fun o ho=>by have:=ok.good o ho;omega⟩
theorem z0hm {t:Tx} (ok:TxOK t):z2j t.outs≤1000000000 * t.outs.length:=by
 have key:∀ os:List Out,(∀ o ∈ os,o.coin≤1000000000)→z2j os≤1000000000 * os.length:=by
  intro os
  induction os with
  | nil=>intro _;simp [z2j]
  | cons o os ih =>
   intro h
   have h1:=h o (List.mem_cons_self ..)
   have h2:=ih fun x hx=>h x (List.mem_cons_of_mem _ hx)
   simp only [z2j,List.map_cons,List.sum_cons,List.length_cons] at h2 ⊢
   omega
 exact key t.outs fun o ho=>(ok.good o ho).2.1
theorem z0hn {t:Tx} (h:zl t=0) : -10000000000≤z1i t []∧z1i t []<0:=by
 have ok:=z7w h
 have h1:=z00w ok
 have h2:=z0hm ok
 have h3:=ok.outs
 rw [zgq]
 simp only [ze]
 omega
theorem zin {l:List Coin} {t:Tx} {nm h:Int} (h0:(zr l t nm h).2.2=0):zf6 (t,(zr l t nm h).2.1) ∧ -10000000000≤z1i t (zr l t nm h).2.1∧z1i t (zr l t nm h).2.1≤10000000000:=by
 obtain ⟨r,d⟩:=z9w h0
 generalize (zr l t nm h).2.1=s at *
 generalize (zr l t nm h).1=m at *
 have ok:=z7w d.tx
 have S:=d.spentAs
 have B:=d.broughtAs
 have h1:=S.total
 have h2:=B.total
 have hl:=d.ok.total
 have hm:=d.end_.total
 have hr:0≤ze r:=zd1 fun c hc=>d.ok.good c ((S.mem c).1 hc).1
 have hs:0≤ze s:=zd1 fun c hc=>d.ok.good c (S.from hc).1
 have ho:=z00w ok
 have hsl:=S.len
 have:=ok.ins
 have:=ok.outs
 refine ⟨⟨by simp only;omega,fun c hc=>by have:=z5d (d.ok.good c (S.from hc).1);omega,by simp only;omega,fun o ho=>by have:=ok.good o ho;omega⟩,?_⟩
 rw [zgq]
 omega
section
variable {sp:Nat→z6} {N:Nat} {E E':Env} {ks:List (List Dt→Option (List Dt))} {res:Option (List Dt)} {k:T}
theorem z0et {a:Atom} {n:Nat} (ha:a.val E=some (I n)) (h:n≤1000):denX sp E (.mkz 1 [.nil 6] a)=some (.l 1 ((List.replicate n (⟨[]⟩:Undo)).map zbr)):=by
 rw [z0j7 (sz:=1) (z:=[.nil 6]) ha (by omega) (by omega) rfl,Int.toNat_natCast,List.map_replicate]
 rfl
theorem zjj {α:Type} {f:α→List Dt} {l:List α} {x y:α} {sz j n:Nat} {m:Int} {a b:Atom} {vs:List Atom} {ds:List Dt} (hm:m.toNat=n) (ha:a.val E=some (.l sz (l.map f))) (hb:b.val E=some (I m)) (hv:vals E vs=some ds) (h0:0≤m) (hs:j+ds.length≤sz) (hx:l[n]? = some x) (hy:z6u (f x) j ds=f y):denX sp E (.set a b j vs)=some (.l sz ((l.set n y).map f)):=by
 subst hm
 exact z0au ha hb hv h0 hs hx hy
end
theorem zdb {α:Type} {l:List α} {i:Nat} (d:α) (h:i<l.length):l[i]? = some (l.getD i d):=by
 rw [List.getD_eq_getElem?_getD,List.getElem?_eq_getElem h]
 rfl
def zmz (b:Block) (ns:List Int) (us:List Undo) (l:List Coin):Nat→List Coin × Int
 | 0=>(l,0)
 | i+1=>if (z6b l (b.txs.getD (i+1) zTx) (ns.getD (i+1) 0) (us.getD (i+1) ⟨[]⟩).spent).2≠0 then ([],(z6b l (b.txs.getD (i+1) zTx) (ns.getD (i+1) 0) (us.getD (i+1) ⟨[]⟩).spent).2) else
  zmz b ns us (z6b l (b.txs.getD (i+1) zTx) (ns.getD (i+1) 0) (us.getD (i+1) ⟨[]⟩).spent).1 i
def z088 (k:Book) (l:List Coin) (b:Block) (us:List Undo):List Coin × Int :=
 if zx l≠0 then ([],zx l) else
 if (z00 k b).2.2.2≠0 then ([],(z00 k b).2.2.2) else
 if (us.length:Int)≠b.txs.length then ([],4) else
 if (z6b l (b.txs.getD 0 zTx) ((z00 k b).2.2.1.getD 0 0) (us.getD 0 ⟨[]⟩).spent).2≠0 then ([],(z6b l (b.txs.getD 0 zTx) ((z00 k b).2.2.1.getD 0 0) (us.getD 0 ⟨[]⟩).spent).2) else
 zmz b (z00 k b).2.2.1 us (z6b l (b.txs.getD 0 zTx) ((z00 k b).2.2.1.getD 0 0) (us.getD 0 ⟨[]⟩).spent).1 (b.txs.length - 1)
noncomputable def z59:z6:=spD (fun _:Book × List Coin × Block=>True) fun x=>z20 x.1 x.2.1 x.2.2
theorem zl4 (k:Book) (l:List Coin) (b:Block):z59 [.l 1 (k.texts.map z06),.l 6 (l.map zj),I b.parent,I b.height,I b.work,I b.nonce,.l 3 (b.txs.map eTx)]=some [.l 6 ((z20 k l b).1.map zj),.l 1 ((z20 k l b).2.1.map zbr),I (z20 k l b).2.2]:=zb (f:=fun x:Book × List Coin × Block=>z20 x.1 x.2.1 x.2.2) (k,l,b) trivial
def z6c (us:List Undo):Prop:=∀ u ∈ us,z4j u.spent
theorem z0c5:z4j []:=⟨by simp,by simp⟩
theorem z00x (n:Int):0≤z18 n∧z18 n≤1000:=by
 have h:=zie n
 exact h
attribute [local irreducible] den denX z1c z1n
attribute [local irreducible] z0o spD zr z6b z1i z00 zx z18
def zox:T :=
 .lets [.call 13 [.v 35,.v 36,.v 37,.v 38] 0] [] (.lets [.bin .add (.v 22) (.v 39)] [] (.lets [.bin .add (.v 23) (.c (.i .i64 1))] [] (.again 0 [.v 30,.v 19,.v 33,.v 32,.v 40,
 .v 41])))
def zoy:T :=
 .lets [.idx (.v 6) (.v 23) 0,.idx (.v 6) (.v 23) 1,.idx (.v 6) (.v 23) 2] [] (.lets [] [.inr 1 (.v 33) (.v 23)] (.lets [.idx (.v 33) (.v 23) 0] [] zox))
def zoz:T :=
 .lets [.set (.v 20) (.v 23) 0 [.v 31]] [] (.lets [.bin .neq (.v 32) (.c (.i .i64 0))] [] (.ite (.v 34) (.ret [.c (.nil 6),.c (.nil 1),.v 32]) (.lets [] [.inr 3 (.v 6) (.v 23)]
 zoy)))
def zp0:T :=
 .lets [.call 18 [.v 18,.v 26,.v 27,.v 28,.v 29,.v 3] 0,.call 18 [.v 18,.v 26,.v 27,.v 28,.v 29,.v 3] 1,.call 18 [.v 18,.v 26,.v 27,.v 28,.v 29,.v 3] 2] [] (.lets []
 [.inr 1 (.v 20) (.v 23)] zoz)
def zp1:T :=
 .lets [.idx (.v 6) (.v 23) 0,.idx (.v 6) (.v 23) 1,.idx (.v 6) (.v 23) 2] [] (.lets [] [.inr 1 (.v 11) (.v 23)] (.lets [.idx (.v 11) (.v 23) 0] [] zp0))
def zp2:T :=
 .lets [.set (.v 20) (.c (.i .i64 0)) 0 [.v 37]] [] (.lets [.bin .neq (.v 38) (.c (.i .i64 0))] [] (.ite (.v 40) (.ret [.c (.nil 6),.c (.nil 1),.v 38]) (.ret [.v 36,.v 39,.c (.i
 .i64 0)])))
def zp3:T :=
 .lets [.call 18 [.v 18,.v 32,.v 33,.v 34,.v 35,.v 3] 0,.call 18 [.v 18,.v 32,.v 33,.v 34,.v 35,.v 3] 1,.call 18 [.v 18,.v 32,.v 33,.v 34,.v 35,.v 3] 2] [] (.lets []
 [.inr 1 (.v 20) (.c (.i .i64 0))] zp2)
def zp4:T :=
 .lets [.idx (.v 6) (.c (.i .i64 0)) 0,.idx (.v 6) (.c (.i .i64 0)) 1,.idx (.v 6) (.c (.i .i64 0)) 2] [] (.lets [] [.inr 1 (.v 11) (.c (.i .i64 0))] (.lets [.idx (.v 11) (.c (.i
 .i64 0)) 0] [] zp3))
def zp5:T :=
 .lets [.neg (.v 29)] [] (.lets [.bin .gtr (.v 30) (.v 22)] [] (.ite (.v 31) (.ret [.c (.nil 6),.c (.nil 1),.c (.i .i64 9)]) (.lets [] [.inr 3 (.v 6) (.c (.i .i64 0))]
 zp4)))
def zp6:T :=
 .lets [.idx (.v 6) (.c (.i .i64 0)) 0,.idx (.v 6) (.c (.i .i64 0)) 1,.idx (.v 6) (.c (.i .i64 0)) 2] [] (.lets [.call 13 [.v 26,.v 27,.v 28,.c (.nil 6)] 0] [] zp5)
def zn0:T :=
 .lets [.len (.v 6)] [] (.lets [.bin .lss (.v 23) (.v 24)] [] (.ite (.v 25) (.lets [] [.inr 3 (.v 6) (.v 23)] zp1) (.lets [] [.inr 3 (.v 6) (.c (.i .i64 0))]
 zp6)))
def zn1:T :=
 .lets [.call 74 [.v 3] 0,.call 74 [.v 3] 1] [] (.lets [.len (.v 6)] [] (.lets [.mkz 1 [.nil 6] (.v 16)] [] (.loop [.v 1,.c (.nil 6),.v 17,.v 12,.v 14,.c (.i .i64 1)]
 zn0)))
def zn2:T :=
 .lets [.call 73 [.v 0,.v 2,.v 3,.v 4,.v 5,.v 6] 0,.call 73 [.v 0,.v 2,.v 3,.v 4,.v 5,.v 6] 1,.call 73 [.v 0,.v 2,.v 3,.v 4,.v 5,.v 6] 2,.call 73 [.v 0,.v 2,.v 3,
 .v 4,.v 5,.v 6] 3] [] (.lets [.bin .neq (.v 12) (.c (.i .i64 0))] [] (.ite (.v 13) (.ret [.c (.nil 6),.c (.nil 1),.v 12]) zn1))
def zdc:T :=
 .lets [.call 8 [.v 1] 0] [] (.lets [.bin .neq (.v 7) (.c (.i .i64 0))] [] (.ite (.v 8) (.ret [.c (.nil 6),.c (.nil 1),.v 7]) zn2))
attribute [local irreducible] z3y z3k z5i z36 z5p
theorem z00y:Meets Tryz.prog z59 59 ⟨[.agg 1,.one,.agg 5],[(false,[.pure]),(false,[.pure]),(false,[.scal])],false⟩:=by
 refine z9 (sp:=(z05 [(8,z36),(13,z5p),(18,z5i),(73,z3y),(74,z3k)])) (sigs:=z08) (cut:=[]) (hints:=[⟨10,[.t 1,.r 6 102 6,.r 7 207 1,.t 8,.t 13,.t 15,.z 41]⟩]) (fn:=Tryz.f59) (t:=zdc) (by kernel_rfl) (by kernel_rfl) (by kernel_rfl) ?_ ?_
 ·exact (zq (L:=[(8,z36),(13,z5p),(18,z5i),(73,z3y),(74,z3k)]) ⟨z5 rfl zdx,z5 rfl zol,z5 rfl zrp,z5 rfl zmo,z5 rfl zif,trivial⟩)
 ·rintro ds rs hok h
  obtain ⟨⟨k,l,b⟩,-,rfl,rfl⟩:=zd h
  clear h
  refine ⟨⟨100,?_⟩,z1d ⟨rfl,trivial⟩⟩
  show den _ _ zdc [.l 1 (k.texts.map z06),.l 6 (l.map zj),I b.parent,I b.height,I b.work,I b.nonce,.l 3 (b.txs.map eTx)] []=ret (z20 k l b)
  have a1:=z57 l
  have a2:=zf9 k b
  have a3:=zd4 b.height
  have hnm:=zmy (k:=k) (b:=b)
  have hrw:0≤z18 b.height∧z18 b.height≤1000:=z00x b.height
  unfold zdc z20
  generalize z00 k b=nm at *
  obtain ⟨tx,n0,ns,e⟩:=nm
  generalize z18 b.height=rw0 at *
  simp only at *
  by_cases hc:zx l=0
  rotate_left
  ·repeat' (first|refine dq1 ?_|refine dqk rfl (a1) ?_|exact z4 rfl rfl|refine tR (fun h=>?_) fun h=>?_|fail)
   all_goals (exfalso;omega)
  by_cases he:e=0
  rotate_left
  ·repeat' (first|refine dq1 ?_|refine dqk rfl (a1) ?_|refine dqK rfl (a2) ?_|exact z4 rfl rfl|refine tR (fun h=>?_) fun h=>?_|fail)
   all_goals (exfalso;omega)
  obtain ⟨hb,hnl⟩:=hnm he
  have ok:=z3w hb
  have hl4:=ok.len
  have hl1:=ok.some
  subst he
  repeat' (first|refine dq1 ?_|refine dqk rfl (a1) ?_|refine dqK rfl (a2) ?_|refine dqK rfl (a3) ?_|refine z7 (z0et rfl (by omega)) ?_|exact z4 rfl rfl|refine tR (fun h=>?_) fun h=>?_|fail)
  have hdl:(b.txs.drop 1).length=b.txs.length - 1:=by simp
  (refine z0c (fun (a:List Coin × List Undo × Int) k=>[.l 6 (a.1.map zj),.l 6 [],.l 1 (a.2.1.map zbr),I 0,I a.2.2,I (k+1)]) (fun (a:List Coin × List Undo × Int) k (r:List Tx)=>z6l b ns a.1 a.2.1 a.2.2 (k+1) r) (fun a k=>a.2.1.length=b.txs.length ∧ -(10000000000 * ((k:Int)+1))≤a.2.2∧a.2.2≤10000000000 * ((k:Int)+1)) (l,List.replicate b.txs.length ⟨[]⟩,rw0) (b.txs.drop 1) ?_ ?_ ?_ ?_ ?_;rfl;exact ⟨by simp,by simp only;omega,by simp only;omega⟩;omega)
  ·rintro ⟨l,us,most⟩ i x r hx hd hk ⟨hu,m1,m2⟩ again hag
   simp only at hu m1 m2 hag ⊢
   have hx':b.txs[((i:Int)+1).toNat]? = some x:=by
    rw [show ((i:Int)+1).toNat=1+i by omega,← List.getElem?_drop];exact hx
   have hn':ns[((i:Int)+1).toNat]? = some (ns.getD (i+1) 0):=by
    rw [show ((i:Int)+1).toNat=i+1 by omega];exact zdb 0 (by omega)
   have hu':us[i+1]? = some (us.getD (i+1) ⟨[]⟩):=zdb _ (by omega)
   rw [z6l]
   have a4:=zbl l x (ns.getD (i+1) 0) b.height
   have hfee:=zin (l:=l) (t:=x) (nm:=ns.getD (i+1) 0) (h:=b.height)
   generalize ns.getD (i+1) 0=nm at *
   generalize us.getD (i+1) ⟨[]⟩=u0 at *
   generalize zr l x nm b.height=q at *
   obtain ⟨l2,sp,f⟩:=q
   simp only at a4 hfee ⊢
   by_cases hf:f=0
   ·obtain ⟨hd1,hd2,hd3⟩:=hfee hf
    subst hf
    rw [if_neg (fun h=>h rfl)]
    have a5:=zaq x sp hd1
    have hs1:(us.set (i+1) (⟨sp⟩:Undo))[((i:Int)+1).toNat]? = some ⟨sp⟩:=by
     rw [show ((i:Int)+1).toNat=i+1 by omega];exact List.getElem?_set_self (by omega)
    have hsl:(us.set (i+1) (⟨sp⟩:Undo)).length=us.length:=List.length_set ..
    generalize z1i x sp=fe at *
    repeat' (first|refine dq1 ?_|refine dqc ?_|refine dqm ?_|refine dqK rfl (a4) ?_|refine dqk rfl (a5) ?_|refine z7 (zjj (n:=i+1) (x:=u0) (y:=⟨sp⟩) (by omega) rfl rfl rfl (by omega) (Nat.le_refl _) hu' rfl) ?_|refine dqT ?_|refine dqF ?_|fail)
    exact zm rfl rfl (hag (l2,us.set (i+1) ⟨sp⟩,most+fe) ⟨by simpa using hu,by simp only;omega,by simp only;omega⟩)
   ·rw [if_pos hf]
    repeat' (first|refine dq1 ?_|refine dqc ?_|refine dqm ?_|refine dqK rfl (a4) ?_|refine z7 (zjj (n:=i+1) (x:=u0) (y:=⟨sp⟩) (by omega) rfl rfl rfl (by omega) (Nat.le_refl _) hu' rfl) ?_|exact z4 rfl rfl|refine dqT ?_|fail)
  ·rintro ⟨l,us,most⟩ ⟨hu,m1,m2⟩ again
   simp only at hu m1 m2 ⊢
   have ht0:b.txs[(0:Int).toNat]? = some (b.txs.getD 0 zTx):=zdb _ hl1
   have hn0:ns[(0:Int).toNat]? = some (ns.getD 0 0):=zdb _ (by omega)
   have hu0:us[0]? = some (us.getD 0 ⟨[]⟩):=zdb _ (by omega)
   have e0:z6l b ns l us most ((b.txs.drop 1).length+1) []=zck b ns l us most:=by rw [z6l]
   rw [e0]
   unfold zck
   have hct:=ok.each (b.txs.getD 0 zTx) (List.mem_of_getElem? ht0)
   obtain ⟨f1,f2⟩:=z0hn hct
   have a5:=zaq (b.txs.getD 0 zTx) [] (z0es hct)
   have a4:=zbl l (b.txs.getD 0 zTx) (ns.getD 0 0) b.height
   generalize b.txs.getD 0 zTx=t0 at *
   generalize ns.getD 0 0=nm at *
   generalize us.getD 0 ⟨[]⟩=u0 at *
   generalize z1i t0 []=fe at *
   generalize zr l t0 nm b.height=q at *
   obtain ⟨l2,sp,f⟩:=q
   simp only at a4 ⊢
   repeat' (first|refine dq1 ?_|refine dqc ?_|refine dqm ?_|refine dqK rfl (a4) ?_|refine dqk rfl (a5) ?_|refine z7 (zjj (n:=0) (x:=u0) (y:=⟨sp⟩) rfl rfl rfl rfl (by omega) (Nat.le_refl _) hu0 rfl) ?_|exact z4 rfl rfl|refine tR (fun h=>?_) fun h=>?_|refine dqF ?_|fail)
end
section
open Go.RowKit
open Go.Lib (itoa)
set_option maxRecDepth 100000
set_option maxHeartbeats 4000000
def z2w (k:Book) (t:Tree) (n:Int):List Int × Int:=if zf k≠0 then ([],zf k) else z3x t n
def z0w (k:Book) (t:Tree):List Coin→List Int→List Coin × Int
 | l,[]=>(l,0)
 | l,n::r=>if (z20 k l (z0h t n)).2.2≠0 then ([],(z20 k l (z0h t n)).2.2) else z0w k t (z20 k l (z0h t n)).1 r
def z8 (k:Book) (t:Tree) (n:Int):List Coin × Int:=if (z2w k t n).2≠0 then ([],(z2w k t n).2) else z0w k t [] (z2w k t n).1
def z0fp:List Int→List Int→Nat
 | a::x,b::y=>if a=b then z0fp x y+1 else 0
 | _,_=>0
theorem zn3 (n:Nat):z6c (List.replicate n ⟨[]⟩):=fun u hu=>by
 rw [(List.mem_replicate.1 hu).2]
 exact z0c5
theorem zrq {us:List Undo} (h:z6c us) {s:List Coin} (hs:z4j s) (i:Nat):z6c (us.set i ⟨s⟩):=fun u hu=>by
 rcases List.mem_or_eq_of_mem_set hu with hu|rfl
 ·exact h u hu
 ·exact hs
theorem zk6 {l:List Coin} {t:Tx} {nm h:Int} (h0:(zr l t nm h).2.2=0):z4j (zr l t nm h).2.1:=(z9w h0).choose_spec.short
theorem zio (b:Block) (ns:List Int):∀ (r:List Tx) (l:List Coin) (us:List Undo) (most:Int) (i:Nat),z6c us→z6c (z6l b ns l us most i r).2.1
 | [],l,us,most,i,h=>by
  rw [z6l]
  unfold zck
  split
  ·exact fun u hu=>by cases hu
  split
  ·exact fun u hu=>by cases hu
  ·rename_i h1
   exact zrq h (zk6 (Decidable.not_not.1 h1)) 0
 | t::r,l,us,most,i,h=>by
  rw [z6l]
  split
  ·exact fun u hu=>by cases hu
  ·rename_i h1
   exact zio b ns r _ _ _ _ (zrq h (zk6 (Decidable.not_not.1 h1)) i)
theorem z00z (k:Book) (l:List Coin) (b:Block):z6c (z20 k l b).2.1:=by
 unfold z20
 split
 ·exact fun u hu=>by cases hu
 split
 ·exact fun u hu=>by cases hu
 ·exact zio _ _ _ _ _ _ _ (zn3 _)
section
variable {α:Type} {f:α→List Dt} {sp:Nat→z6} {E:Env}
end
attribute [local irreducible] den denX z1c z1n
attribute [local irreducible] z0o spD z20 z088 z0h z3x zf z0fp
noncomputable def zc5:z6:=spD (fun _:Book × Tree × Int=>True) fun x=>z2w x.1 x.2.1 x.2.2
theorem ztp (k:Book) (t:Tree) (n:Int):zc5 [.l 1 (k.texts.map z06),.l 1 (t.names.map zg),.l 5 (t.blocks.map zi),I n]=some [.l 1 ((z2w k t n).1.map zg),I (z2w k t n).2]:=zb (f:=fun x:Book × Tree × Int=>z2w x.1 x.2.1 x.2.2) (k,t,n) trivial
noncomputable def zc6:z6:=spD (fun _:Book × Tree × List Coin × List Int=>True) fun x=>z0w x.1 x.2.1 x.2.2.1 x.2.2.2
theorem ztq (k:Book) (t:Tree) (l:List Coin) (r:List Int):zc6 [.l 1 (k.texts.map z06),.l 1 (t.names.map zg),.l 5 (t.blocks.map zi),.l 6 (l.map zj),.l 1 (r.map zg)]=some [.l 6 ((z0w k t l r).1.map zj),I (z0w k t l r).2]:=zb (f:=fun x:Book × Tree × List Coin × List Int=>z0w x.1 x.2.1 x.2.2.1 x.2.2.2) (k,t,l,r) trivial
noncomputable def z1q:z6:=spD (fun _:Book × Tree × Int=>True) fun x=>z8 x.1 x.2.1 x.2.2
theorem z5a (k:Book) (t:Tree) (n:Int):z1q [.l 1 (k.texts.map z06),.l 1 (t.names.map zg),.l 5 (t.blocks.map zi),I n]=some [.l 6 ((z8 k t n).1.map zj),I (z8 k t n).2]:=zb (f:=fun x:Book × Tree × Int=>z8 x.1 x.2.1 x.2.2) (k,t,n) trivial
def z042:T :=
 .lets [.bin .neq (.v 4) (.c (.i .i64 0))] [] (.ite (.v 5) (.ret [.c (.nil 1),.v 4]) (.lets [.call 88 [.v 1,.v 2,.v 3] 0,.call 88 [.v 1,.v 2,.v 3] 1] [] (.ret [.v 6,.v 7])))
def zip:T :=
 .lets [.call 70 [.v 0] 0] [] z042
def z043:T :=
 .lets [.bin .neq (.v 20) (.c (.i .i64 0))] [] (.ite (.v 21) (.ret [.c (.nil 6),.v 20]) (.lets [.bin .add (.v 9) (.c (.i .i64 1))] [] (.again 0 [.v 6,.v 7,.v 18,.v 22])))
def z044:T :=
 .lets [.call 75 [.v 0,.v 8,.v 12,.v 13,.v 14,.v 15,.v 16] 0,.call 75 [.v 0,.v 8,.v 12,.v 13,.v 14,.v 15,.v 16] 1,.call 75 [.v 0,.v 8,.v 12,.v 13,.v 14,.v 15,.v
 16] 2] [] z043
def z045:T :=
 .lets [.call 89 [.v 1,.v 2,.v 11] 0,.call 89 [.v 1,.v 2,.v 11] 1,.call 89 [.v 1,.v 2,.v 11] 2,.call 89 [.v 1,.v 2,.v 11] 3,.call 89 [.v 1,.v 2,.v 11] 4,.call 89 [.v
 1,.v 2,.v 11] 5] [] z044
def z046:T :=
 .loop [.c (.nil 6),.c (.i .i64 0),.v 3,.c (.i .i64 0)] (.lets [.bin .lss (.v 9) (.v 5)] [] (.ite (.v 10) (.lets [] [.inr 1 (.v 4) (.v 9)] (.lets [.idx (.v 4) (.v 9) 0] []
 z045)) (.ret [.v 8,.c (.i .i64 0)])))
def ziq:T :=
 .lets [.len (.v 4)] [] z046
def z047:T :=
 .ite (.v 6) (.ret [.c (.nil 6),.v 5]) (.lets [.call 95 [.v 0,.v 1,.v 2,.c (.nil 6),.v 4] 0,.call 95 [.v 0,.v 1,.v 2,.c (.nil 6),.v 4] 1] [] (.ret [.v 7,.v 8]))
def zir:T :=
 .lets [.call 94 [.v 0,.v 1,.v 2,.v 3] 0,.call 94 [.v 0,.v 1,.v 2,.v 3] 1] [] (.lets [.bin .neq (.v 5) (.c (.i .i64 0))] [] z047)
attribute [local irreducible] z25 z4r
theorem z0c6:Meets Tryz.prog zc5 151 ⟨[.agg 1,.agg 2,.one],[(false,[.pure]),(false,[.scal])],false⟩:=by
 refine z9 (sp:=(z05 [(70,z25),(88,z4r)])) (sigs:=z08) (cut:=[]) (hints:=[]) (fn:=Tryz.f151) (t:=zip) (by kernel_rfl) (by kernel_rfl) (by kernel_rfl) ?_ ?_
 ·exact (zq (L:=[(70,z25),(88,z4r)]) ⟨z5 rfl zef,z5 rfl zmt,trivial⟩)
 ·rintro ds rs - h
  obtain ⟨⟨k,t,n⟩,-,rfl,rfl⟩:=zd h
  clear h
  refine ⟨⟨1,?_⟩,z1d ⟨rfl,trivial⟩⟩
  show den _ _ zip [.l 1 (k.texts.map z06),.l 1 (t.names.map zg),.l 5 (t.blocks.map zi),I n] []=ret (z2w k t n)
  unfold zip z2w
  repeat' (first|refine dq1 ?_|refine dqk rfl (z9q k) ?_|refine dqK rfl (zfd t n) ?_|exact z4 rfl rfl|refine tR (fun h=>?_) fun h=>?_|fail)
attribute [local irreducible] z59 z1m
theorem z0c7:Meets Tryz.prog zc6 152 ⟨[.agg 1,.agg 2,.one,.one],[(false,[.pure]),(false,[.scal])],false⟩:=by
 refine z9 (sp:=(z05 [(75,z59),(89,z1m)])) (sigs:=z08) (cut:=[]) (hints:=[⟨2,[.r 8 102 6,.t 9,.t 2,.t 19]⟩]) (fn:=Tryz.f152) (t:=ziq) (by kernel_rfl) (by kernel_rfl) (by kernel_rfl) ?_ ?_
 ·exact (zq (L:=[(75,z59),(89,z1m)]) ⟨z5 rfl z00y,z5 rfl zas,trivial⟩)
 ·rintro ds rs hok h
  obtain ⟨⟨k,t,l,r⟩,-,rfl,rfl⟩:=zd h
  clear h
  have hll:=zkv (hok (.l 1 (r.map zg)) (List.mem_append_right _ (List.mem_append_right _ (List.mem_append_right _ (List.mem_singleton.2 rfl)))))
  refine ⟨⟨r.length+1,?_⟩,z1d ⟨rfl,trivial⟩⟩
  show den _ _ ziq [.l 1 (k.texts.map z06),.l 1 (t.names.map zg),.l 5 (t.blocks.map zi),.l 6 (l.map zj),.l 1 (r.map zg)] []=ret (z0w k t l r)
  unfold ziq
  repeat' (first|refine dq1 ?_|fail)
  (refine z0c (fun (l:List Coin) k=>[.l 6 [],I 0,.l 6 (l.map zj),I k]) (fun (l:List Coin) _ (r:List Int)=>z0w k t l r) (fun _ _=>True) l r ?_ ?_ ?_ ?_ ?_;rfl;exact trivial;omega)
  ·rintro l i n r hx hd hk - again hag
   have a1:=z70 t n
   have a2:=zl4 k l (z0h t n)
   rw [z0w]
   have hag':=hag (z20 k l (z0h t n)).1 trivial
   generalize z20 k l (z0h t n)=q at *
   obtain ⟨l2,us,e⟩:=q
   generalize z0h t n=b at *
   simp only at *
   repeat' (first|refine dq1 ?_|refine dqc ?_|refine dqK rfl (a1) ?_|refine dqK rfl (a2) ?_|exact z4 rfl rfl|refine tR (fun h=>?_) fun h=>?_|refine dqT ?_|fail)
   exact zm rfl rfl hag'
  ·rintro l - again
   rw [z0w]
   repeat' (first|refine dq1 ?_|exact z4 rfl rfl|refine dqF ?_|fail)
theorem zb7:Meets Tryz.prog z1q 74 ⟨[.agg 1,.agg 2,.one],[(false,[.pure]),(false,[.scal])],false⟩:=by
 refine z9 (sp:=(z05 [(94,zc5),(95,zc6)])) (sigs:=z08) (cut:=[]) (hints:=[]) (fn:=Tryz.f74) (t:=zir) (by kernel_rfl) (by kernel_rfl) (by kernel_rfl) ?_ ?_
 ·exact (zq (L:=[(94,zc5),(95,zc6)]) ⟨z5 rfl z0c6,z5 rfl z0c7,trivial⟩)
 ·rintro ds rs - h
  obtain ⟨⟨k,t,n⟩,-,rfl,rfl⟩:=zd h
  clear h
  refine ⟨⟨1,?_⟩,z1d ⟨rfl,trivial⟩⟩
  show den _ _ zir [.l 1 (k.texts.map z06),.l 1 (t.names.map zg),.l 5 (t.blocks.map zi),I n] []=ret (z8 k t n)
  have a1:=ztp k t n
  have a2:=ztq k t [] (z2w k t n).1
  unfold zir z8
  generalize z2w k t n=q at *
  obtain ⟨r,e⟩:=q
  simp only at *
  repeat' (first|refine dq1 ?_|refine dqK rfl (a1) ?_|refine dqK rfl (a2) ?_|exact z4 rfl rfl|refine tR (fun h=>?_) fun h=>?_|fail)
end
section
open Go.RowKit
open Go.Lib (itoa)
set_option maxRecDepth 100000
set_option maxHeartbeats 4000000
attribute [local irreducible] den denX z1c z1n
theorem z0js (a b:Block):(if a.parent=b.parent then if a.height=b.height then if a.work=b.work then if a.nonce=b.nonce then decide (a.txs=b.txs) else false else false else false else false)=decide (a=b):=by
 cases a;cases b
 simp only [Block.mk.injEq,Bool.decide_and]
 split <;> rename_i h1 <;> simp only [h1,decide_true,decide_false,Bool.true_and,Bool.false_and]
 split <;> rename_i h2 <;> simp only [h2,decide_true,decide_false,Bool.true_and,Bool.false_and]
 split <;> rename_i h3 <;> simp only [h3,decide_true,decide_false,Bool.true_and,Bool.false_and]
 split <;> rename_i h4 <;> simp only [h4,decide_true,decide_false,Bool.true_and,Bool.false_and]
noncomputable def zjk:z6:=spD (fun _:List Tx × List Tx=>True) fun x=>decide (x.1=x.2)
theorem z089 (l m:List Tx):zjk [.l 3 (l.map eTx),.l 3 (m.map eTx)]=some [.b (decide (l=m))]:=zb (f:=fun x:List Tx × List Tx=>decide (x.1=x.2)) (l,m) trivial
noncomputable def z5j:z6:=spD (fun _:Block × Block=>True) fun x=>decide (x.1=x.2)
theorem zh4 (a b:Block):z5j [I a.parent,I a.height,I a.work,I a.nonce,.l 3 (a.txs.map eTx),I b.parent,I b.height,I b.work,I b.nonce,.l 3 (b.txs.map eTx)]=some [.b (decide (a=b))]:=zb (f:=fun x:Block × Block=>decide (x.1=x.2)) (a,b) trivial
theorem ztr (x y:Tx):z4p [I x.height,.l 3 (x.ins.map eIn),.l 2 (x.outs.map z1x),I y.height,.l 3 (y.ins.map eIn),.l 2 (y.outs.map z1x)]=some [.b (decide (x=y))]:=zib x y
attribute [local irreducible] z0o spD
def z0eu:T :=
 .lets [.call 69 [.v 9,.v 10,.v 11,.v 12,.v 13,.v 14] 0] [] (.lets [.not (.v 15)] [] (.ite (.v 16) (.ret [.c (.b false)]) (.lets [.bin .add (.v 7) (.c (.i .i64 1))] [] (.again 0
 [.v 6,.v 17]))))
def z0ev:T :=
 .lets [.idx (.v 0) (.v 7) 0,.idx (.v 0) (.v 7) 1,.idx (.v 0) (.v 7) 2] [] (.lets [] [.inr 3 (.v 1) (.v 7)] (.lets [.idx (.v 1) (.v 7) 0,.idx (.v 1) (.v 7) 1,.idx (.v 1) (.v 7)
 2] [] z0eu))
def z0ew:T :=
 .lets [.len (.v 0)] [] (.loop [.c (.b false),.c (.i .i64 0)] (.lets [.bin .lss (.v 7) (.v 5)] [] (.ite (.v 8) (.lets [] [.inr 3 (.v 0) (.v 7)] z0ev) (.ret [.c (.b true)]))))
def z010:T :=
 .lets [.len (.v 0)] [] (.lets [.len (.v 1)] [] (.lets [.bin .neq (.v 2) (.v 3)] [] (.ite (.v 4) (.ret [.c (.b false)]) z0ew)))
def z048:T :=
 .ite (.v 12) (.lets [.bin .eql (.v 3) (.v 8)] [] (.ite (.v 13) (.lets [.call 76 [.v 4,.v 9] 0] [] (.ret [.v 14])) (.ret [.c (.b false)]))) (.ret [.c (.b false)])
def zis:T :=
 .lets [.bin .eql (.v 0) (.v 5)] [] (.ite (.v 10) (.lets [.bin .eql (.v 1) (.v 6)] [] (.ite (.v 11) (.lets [.bin .eql (.v 2) (.v 7)] [] z048) (.ret [.c (.b false)]))) (.ret
 [.c (.b false)]))
attribute [local irreducible] z4p
theorem z0jt:Meets Tryz.prog zjk 61 ⟨[.one,.one,.clos 62 []],[(false,[.scal])],true⟩:=by
 refine z9 (sp:=(z05 [(69,z4p)])) (sigs:=z08) (cut:=[]) (hints:=[⟨4,[.t 6,.t 17]⟩]) (fn:=Tryz.f61) (t:=z010) (by kernel_rfl) (by kernel_rfl) (by kernel_rfl) ?_ ?_
 ·exact (zq (L:=[(69,z4p)]) ⟨z5 rfl zz9,trivial⟩)
 ·rintro ds rs hok h
  obtain ⟨⟨l,m⟩,-,rfl,rfl⟩:=zd h
  clear h
  have hll:=zkv (hok (.l 3 (l.map eTx)) (List.mem_cons_self ..))
  refine ⟨⟨l.length+1,?_⟩,z0a rfl⟩
  show den _ _ z010 [.l 3 (l.map eTx),.l 3 (m.map eTx)] []=ret (decide (l=m))
  rw [zb3]
  unfold z010
  repeat' (first|refine dq1 ?_|exact z4 rfl rfl|refine tR (fun h=>?_) fun h=>?_|fail)
  have hlm:l.length=m.length:=by omega
  (refine z0c (fun (_:Unit) k=>[.b false,I k]) (fun (_:Unit) k (r:List Tx)=>decide (r=m.drop k)) (fun _ _=>True) () l ?_ ?_ ?_ ?_ ?_;rfl;exact trivial;exact Nat.lt_succ_self _)
  ·rintro _ k x r hx hd hk - again hag
   have hy:m[k]? = some (m[k]'(by omega)):=List.getElem?_eq_getElem (by omega)
   have hdy:m.drop k=m[k]'(by omega)::m.drop (k+1):=List.drop_eq_getElem_cons (by omega)
   rw [hdy]
   generalize m[k]'(by omega)=y at *
   have e:decide (x::r=y::m.drop (k+1))=if decide (x=y)=true then decide (r=m.drop (k+1)) else false:=by
    by_cases h:x=y
    ·simp [h]
    ·simp [h]
   rw [e]
   have hkm:k<m.length:=by omega
   repeat' (first|refine dq1 ?_|refine dqc ?_|refine dqm ?_|refine dqk rfl (ztr x y) ?_|exact z4 rfl rfl|exact zm rfl rfl (hag () trivial)|refine tN (fun h=>?_) fun h=>?_|refine dqT ?_|fail)
  ·rintro _ - again
   rw [hlm,List.drop_length]
   repeat' (first|refine dq1 ?_|exact z4 rfl rfl|refine dqF ?_|fail)
theorem zrr:Meets Tryz.prog z5j 16 ⟨[.agg 5,.agg 5],[(false,[.scal])],true⟩:=by
 refine z9 (sp:=(z05 [(76,zjk)])) (sigs:=z08) (cut:=[]) (hints:=[]) (fn:=Tryz.f16) (t:=zis) (by kernel_rfl) (by kernel_rfl) (by kernel_rfl) ?_ ?_
 ·exact (zq (L:=[(76,zjk)]) ⟨z5 rfl z0jt,trivial⟩)
 ·rintro ds rs - h
  obtain ⟨⟨a,b⟩,-,rfl,rfl⟩:=zd h
  clear h
  refine ⟨⟨1,?_⟩,z0a rfl⟩
  show den _ _ zis [I a.parent,I a.height,I a.work,I a.nonce,.l 3 (a.txs.map eTx),I b.parent,I b.height,I b.work,I b.nonce,.l 3 (b.txs.map eTx)] []=ret (decide (a=b))
  rw [← z0js]
  unfold zis
  repeat' (first|refine dq1 ?_|refine dqk rfl (z089 _ _) ?_|exact z4 rfl rfl|refine tR (fun h=>?_) fun h=>?_|fail)
deriving instance DecidableEq for Undo
attribute [local irreducible] z0d z00 z20 z1v z3y z59
attribute [local irreducible] z8w
end
end Go.Proofs.YtgkfhlnklienoaaGreatDoor
