/- Own texts, put together by wip/bundle.py: VB3, VT3, VS2, VS3, VL7, VS4, VB4, VU3, VU4, VB5, VC0, VEr, VC1, VB6, VU7, VRow, VDel, VIns, VU8, VU9, VPU, VPB, VC2, VC3, VC5, VC6, VR2, VR3. -/
import Derived.Lib.FieldsLaws
import Derived.Laws.IdiomCopy
import Derived.Lib.AppendZerosOnto
import Derived.Deep.RegionLaw
import Derived.Lib.Hide
import Derived.Laws.Externs
import Derived.Laws.NewBlocks
import Derived.Test.YtnklncinjahckaaGreatDoorCPOwnB
import Derived.Test.YtnklncinjahckaaGreatDoorCPOwnC
import Derived.Test.YtnklncinjahckaaGreatDoorCPOwnR
import Derived.Test.YtnklncinjahckaaGreatDoorCPOwnS
import Derived.Test.YtnklncinjahckaaGreatDoorCPOwnV2
import Derived.Test.YtnklncinjahckaaGreatDoorCPOwnZ1
set_option linter.unusedVariables false
set_option linter.unusedSimpArgs false
namespace Go.Proofs.YtnklncinjahckaaGreatDoor
section
open Go.RowKit Go.Shelf
open Go.Lib (itoa)
set_option maxRecDepth 100000
noncomputable def z3p:za:=spD (fun _:Tx=>True) fun t=>z02 t
theorem zr5 (t:Tx):z3p (eTx t)=some [.s (z02 t).1,I (z02 t).2]:=zl (f:=fun t:Tx=>z02 t) t trivial
theorem z04w (t:Tx):I64 (z02 t).2:=by
 unfold z02
 split
 ·exact (z04i t).i64
 ·show I64 0
  exact ⟨by decide,by decide⟩
theorem zpj:Meets Tryz.prog z3p 22 ⟨[.agg 3],[(false,[.scal]),(false,[.scal])],true⟩ :=
 z3x rfl (z1x (fn:=Tryz.f22) (by kernel_rfl) (by kernel_rfl) (by kernel_rfl)) fun t _ W F us hF h=>by
  obtain ⟨cs,rfl,hr⟩:=z88 h
  have hS:Sep W F [rep t cs shTx] W:=(Sep.start W F hF.1).addRep (S:=shTx) (shTx.more (fun b hb=>⟨.inl hb,by simp⟩) (she_tx.of hr))
  refine (zpi t cs hS At.z hF.2).mono ?_
  rintro e w' ⟨rfl,hS'⟩
  exact ⟨_,rfl,hS'.below,zn5 rfl rfl (.s _ (by have:=zlq t;omega)) (.i _ _ (wrap_i64 (z04w t)))⟩
theorem Yl.base {P:Program} {w0:World} {F0:Nat→Prop} {Γ:List Res} {o:Oper} {a:Act} {t:TypeId} {x:Operand} {g j:Nat} {v:Value} (ho:o.op = .load t x) (hx:a.eval x = .pointer (some ⟨g,j,none⟩)) (h1:OneT P t) (hg:g<w0.heap.size) (hc:w0.cell? ⟨g,j,none⟩=some v):Yl P w0 F0 Γ o a v :=
 Yl.load ho hx fun W hS=>h1.load ((hS.below.cell (p:=⟨g,j,none⟩) hg).trans hc)
set_option maxHeartbeats 4000000 in
theorem z04x (t:Block) (cs:List Value) {w0 W:World} {F0:Nat→Prop} {Γ:List Res} (hS:Sep w0 F0 Γ W) (ht:At Γ (rep t cs shBlock)) (hG:Glob w0) :
  Calls Tryz.prog 31 #[.agg cs.toArray] W (RV w0 F0 Γ (.tuple #[.string ⟨(z0q t).1.toArray⟩,.int .i64 (z0q t).2])):=by
 (have hO:=hS.open_block ht;clear hS;obtain ⟨A,n,c,rfl,i1,i2,i3,i4,hS⟩:=hO)
 obtain ⟨hl1,hn1,hc1⟩:=hS.len (xs:=t.txs) (by repeat (with_reducible exact At.z))
 have HP:=Lib.hid (show z0q t=if zg t≠0 then ([],zg t) else (z41 t,0) from rfl)
 generalize z0q t=R at *
 have L1:=Lib.hid hl1
 clear hl1
 go_enter Tryz.func31,Tryz.ntmps31
 (go_wp2_with ((refine Sep.wbox hS (by rfl) rfl rfl ?_;clear hS;intro gt W hS;refine Stop.go ?_));refine Stop.mk ?_)
 go_wp2_with (((refine Sep.wloadNb hS (by rfl) rfl rfl (by repeat (with_reducible exact At.z)) (zr rfl) ?_)))
 refine (hS.old (z77 t [_,_,_,_,_] _ _ (hS.ltsRep (At.s (At.s ht))) (fun b hb=>hb))).mono ?_;clear hS;rintro e W ⟨rfl,hS⟩
 rcases Classical.em (zg t=0) with h0|h0
 ·rw [h0]
  have HR:Hid (R=(z41 t,0)):=Lib.hid (by rw [HP.out,if_neg (fun h=>h h0)])
  have H0:=Lib.hid h0
  have hlen:n≤4:=by have:=(z4h h0).len;have:=L1.out;omega
  clear h0 HP
  have b0:=hS.boxCell (g:=gt) At.z 0 _ rfl
  have b1:=hS.boxCell (g:=gt) At.z 1 _ rfl
  have b2:=hS.boxCell (g:=gt) At.z 2 _ rfl
  have b3:=hS.boxCell (g:=gt) At.z 3 _ rfl
  have b4:=hS.boxCell (g:=gt) At.z 4 _ rfl
  have gl:gt<W.heap.size:=(Array.getElem?_eq_some_iff.1 (hS.getBox (g:=gt) At.z).2).1
  have hΔ:FactsW W (Lt W.heap.size) [rds t.txs A n c shTx]:=.rds (hS.ltsRds (by repeat (first|with_reducible exact At.z|apply At.s))) .nil
  have hG1:Glob W:=hG.on hS.below
  obtain ⟨bp,bh,bw,bn,txs⟩:=t
  simp only at *
  rename World=>Wb
  have hSo:=hS
  clear hS
  (go_wp2_with (first|(refine wsb (by rfl) rfl z_sb hΔ ?_;intro W1 hS;refine Stop.go ?_));refine Stop.mk ?_)
  have l1:=z5t bp i1
  have l2:=z5t bh i2
  have l3:=z5t bw i3
  have l4:=z5t bn i4
  go_wp2_with fail
  (refine Sep.regionT hS [20] (by kernel_rfl) ?_;clear hS;intro W hS)
  (refine zy 0 rfl rfl (by ((apply Yl.pure;intro W;go_simp;with_reducible rfl))) (hS.sub (by repeat (with_reducible exact Sub.refl))) (by kernel_rfl) (fun _ _ _ h=>h) ?_;simp only [Act.put,List.setIfInBounds_toArray,List.set_cons_zero,List.set_cons_succ])
  (refine zy 1 rfl rfl (Yl.base rfl rfl (z08 rfl) gl b0) (hS.sub (by repeat (with_reducible exact Sub.refl))) (by kernel_rfl) (fun _ _ _ h=>h) ?_;simp only [Act.put,List.setIfInBounds_toArray,List.set_cons_zero,List.set_cons_succ])
  (refine zy 5 rfl rfl (by ((apply Yl.pure;intro W;go_simp;with_reducible rfl))) (hS.sub (by repeat (with_reducible exact Sub.refl))) (by kernel_rfl) (fun _ _ _ h=>h) ?_;simp only [Act.put,List.setIfInBounds_toArray,List.set_cons_zero,List.set_cons_succ])
  (refine zy 6 rfl rfl (Yl.base rfl rfl (z08 rfl) gl b1) (hS.sub (by repeat (with_reducible exact Sub.refl))) (by kernel_rfl) (fun _ _ _ h=>h) ?_;simp only [Act.put,List.setIfInBounds_toArray,List.set_cons_zero,List.set_cons_succ])
  (refine zy 10 rfl rfl (by ((apply Yl.pure;intro W;go_simp;with_reducible rfl))) (hS.sub (by repeat (with_reducible exact Sub.refl))) (by kernel_rfl) (fun _ _ _ h=>h) ?_;simp only [Act.put,List.setIfInBounds_toArray,List.set_cons_zero,List.set_cons_succ])
  (refine zy 11 rfl rfl (Yl.base rfl rfl (z08 rfl) gl b2) (hS.sub (by repeat (with_reducible exact Sub.refl))) (by kernel_rfl) (fun _ _ _ h=>h) ?_;simp only [Act.put,List.setIfInBounds_toArray,List.set_cons_zero,List.set_cons_succ])
  (refine zy 15 rfl rfl (by ((apply Yl.pure;intro W;go_simp;with_reducible rfl))) (hS.sub (by repeat (with_reducible exact Sub.refl))) (by kernel_rfl) (fun _ _ _ h=>h) ?_;simp only [Act.put,List.setIfInBounds_toArray,List.set_cons_zero,List.set_cons_succ])
  (refine zy 16 rfl rfl (Yl.base rfl rfl (z08 rfl) gl b3) (hS.sub (by repeat (with_reducible exact Sub.refl))) (by kernel_rfl) (fun _ _ _ h=>h) ?_;simp only [Act.put,List.setIfInBounds_toArray,List.set_cons_zero,List.set_cons_succ])
  refine z26 2 (by kernel_rfl) rfl ?_
  go_wp2_with fail
  refine (hS.old (zad bp i1 (hG1.on hS.below))).mono ?_;clear hS;rintro e W ⟨rfl,hS⟩
  go_wp2_with fail
  (refine ⟨fun _=>hS.sub (by repeat (with_reducible exact Sub.refl)),?_⟩;try simp only [Act.put,List.setIfInBounds_toArray,List.set_cons_zero,List.set_cons_succ])
  (refine zy 3 rfl rfl (Yl.cat rfl rfl rfl (by simp only [List.length_append,List.length_cons,List.length_nil];omega)) (hS.sub (by repeat (with_reducible exact Sub.refl))) (by kernel_rfl) (fun _ _ _ h=>h) ?_;simp only [Act.put,List.setIfInBounds_toArray,List.set_cons_zero,List.set_cons_succ])
  (refine zy 4 rfl rfl (Yl.cat rfl rfl rfl (by simp only [List.length_append,List.length_cons,List.length_nil];omega)) (hS.sub (by repeat (with_reducible exact Sub.refl))) (by kernel_rfl) (fun _ _ _ h=>h) ?_;simp only [Act.put,List.setIfInBounds_toArray,List.set_cons_zero,List.set_cons_succ])
  refine z26 7 (by kernel_rfl) rfl ?_
  go_wp2_with fail
  refine (hS.old (zad bh i2 (hG1.on hS.below))).mono ?_;clear hS;rintro e W ⟨rfl,hS⟩
  go_wp2_with fail
  (refine ⟨fun _=>hS.sub (by repeat (with_reducible exact Sub.refl)),?_⟩;try simp only [Act.put,List.setIfInBounds_toArray,List.set_cons_zero,List.set_cons_succ])
  (refine zy 8 rfl rfl (Yl.cat rfl rfl rfl (by simp only [List.length_append,List.length_cons,List.length_nil];omega)) (hS.sub (by repeat (with_reducible exact Sub.refl))) (by kernel_rfl) (fun _ _ _ h=>h) ?_;simp only [Act.put,List.setIfInBounds_toArray,List.set_cons_zero,List.set_cons_succ])
  (refine zy 9 rfl rfl (Yl.cat rfl rfl rfl (by simp only [List.length_append,List.length_cons,List.length_nil];omega)) (hS.sub (by repeat (with_reducible exact Sub.refl))) (by kernel_rfl) (fun _ _ _ h=>h) ?_;simp only [Act.put,List.setIfInBounds_toArray,List.set_cons_zero,List.set_cons_succ])
  refine z26 12 (by kernel_rfl) rfl ?_
  go_wp2_with fail
  refine (hS.old (zad bw i3 (hG1.on hS.below))).mono ?_;clear hS;rintro e W ⟨rfl,hS⟩
  go_wp2_with fail
  (refine ⟨fun _=>hS.sub (by repeat (with_reducible exact Sub.refl)),?_⟩;try simp only [Act.put,List.setIfInBounds_toArray,List.set_cons_zero,List.set_cons_succ])
  (refine zy 13 rfl rfl (Yl.cat rfl rfl rfl (by simp only [List.length_append,List.length_cons,List.length_nil];omega)) (hS.sub (by repeat (with_reducible exact Sub.refl))) (by kernel_rfl) (fun _ _ _ h=>h) ?_;simp only [Act.put,List.setIfInBounds_toArray,List.set_cons_zero,List.set_cons_succ])
  (refine zy 14 rfl rfl (Yl.cat rfl rfl rfl (by simp only [List.length_append,List.length_cons,List.length_nil];omega)) (hS.sub (by repeat (with_reducible exact Sub.refl))) (by kernel_rfl) (fun _ _ _ h=>h) ?_;simp only [Act.put,List.setIfInBounds_toArray,List.set_cons_zero,List.set_cons_succ])
  refine z26 17 (by kernel_rfl) rfl ?_
  go_wp2_with fail
  refine (hS.old (zad bn i4 (hG1.on hS.below))).mono ?_;clear hS;rintro e W ⟨rfl,hS⟩
  go_wp2_with fail
  (refine ⟨fun _=>hS.sub (by repeat (with_reducible exact Sub.refl)),?_⟩;try simp only [Act.put,List.setIfInBounds_toArray,List.set_cons_zero,List.set_cons_succ])
  (refine zy 18 rfl rfl (Yl.cat rfl rfl rfl (by simp only [List.length_append,List.length_cons,List.length_nil];omega)) (hS.sub (by repeat (with_reducible exact Sub.refl))) (by kernel_rfl) (fun _ _ _ h=>h) ?_;simp only [Act.put,List.setIfInBounds_toArray,List.set_cons_zero,List.set_cons_succ])
  (refine zy 19 rfl rfl (Yl.cat rfl rfl rfl (by simp only [List.length_append,List.length_cons,List.length_nil];omega)) (hS.sub (by repeat (with_reducible exact Sub.refl))) (by kernel_rfl) (fun _ _ _ h=>h) ?_;simp only [Act.put,List.setIfInBounds_toArray,List.set_cons_zero,List.set_cons_succ])
  refine z26 20 (by kernel_rfl) rfl ?_
  go_wp2_with fail
  refine (hS.write (l:=[]) (by repeat (with_reducible exact At.z)) hΔ _ (by simp [ByteArray.size];omega)).mono ?_
  clear hS
  rintro e W2 ⟨⟨v,rfl⟩,hS⟩
  go_wp2_with fail
  (refine ⟨fun h=>z3l (by kernel_rfl) h,?_⟩;try simp only [Act.put,List.setIfInBounds_toArray,List.set_cons_zero,List.set_cons_succ])
  refine z3o (by kernel_rfl) ?_
  have e0:[]++98::108::111::99::107::32::(itoa bp++32::(itoa bh++32::(itoa bw++32::(itoa bn++[10]))))=z6s ⟨bp,bh,bw,bn,txs⟩:=by simp [z6s]
  have lh:(z6s ⟨bp,bh,bw,bn,txs⟩).length≤100:=by simp [z6s];omega
  have d4:=(hS.below.cell (p:=⟨gt,4,none⟩) gl).trans b4
  go_wp2_with fail
  clear d4
  rw [e0] at hS
  clear e0
  go_loopw [7,8,9,39] (fun _ _ _ i wr=>∃ k:Nat,k≤n∧i = .int .i64 k∧∃ l:List UInt8,l.length≤100+2500 * k∧Hid (l=z6s ⟨bp,bh,bw,bn,txs⟩++(txs.take k).flatMap fun t=>(z02 t).1)∧Sep Wb (Lt Wb.heap.size) (sb Wb.heap.size l::rds txs A n c shTx::[]) wr) (fun _ _ _ i _=>n - (intOf i).toNat)
  case atStart=>exact ⟨0,by omega,rfl,z6s ⟨bp,bh,bw,bn,txs⟩,by omega,Lib.hid (by simp),hS.sub (by repeat (with_reducible exact Sub.refl))⟩
  case round =>
   clear hS
   obtain ⟨k,hk,rfl,l,hl,HL,hS⟩:=hrel
   rcases Classical.em (k<n) with hlt|hlt
   ·(have hO:=hS.elemTxR (xs:=txs) (by repeat (first|with_reducible exact At.z|apply At.s)) hlt;clear hS;obtain ⟨b,off,x,A1,n1,c1,A2,n2,c2,rfl,hx,hS⟩:=hO)
    have HX:=Lib.hid hx
    have k1:(0:Int)≤(k:Int):=by omega
    have k2:(k:Int)<(n:Int):=by omega
    clear hx
    (go_wp2_with (first|(refine Sep.wloadNz hS (by rfl) rfl rfl (by repeat (first|with_reducible exact At.z|apply At.s)) (zr rfl) ?_)|(refine Sep.walloc hS (by rfl) rfl (by first|exact zda|exact z_tx) ?_;clear hS;intro g W hS)|(refine Sep.wstoreNb hS (by rfl) rfl rfl rfl (zr rfl) (by simp [z3u,Value.oneCell']) (by repeat (first|with_reducible exact At.z|apply At.s)) (by rfl) (by repeat (first|with_reducible exact Put.z|apply Put.s)) ?_;clear hS;intro W hS;refine Stop.go ?_));refine Stop.mk ?_)
    go_wp2_with (((refine Sep.wloadNb hS (by rfl) rfl rfl (by repeat (with_reducible exact At.z)) (zr rfl) ?_)))
    refine (zpi x [_,_,_] hS (by repeat (first|with_reducible exact At.z|apply At.s)) hG1).mono ?_;clear hS;rintro e W ⟨rfl,hS⟩
    have lp:=zlq x
    go_wp2_with fail
    refine (hS.write (l:=l) (by repeat (first|with_reducible exact At.z|apply At.s)) hΔ _ (by simp [ByteArray.size];omega)).mono ?_
    clear hS
    rintro e W2 ⟨⟨v,rfl⟩,hS⟩
    go_wp2_with fail
    go_roundw
    case measure=>simp [intOf];omega
    case rel=>exact ⟨k+1,by omega,by go_num,l++(z02 x).1,by simp;omega,Lib.hid (by rw [z4g HX.out,HL.out];simp),hS.sub (by repeat (with_reducible exact Sub.refl))⟩
   ·obtain rfl:k=n:=by omega
    go_wp2_with fail
    refine (hS.text (by repeat (with_reducible exact At.z))).mono ?_
    clear hS
    rintro e W3 ⟨rfl,hB⟩
    have hS:=hSo.belows hB
    go_wp2_with fail
    have em:l=z41 ⟨bp,bh,bw,bn,txs⟩:=by
     rw [HL.out,List.take_of_length_le (by have:=L1.out;omega)]
     unfold z41
     congr 1
     have key:∀ t ∈ txs,(z02 t).1=z18 t:=fun t ht=>by rw [zb8 ((z4h H0.out).each t ht)]
     simp only [List.flatMap_def]
     rw [List.map_congr_left key]
    rw [em]
    refine bodyPost_ret (z44 rfl (by exact Got.tmp rfl) (by exact Got.tmp rfl)) rfl ?_
    exact ⟨by rw [HR.out];rfl,hS.sub (by repeat (first|with_reducible exact Sub.refl|apply Sub.skip))⟩
 ·have q:((zg t) != 0)=true:=by simp [h0]
  have HR:Hid (R=([],zg t)):=Lib.hid (by rw [HP.out,if_pos h0])
  clear h0 HP
  go_wp2_with fail
  refine bodyPost_ret (z44 rfl (by exact Got.tmp rfl) (by exact Got.tmp rfl)) rfl ?_
  exact ⟨by rw [HR.out];rfl,hS.sub (by repeat (first|with_reducible exact Sub.refl|apply Sub.skip))⟩
noncomputable def z57:za:=spD (fun _:Block=>True) fun t=>z0q t
theorem zna (t:Block):z57 (z0x t)=some [.s (z0q t).1,I (z0q t).2]:=zl (f:=fun t:Block=>z0q t) t trivial
theorem z00e (t:Block):I64 (z0q t).2:=by
 unfold z0q
 split
 ·exact (zle t).i64
 ·show I64 0
  exact ⟨by decide,by decide⟩
theorem z04y:Meets Tryz.prog z57 31 ⟨[.agg 5],[(false,[.scal]),(false,[.scal])],true⟩ :=
 z3x rfl (z1x (fn:=Tryz.f31) (by kernel_rfl) (by kernel_rfl) (by kernel_rfl)) fun t _ W F us hF h=>by
  obtain ⟨cs,rfl,hr⟩:=z88 h
  have hS:Sep W F [rep t cs shBlock] W:=(Sep.start W F hF.1).addRep (S:=shBlock) (shBlock.more (fun b hb=>⟨.inl hb,by simp⟩) (she_block.of hr))
  refine (z04x t cs hS At.z hF.2).mono ?_
  rintro e w' ⟨rfl,hS'⟩
  exact ⟨_,rfl,hS'.below,zn5 rfl rfl (.s _ (by have:=z00d t;omega)) (.i _ _ (wrap_i64 (z00e t)))⟩
end
section
open Go.Lib (itoa atoiAll)
open Go.RowKit
def zwg:List (List UInt8)→Option (List Int)
 | []=>some []
 | w::r=>match zn3 w with
  | none=>none
  | some n=>(zwg r).map fun l=>n::l
def tIn:List UInt8:=[105,110]
def tOut:List UInt8:=[111,117,116]
def tTx:List UInt8:=[116,120,32]
def znb (o:List Out) (i:List In) (x:List UInt8) (n:List Int):Option (List Out × List In) :=
 if (zgz (Go.Lib.cut x [58]).2.1).2≠0 then none else if Go.Lib.contains x [58]=false then none else
 if (z81 32 (Go.Lib.cut x [58]).1).headD []=tIn∧n.length=2∧o.length=0 then some (o,i++[⟨⟨n.getD 0 0,n.getD 1 0⟩,(zgz (Go.Lib.cut x [58]).2.1).1⟩]) else
 if (z81 32 (Go.Lib.cut x [58]).1).headD []=tOut∧n.length=1 then some (o++[⟨n.getD 0 0,(zgz (Go.Lib.cut x [58]).2.1).1⟩],i) else none
def z0ac (o:List Out) (i:List In) (x:List UInt8):Option (List Out × List In):=match zwg ((z81 32 (Go.Lib.cut x [58]).1).drop 1) with
 | none=>none
 | some n=>znb o i x n
def zTx:Tx:=⟨0,[],[]⟩
def zif (n:Int) (o:List Out) (i:List In):List (List UInt8)→Tx × Int
 | []=>if zo ⟨n,i,o⟩≠0 then (zTx,zo ⟨n,i,o⟩) else (⟨n,i,o⟩,0)
 | x::r=>match z0ac o i x with
  | none=>(zTx,1)
  | some p=>zif n p.1 p.2 r
def z07n (s:List UInt8):Tx × Int:=if 4000<(s.length:Int) then (zTx,2) else
 if Go.Lib.hasSuffix s [10]=false then (zTx,1) else
 if Go.Lib.hasPrefix ((z81 10 (Go.Lib.trimSuffix s [10])).headD []) tTx=false then (zTx,1) else
 match zn3 (Go.Lib.trimPrefix ((z81 10 (Go.Lib.trimSuffix s [10])).headD []) tTx) with
 | none=>(zTx,1)
 | some n=>zif n [] [] ((z81 10 (Go.Lib.trimSuffix s [10])).drop 1)
end
section
open Go.RowKit Go.Shelf
open Go.Lib (itoa atoiAll atoiSat)
set_option maxRecDepth 100000
section
variable {P:Program} {W:World} {F:Nat→Prop}
end
noncomputable def zj5:za:=spD (fun x:List UInt8 × List UInt8=>x.1.length≤1000000000∧∃ c,x.2=[c]) fun x=>z81 (x.2.headD 0) x.1
def ze3 (s:List UInt8):Int × GoErr:=match atoiAll s with
 | .ok v=>(v,⟨false⟩)
 | .range=>(atoiSat s,⟨true⟩)
 | _=>(0,⟨true⟩)
noncomputable def z03c:za:=spD (fun s:List UInt8=>s.length≤1000000000) fun s=>ze3 s
end
section
open Go.RowKit Go.Shelf
open Go.Lib (itoa atoiAll atoiSat)
set_option maxRecDepth 100000
noncomputable def z07o:za:=spD (fun x:List UInt8 × List UInt8=>x.1.length≤1000000000) fun x=>Go.Lib.cut x.1 x.2
noncomputable def znc:za:=spD (fun x:List UInt8 × List UInt8=>x.1.length≤1000000000) fun x=>Go.Lib.contains x.1 x.2
noncomputable def zwh:za:=spD (fun _:List UInt8 × List UInt8=>True) fun x=>(Go.Lib.trimPrefix x.1 x.2,Go.Lib.hasPrefix x.1 x.2)
noncomputable def zwi:za:=spD (fun _:List UInt8 × List UInt8=>True) fun x=>(Go.Lib.trimSuffix x.1 x.2,Go.Lib.hasSuffix x.1 x.2)
end
section
open Go.RowKit
open Go.Lib (itoa atoiAll atoiSat)
set_option maxRecDepth 100000
set_option maxHeartbeats 4000000
section
variable {sp:Nat→za} {N:Nat} {E E':Env} {ks:List (List Dt→Option (List Dt))} {res:Option (List Dt)}
end
noncomputable def zwj:za:=spD (fun _:List UInt8=>True) fun s=>zgz s
def z07p (acc:List Op) (ws:List (List UInt8)):List Op × Int:=match zn4 ws with
 | none=>([],1)
 | some l=>if zh (acc++l)≠0 then ([],zh (acc++l)) else (acc++l,0)
attribute [local irreducible] den denX z1b z1m
attribute [local irreducible] z0y spD z29 itoa zh z4q z7a z5e z07p ze3 z81 z079 zw6 zw7
attribute [local irreducible] z03c zbl z1r zj5
end
section
open Go.RowKit
noncomputable def z07q:za:=spD (fun _:List Int × List Int=>True) fun x=>decide (x.1=x.2)
end
section
open Go.RowKit
open Go.Lib (itoa)
set_option maxRecDepth 100000
set_option maxHeartbeats 4000000
def numI (w:List UInt8):Int × Bool:=((ze3 w).1,!(ze3 w).2.is && decide (itoa (ze3 w).1=w))
def z0f3 (o:List Out) (i:List In) (x:List UInt8) (a:List Int) (ws:List (List UInt8)):Option (List Out × List In):=match zwg ws with
 | none=>none
 | some n=>znb o i x (a++n)
def z0f4 (n:Int) (r:List (List UInt8)) (p:Option (List Out × List In)):Tx × Int:=match p with
 | none=>(zTx,1)
 | some p=>zif n p.1 p.2 r
noncomputable def z04z:za:=spD (fun _:List UInt8=>True) fun s=>z07n s
attribute [local irreducible] z0y spD z29 itoa zh z4q z7a z07p ze3 z81 zo zgz
section
variable {α:Type} {f:α→List Dt} {sp:Nat→za} {N:Nat} {E:Env}
end
attribute [local irreducible] den denX z1b z1m
attribute [local irreducible] z03c zbl
attribute [local irreducible] numI z0f3 zif z0f4 znb
attribute [local irreducible] zwh zwi zwj znc z07o zj5 z5s
end
section
open Go.RowKit
set_option maxRecDepth 100000
set_option maxHeartbeats 4000000
attribute [local irreducible] z0y spD z29
def z050:T :=
 .lets [.call 10 [.v 9] 0] [] (.lets [] [.inr 6 (.v 4) (.v 3)] (.lets [.set (.v 4) (.v 3) 3 [.v 12]] [] (.lets [.bin .add (.v 3) (.c (.i .i64 1))] [] (.again 0 [.v 14,.v 13]))))
def z051:T :=
 .lets [] [.inr 6 (.v 4) (.v 3)] (.lets [.idx (.v 4) (.v 3) 0,.idx (.v 4) (.v 3) 1,.idx (.v 4) (.v 3) 2,.idx (.v 4) (.v 3) 3,.idx (.v 4) (.v 3) 4,.idx (.v 4) (.v 3) 5] []
 z050)
def zk2:T :=
 .lets [.call 9 [.v 0] 0] [] (.lets [.len (.v 1)] [] (.loop [.c (.i .i64 0),.v 1] (.lets [.bin .lss (.v 3) (.v 2)] [] (.ite (.v 5) z051 (.ret [.v 4])))))
def z00f:T :=
 .lets [.idx (.v 0) (.v 5) 0,.idx (.v 0) (.v 5) 1,.idx (.v 0) (.v 5) 2,.idx (.v 0) (.v 5) 3,.idx (.v 0) (.v 5) 4,.idx (.v 0) (.v 5) 5] [] (.lets [.bin .add (.v 4) (.v 9)] []
 (.lets [.bin .add (.v 5) (.c (.i .i64 1))] [] (.again 0 [.v 13,.v 14])))
def z00g:T :=
 .loop [.c (.i .i64 0),.c (.i .i64 0)] (.lets [.bin .lss (.v 5) (.v 3)] [] (.ite (.v 6) (.lets [] [.inr 6 (.v 0) (.v 5)] z00f) (.ret [.v 4,.c (.i .i64 0)])))
def zh4:T :=
 .lets [.call 8 [.v 0] 0] [] (.lets [.bin .neq (.v 1) (.c (.i .i64 0))] [] (.ite (.v 2) (.ret [.c (.i .i64 0),.v 1]) (.lets [.len (.v 0)] [] z00g)))
def z07r:T :=
 .lets [.idx (.v 3) (.v 6) 0,.idx (.v 3) (.v 6) 1,.idx (.v 3) (.v 6) 2,.idx (.v 3) (.v 6) 3,.idx (.v 3) (.v 6) 4,.idx (.v 3) (.v 6) 5] [] (.lets [.bin .add (.v 5) (.v 10)] []
 (.lets [.bin .add (.v 6) (.c (.i .i64 1))] [] (.again 0 [.v 14,.v 15])))
def z07s:T :=
 .lets [.idx (.v 2) (.v 10) 0,.idx (.v 2) (.v 10) 1] [] (.lets [.bin .sub (.v 9) (.v 12)] [] (.lets [.bin .add (.v 10) (.c (.i .i64 1))] [] (.again 1 [.v 14,.v 15])))
def z07t:T :=
 .lets [.len (.v 2)] [] (.loop [.v 5,.c (.i .i64 0)] (.lets [.bin .lss (.v 10) (.v 8)] [] (.ite (.v 11) (.lets [] [.inr 2 (.v 2) (.v 10)] z07s) (.ret [.v 9]))))
def znd:T :=
 .lets [.len (.v 3)] [] (.loop [.c (.i .i64 0),.c (.i .i64 0)] (.lets [.bin .lss (.v 6) (.v 4)] [] (.ite (.v 7) (.lets [] [.inr 6 (.v 3) (.v 6)] z07r) z07t)))
def z1a (l:List Coin):Prop:=l.length≤1000000∧∀ c ∈ l,c.o.lock.length≤8796093022208
theorem CoinsOK.short {l:List Coin} (h:CoinsOK l):z1a l:=⟨by have:=h.len;omega,fun c hc=>by have:=z93 (z4d (h.good c hc)).2.2.2.2.2.2.2.2;omega⟩
noncomputable def z3b:za:=spD z1a fun l=>l
theorem z6t (l:List Coin) (h:z1a l):z3b [.l 6 (l.map z9)]=some [.l 6 (l.map z9)]:=zl (p:=z1a) (f:=fun l:List Coin=>l) l h
theorem zf5:Meets Tryz.prog z3b 39 ⟨[.one],[(false,[.fresh 86 6])],false⟩:=by
 refine zi (sp:=(z0m [(9,zcw),(10,z78)])) (sigs:=z0t) (cut:=[]) (hints:=[⟨3,[.t 9,.o 6]⟩]) (fn:=Tryz.f39) (t:=zk2) (by kernel_rfl) (by kernel_rfl) (by kernel_rfl) ?_ ?_
 ·exact (z0c (L:=[(9,zcw),(10,z78)]) ⟨z7 rfl z0a1,z7 rfl ztg,trivial⟩)
 ·rintro ds rs - h
  obtain ⟨l,⟨hl,hk⟩,rfl,rfl⟩:=zq h
  clear h
  refine ⟨⟨l.length+1,?_⟩,zzb (by simp [zu,CF.isScal])⟩
  show den _ _ zk2 [.l 6 (l.map z9)] []=ret l
  unfold zk2
  repeat' (first|refine dq1 ?_|refine dqk rfl (zth _ hl) ?_|fail)
  (refine z0k (fun (_:Unit) k=>[I k,.l 6 (l.map z9)]) (fun _ _ _=>l) (fun _ _=>True) () l ?_ ?_ ?_ ?_ ?_;rfl;exact trivial;exact Nat.lt_succ_self _)
  ·rintro _ k c r hx hd hkl - again hag
   repeat' (first|refine dq1 ?_|refine dqc ?_|refine dqm ?_|refine dqk rfl (zb4 _ (hk c (List.mem_of_getElem? hx))) ?_|refine dqT ?_|fail)
   refine z8 (z04g rfl rfl rfl (by omega) (by simp) (by exact hx) rfl) ?_
   repeat' (first|refine dq1 ?_|exact zw rfl rfl (hag () trivial)|fail)
  ·intro _ _ again
   repeat' (first|refine dq1 ?_|exact z6 rfl rfl|refine dqF ?_|fail)
theorem zj6 (l:List Coin):∀ s:Int,l.foldl (fun s c=>s+c.o.coin) s=s+zd l:=by
 induction l with
 | nil=>intro s;simp [zd]
 | cons c l ih=>intro s;rw [List.foldl_cons,ih,zd];omega
def z7d (l:List Coin):Int × Int:=if zj l≠0 then (0,zj l) else (l.foldl (fun s c=>s+c.o.coin) 0,0)
noncomputable def z98:za:=spD (fun _:List Coin=>True) z7d
theorem zfp (l:List Coin):z98 [.l 6 (l.map z9)]=some [I (z7d l).1,I (z7d l).2]:=zl (f:=z7d) l trivial
theorem z07u:Meets Tryz.prog z98 12 ⟨[.one],[(false,[.scal]),(false,[.scal])],true⟩:=by
 refine zi (sp:=(z0m [(8,z1i)])) (sigs:=z0t) (cut:=[]) (hints:=[⟨6,[.t 5,.t 15]⟩]) (fn:=Tryz.f12) (t:=zh4) (by kernel_rfl) (by kernel_rfl) (by kernel_rfl) ?_ ?_
 ·exact (z0c (L:=[(8,z1i)]) ⟨z7 rfl z8j,trivial⟩)
 ·rintro ds rs - h
  obtain ⟨l,-,rfl,rfl⟩:=zq h
  clear h
  refine ⟨⟨l.length+1,?_⟩,z9p rfl rfl⟩
  show den _ _ zh4 [.l 6 (l.map z9)] []=ret (z7d l)
  unfold zh4 z7d
  repeat' (first|refine dq1 ?_|refine dqk rfl (z2l _) ?_|exact z6 rfl rfl|refine tR (fun h=>?_) fun h=>?_|fail)
  have ok:=(z0d l).1 (Decidable.not_not.1 h)
  have:=ok.len
  (refine z0k (fun (s:Int) k=>[I s,I k]) (fun (s:Int) _ (r:List Coin)=>(r.foldl (fun s c=>s+c.o.coin) s,(0:Int))) (fun s k=>0≤s∧s+zd (l.drop k)=zd l) (0:Int) l ?_ ?_ ?_ ?_ ?_;rfl;exact ⟨by omega,by simp⟩;exact Nat.lt_succ_self _)
  ·rintro s k c r hx hd hkl ⟨h0,h1⟩ again hag
   have hb:=z4d (ok.good c (List.mem_of_getElem? hx))
   have ht:=ok.total
   have hr:=z5d (l:=r) fun x hx=>ok.good x (List.mem_of_mem_drop (i:=k) (by rw [hd];exact List.mem_cons_of_mem _ hx))
   have hd1:l.drop (k+1)=r:=by rw [← List.drop_drop,hd];rfl
   rw [hd,zd] at h1
   repeat' (first|refine dq1 ?_|refine dqc ?_|refine dqm ?_|refine dqT ?_|fail)
   exact zw rfl rfl (hag (s+c.o.coin) ⟨by omega,by rw [hd1];omega⟩)
  ·rintro s - again
   repeat' (first|refine dq1 ?_|exact z6 rfl rfl|refine dqF ?_|fail)
def z15 (t:Tx) (l:List Coin):Int:=t.outs.foldl (fun s o=>s - o.coin) (l.foldl (fun s c=>s+c.o.coin) 0)
def ze4 (x:Tx × List Coin):Prop:=x.2.length≤1000000∧(∀ c ∈ x.2,0≤c.o.coin∧c.o.coin≤1000000000)∧x.1.outs.length≤1000000∧∀ o ∈ x.1.outs,0≤o.coin∧o.coin≤1000000000
noncomputable def z58:za:=spD ze4 fun x=>z15 x.1 x.2
theorem za5 (t:Tx) (l:List Coin) (h:ze4 (t,l)):z58 [I t.height,.l 3 (t.ins.map eIn),.l 2 (t.outs.map z2f),.l 6 (l.map z9)]=some [I (z15 t l)]:=zl (p:=ze4) (f:=fun x:Tx × List Coin=>z15 x.1 x.2) (t,l) h
theorem zne:Meets Tryz.prog z58 51 ⟨[.agg 3,.one],[(false,[.scal])],true⟩:=by
 refine zi (sp:=(z0m [])) (sigs:=z0t) (cut:=[]) (hints:=[⟨3,[.t 5,.t 12]⟩,⟨8,[.t 5,.t 25]⟩]) (fn:=Tryz.f51) (t:=znd) (by kernel_rfl) (by kernel_rfl) (by kernel_rfl) ?_ ?_
 ·exact (z0c (L:=[]) trivial)
 ·rintro ds rs - h
  obtain ⟨⟨t,l⟩,⟨h1,h2,h3,h4⟩,rfl,rfl⟩:=zq h
  clear h
  simp only at h1 h2 h3 h4
  refine ⟨⟨l.length+t.outs.length+1,?_⟩,z0o rfl⟩
  show den _ _ znd [I t.height,.l 3 (t.ins.map eIn),.l 2 (t.outs.map z2f),.l 6 (l.map z9)] []=ret (z15 t l)
  unfold znd z15
  repeat' (first|refine dq1 ?_|fail)
  (refine z0k (fun (s:Int) k=>[I s,I k]) (fun (s:Int) _ (r:List Coin)=>t.outs.foldl (fun s o=>s - o.coin) (r.foldl (fun s c=>s+c.o.coin) s)) (fun s k=>0≤s∧s≤k * 1000000000) (0:Int) l ?_ ?_ ?_ ?_ ?_;rfl;exact ⟨by omega,by omega⟩;omega)
  ·rintro s k c r hx hd hkl ⟨h0,h5⟩ again hag
   have hc:=h2 c (List.mem_of_getElem? hx)
   repeat' (first|refine dq1 ?_|refine dqc ?_|refine dqm ?_|refine dqT ?_|fail)
   exact zw rfl rfl (hag (s+c.o.coin) ⟨by omega,by omega⟩)
  ·rintro s ⟨h0,h5⟩ again
   repeat' (first|refine dq1 ?_|refine dqF ?_|fail)
   (refine z0k (fun (s:Int) k=>[I s,I k]) (fun (s:Int) _ (r:List Out)=>r.foldl (fun s o=>s - o.coin) s) (fun s k => - (k * 1000000000)≤s∧s≤l.length * 1000000000) s t.outs ?_ ?_ ?_ ?_ ?_;rfl;exact ⟨by omega,by omega⟩;omega)
   ·rintro s k c r hx hd hkl ⟨h0,h5⟩ again' hag
    have hc:=h4 c (List.mem_of_getElem? hx)
    repeat' (first|refine dq1 ?_|refine dqc ?_|refine dqm ?_|refine dqT ?_|fail)
    exact zw rfl rfl (hag (s - c.coin) ⟨by omega,by omega⟩)
   ·rintro s ⟨h0,h5⟩ again'
    repeat' (first|refine dq1 ?_|exact z6 rfl rfl|refine dqF ?_|fail)
def z82:Coin:=⟨⟨0,0⟩,⟨0,[]⟩,0,false⟩
def zwk (l:List Coin) (p:Point):Coin × Int:=if zj l≠0 then (z82,zj l) else if z2o l p=true then ((l[zf l p]?).getD z82,0) else (z82,7)
end
section
open Go.RowKit
set_option maxRecDepth 100000
set_option maxHeartbeats 4000000
theorem zj7 (l m:List Op):z89 [.l 2 (l.map eOp),.l 2 (m.map eOp)]=some [.b (decide (l=m))]:=zl (f:=fun x:List Op × List Op=>decide (x.1=x.2)) (l,m) trivial
theorem z03d:Meets Tryz.prog z89 76 ⟨[.one,.one],[(false,[.scal])],true⟩ :=
 zd6 (e:=fun x:{ x:List Op × List Op // True }=>Enc.e x.1) (d:=fun x=>.b (decide (x.1.1=x.1.2))) rfl (z1x (fn:=Tryz.f76) (by kernel_rfl) (by kernel_rfl) (by kernel_rfl)) (fun _=>rfl) fun x W F us hF h=>by
  obtain ⟨v,us,rfl,h1,h⟩:=z1o h
  obtain ⟨v2,us,rfl,h2,h⟩:=z1o h
  obtain rfl:=z2t h
  obtain ⟨A,n,c,rfl,k1⟩:=z66 z8w h1
  obtain ⟨A2,n2,c2,rfl,k2⟩:=z66 z8w h2
  refine (z09n x.1.1 x.1.2 A A2 n c n2 c2 W F F k1 k2).mono ?_
  rintro r W' ⟨rfl,m,rfl⟩
  exact ⟨_,rfl,z4e (Below.refl _ _) m,.b _⟩
attribute [local irreducible] z0y spD z29
theorem ok_l {α:Type} {sz:Nat} {l:List α} {f:α→List Dt} (h:Dt.ok (.l sz (l.map f))):l.length≤9223372036854775807:=by
 cases h with
 | l _ _ h1 _ _=>simpa using h1
theorem z0f5 (x y:Out):(decide (x.coin=y.coin) && decide (x.lock=y.lock))=decide (x=y):=by
 cases x;cases y
 simp only [Out.mk.injEq,Bool.decide_and]
noncomputable def z35:za:=spD (fun _:Out × Out=>True) fun x=>decide (x.1=x.2)
theorem z99 (x y:Out):z35 [I x.coin,.l 2 (x.lock.map eOp),I y.coin,.l 2 (y.lock.map eOp)]=some [.b (decide (x=y))]:=zl (f:=fun x:Out × Out=>decide (x.1=x.2)) (x,y) trivial
def zdb:T :=
 .lets [.bin .eql (.v 0) (.v 2)] [] (.ite (.v 4) (.lets [.call 20 [.v 1,.v 3] 0] [] (.ret [.v 5])) (.ret [.c (.b false)]))
def z00h:T :=
 .ite (.v 13) (.lets [.bin .eql (.v 4) (.v 10)] [] (.ite (.v 14) (.lets [.beq false (.v 5) (.v 11)] [] (.ret [.v 15])) (.ret [.c (.b false)]))) (.ret [.c (.b false)])
def zh5:T :=
 .lets [.eqs false [(.v 0,.v 6),(.v 1,.v 7)]] [] (.ite (.v 12) (.lets [.call 21 [.v 2,.v 3,.v 8,.v 9] 0] [] z00h) (.ret [.c (.b false)]))
def z00i:T :=
 .lets [.call 26 [.v 9,.v 10,.v 11,.v 12,.v 13,.v 14,.v 15,.v 16,.v 17,.v 18,.v 19,.v 20] 0] [] (.lets [.not (.v 21)] [] (.ite (.v 22) (.ret [.c (.b false)]) (.lets [.bin
 .add (.v 7) (.c (.i .i64 1))] [] (.again 0 [.v 6,.v 23]))))
def z00j:T :=
 .lets [] [.inr 6 (.v 1) (.v 7)] (.lets [.idx (.v 1) (.v 7) 0,.idx (.v 1) (.v 7) 1,.idx (.v 1) (.v 7) 2,.idx (.v 1) (.v 7) 3,.idx (.v 1) (.v 7) 4,.idx (.v 1) (.v 7) 5] []
 z00i)
def z00k:T :=
 .lets [] [.inr 6 (.v 0) (.v 7)] (.lets [.idx (.v 0) (.v 7) 0,.idx (.v 0) (.v 7) 1,.idx (.v 0) (.v 7) 2,.idx (.v 0) (.v 7) 3,.idx (.v 0) (.v 7) 4,.idx (.v 0) (.v 7) 5] []
 z00j)
def z00l:T :=
 .ite (.v 4) (.ret [.c (.b false)]) (.lets [.len (.v 0)] [] (.loop [.c (.b false),.c (.i .i64 0)] (.lets [.bin .lss (.v 7) (.v 5)] [] (.ite (.v 8) z00k (.ret [.c (.b
 true)])))))
def zh6:T :=
 .lets [.len (.v 0)] [] (.lets [.len (.v 1)] [] (.lets [.bin .neq (.v 2) (.v 3)] [] z00l))
def zk3:T :=
 .lets [.call 22 [.v 0,.v 1] 0] [] (.ret [.v 2])
theorem zdc:Meets Tryz.prog z35 46 ⟨[.agg 2,.agg 2],[(false,[.scal])],true⟩:=by
 refine zi (sp:=(z0m [(20,z89)])) (sigs:=z0t) (cut:=[]) (hints:=[]) (fn:=Tryz.f46) (t:=zdb) (by kernel_rfl) (by kernel_rfl) (by kernel_rfl) ?_ ?_
 ·exact (z0c (L:=[(20,z89)]) ⟨z7 rfl z03d,trivial⟩)
 ·rintro ds rs - h
  obtain ⟨⟨x,y⟩,-,rfl,rfl⟩:=zq h
  clear h
  refine ⟨⟨1,?_⟩,z0o rfl⟩
  show den _ _ zdb [I x.coin,.l 2 (x.lock.map eOp),I y.coin,.l 2 (y.lock.map eOp)] []=ret (decide (x=y))
  rw [← z0f5]
  unfold zdb
  repeat' (first|refine dq1 ?_|refine dqk rfl (zj7 _ _) ?_|exact z6 rfl rfl|refine tU (fun h=>?_) fun h=>?_|fail)
theorem z0cz (x y:Coin):(decide (x.p=y.p) && (decide (x.o=y.o) && (decide (x.height=y.height) && decide (x.reward=y.reward))))=decide (x=y):=by
 cases x;cases y
 simp only [Coin.mk.injEq,Bool.decide_and]
noncomputable def zb9:za:=spD (fun _:Coin × Coin=>True) fun x=>decide (x.1=x.2)
theorem zr6 (x y:Coin):zb9 (z9 x++z9 y)=some [.b (decide (x=y))]:=zl (f:=fun x:Coin × Coin=>decide (x.1=x.2)) (x,y) trivial
theorem z07v:Meets Tryz.prog zb9 45 ⟨[.agg 6,.agg 6],[(false,[.scal])],true⟩:=by
 refine zi (sp:=(z0m [(21,z35)])) (sigs:=z0t) (cut:=[]) (hints:=[]) (fn:=Tryz.f45) (t:=zh5) (by kernel_rfl) (by kernel_rfl) (by kernel_rfl) ?_ ?_
 ·exact (z0c (L:=[(21,z35)]) ⟨z7 rfl zdc,trivial⟩)
 ·rintro ds rs - h
  obtain ⟨⟨x,y⟩,-,rfl,rfl⟩:=zq h
  clear h
  refine ⟨⟨1,?_⟩,z0o rfl⟩
  show den _ _ zh5 [I x.p.tx,I x.p.at_,I x.o.coin,.l 2 (x.o.lock.map eOp),I x.height,.b x.reward,I y.p.tx,I y.p.at_,I y.o.coin,.l 2 (y.o.lock.map eOp),I y.height,.b y.reward] []=ret (decide (x=y))
  rw [← z0cz]
  unfold zh5
  repeat' (first|refine dq1 ?_|refine dqk rfl (z99 x.o y.o) ?_|exact z6 rfl rfl|refine tU (fun h=>?_) fun h=>?_|fail)
noncomputable def zba:za:=spD (fun _:List Coin × List Coin=>True) fun x=>decide (x.1=x.2)
noncomputable def z3c:za:=spD (fun _:List Coin × List Coin=>True) fun x=>decide (x.1=x.2)
theorem zr7 (l m:List Coin):zba [.l 6 (l.map z9),.l 6 (m.map z9)]=some [.b (decide (l=m))]:=zl (f:=fun x:List Coin × List Coin=>decide (x.1=x.2)) (l,m) trivial
theorem z6u (l m:List Coin):z3c [.l 6 (l.map z9),.l 6 (m.map z9)]=some [.b (decide (l=m))]:=zl (f:=fun x:List Coin × List Coin=>decide (x.1=x.2)) (l,m) trivial
theorem zh7 {α:Type} [DecidableEq α] (l m:List α):decide (l=m)=if (l.length:Int)≠m.length then false else decide (l=m):=by
 by_cases h:(l.length:Int)≠m.length
 ·rw [if_pos h,decide_eq_false]
  rintro rfl
  exact h rfl
 ·rw [if_neg h]
theorem z07w:Meets Tryz.prog zba 44 ⟨[.one,.one,.clos 45 []],[(false,[.scal])],true⟩:=by
 refine zi (sp:=(z0m [(26,zb9)])) (sigs:=z0t) (cut:=[]) (hints:=[⟨4,[.t 6,.t 17]⟩]) (fn:=Tryz.f44) (t:=zh6) (by kernel_rfl) (by kernel_rfl) (by kernel_rfl) ?_ ?_
 ·exact (z0c (L:=[(26,zb9)]) ⟨z7 rfl z07v,trivial⟩)
 ·rintro ds rs hok h
  obtain ⟨⟨l,m⟩,-,rfl,rfl⟩:=zq h
  clear h
  have hll:=ok_l (hok (.l 6 (l.map z9)) (List.mem_cons_self ..))
  refine ⟨⟨l.length+1,?_⟩,z0o rfl⟩
  show den _ _ zh6 [.l 6 (l.map z9),.l 6 (m.map z9)] []=ret (decide (l=m))
  rw [zh7]
  unfold zh6
  repeat' (first|refine dq1 ?_|exact z6 rfl rfl|refine tR (fun h=>?_) fun h=>?_|fail)
  have hlm:l.length=m.length:=by omega
  (refine z0k (fun (_:Unit) k=>[.b false,I k]) (fun (_:Unit) k (r:List Coin)=>decide (r=m.drop k)) (fun _ _=>True) () l ?_ ?_ ?_ ?_ ?_;rfl;exact trivial;exact Nat.lt_succ_self _)
  ·rintro _ k x r hx hd hk - again hag
   have hy:m[k]? = some (m[k]'(by omega)):=List.getElem?_eq_getElem (by omega)
   have hdy:m.drop k=m[k]'(by omega)::m.drop (k+1):=List.drop_eq_getElem_cons (by omega)
   rw [hdy]
   generalize m[k]'(by omega)=y at *
   have e:decide (x::r=y::m.drop (k+1))=if decide (x=y)=true then decide (r=m.drop (k+1)) else false:=by
    by_cases h:x=y
    ·simp [h]
    ·simp [h]
   rw [e]
   have hkm:k<m.length:=by omega
   repeat' (first|refine dq1 ?_|refine dqc ?_|refine dqm ?_|refine dqk rfl (zr6 x y) ?_|exact z6 rfl rfl|exact zw rfl rfl (hag () trivial)|refine tN (fun h=>?_) fun h=>?_|refine dqT ?_|fail)
  ·rintro _ - again
   rw [hlm,List.drop_length]
   repeat' (first|refine dq1 ?_|exact z6 rfl rfl|refine dqF ?_|fail)
theorem zf6:Meets Tryz.prog z3c 13 ⟨[.one,.one],[(false,[.scal])],true⟩:=by
 refine zi (sp:=(z0m [(22,zba)])) (sigs:=z0t) (cut:=[]) (hints:=[]) (fn:=Tryz.f13) (t:=zk3) (by kernel_rfl) (by kernel_rfl) (by kernel_rfl) ?_ ?_
 ·exact (z0c (L:=[(22,zba)]) ⟨z7 rfl z07w,trivial⟩)
 ·rintro ds rs - h
  obtain ⟨⟨l,m⟩,-,rfl,rfl⟩:=zq h
  clear h
  refine ⟨⟨1,?_⟩,z0o rfl⟩
  show den _ _ zk3 [.l 6 (l.map z9),.l 6 (m.map z9)] []=ret (decide (l=m))
  unfold zk3
  repeat' (first|refine dqk rfl (zr7 l m) ?_|exact z6 rfl rfl|fail)
end
section
open Go.RowKit
open Go.Lib (itoa)
set_option maxRecDepth 100000
set_option maxHeartbeats 4000000
theorem z0fu (x y:In):(if x.p=y.p then decide (x.key=y.key) else false)=decide (x=y):=by
 cases x;cases y
 by_cases h:(‹Point› : Point)=‹Point› <;> simp only [In.mk.injEq,Bool.decide_and] <;> split <;> simp [*]
theorem z0fv (t u:Tx):(if t.height=u.height then if decide (t.ins=u.ins)=true then decide (t.outs=u.outs) else false else false)=decide (t=u):=by
 cases t;cases u
 simp only [Tx.mk.injEq,Bool.decide_and]
 split <;> rename_i h
 ·split <;> rename_i h2
  ·simp [h,h2]
  ·simp [h,h2]
 ·simp [h]
noncomputable def zbb:za:=spD (fun _:In × In=>True) fun x=>decide (x.1=x.2)
theorem zr8 (x y:In):zbb (eIn x++eIn y)=some [.b (decide (x=y))]:=zl (f:=fun x:In × In=>decide (x.1=x.2)) (x,y) trivial
noncomputable def ze5:za:=spD (fun _:List In × List In=>True) fun x=>decide (x.1=x.2)
theorem z053 (l m:List In):ze5 [.l 3 (l.map eIn),.l 3 (m.map eIn)]=some [.b (decide (l=m))]:=zl (f:=fun x:List In × List In=>decide (x.1=x.2)) (l,m) trivial
noncomputable def zf7:za:=spD (fun _:List Out × List Out=>True) fun x=>decide (x.1=x.2)
theorem z00m (l m:List Out):zf7 [.l 2 (l.map z2f),.l 2 (m.map z2f)]=some [.b (decide (l=m))]:=zl (f:=fun x:List Out × List Out=>decide (x.1=x.2)) (l,m) trivial
noncomputable def z6v:za:=spD (fun _:Tx × Tx=>True) fun x=>decide (x.1=x.2)
theorem zwl (x y:Tx):z6v (eTx x++eTx y)=some [.b (decide (x=y))]:=zl (f:=fun x:Tx × Tx=>decide (x.1=x.2)) (x,y) trivial
attribute [local irreducible] z0y spD z29 zh zo
attribute [local irreducible] den denX z1b z1m
def zh8:T :=
 .lets [.eqs false [(.v 0,.v 3),(.v 1,.v 4)]] [] (.ite (.v 6) (.lets [.call 20 [.v 2,.v 5] 0] [] (.ret [.v 7])) (.ret [.c (.b false)]))
def z0ad:T :=
 .lets [.call 65 [.v 9,.v 10,.v 11,.v 12,.v 13,.v 14] 0] [] (.lets [.not (.v 15)] [] (.ite (.v 16) (.ret [.c (.b false)]) (.lets [.bin .add (.v 7) (.c (.i .i64 1))] [] (.again 0
 [.v 6,.v 17]))))
def z0ae:T :=
 .lets [.idx (.v 0) (.v 7) 0,.idx (.v 0) (.v 7) 1,.idx (.v 0) (.v 7) 2] [] (.lets [] [.inr 3 (.v 1) (.v 7)] (.lets [.idx (.v 1) (.v 7) 0,.idx (.v 1) (.v 7) 1,.idx (.v 1) (.v 7)
 2] [] z0ad))
def z0af:T :=
 .lets [.len (.v 0)] [] (.loop [.c (.b false),.c (.i .i64 0)] (.lets [.bin .lss (.v 7) (.v 5)] [] (.ite (.v 8) (.lets [] [.inr 3 (.v 0) (.v 7)] z0ae) (.ret [.c (.b true)]))))
def zwm:T :=
 .lets [.len (.v 0)] [] (.lets [.len (.v 1)] [] (.lets [.bin .neq (.v 2) (.v 3)] [] (.ite (.v 4) (.ret [.c (.b false)]) z0af)))
def z07x:T :=
 .lets [.call 21 [.v 9,.v 10,.v 11,.v 12] 0] [] (.lets [.not (.v 13)] [] (.ite (.v 14) (.ret [.c (.b false)]) (.lets [.bin .add (.v 7) (.c (.i .i64 1))] [] (.again 0 [.v 6,.v
 15]))))
def z07y:T :=
 .lets [] [.inr 2 (.v 0) (.v 7)] (.lets [.idx (.v 0) (.v 7) 0,.idx (.v 0) (.v 7) 1] [] (.lets [] [.inr 2 (.v 1) (.v 7)] (.lets [.idx (.v 1) (.v 7) 0,.idx (.v 1) (.v 7) 1] []
 z07x)))
def z07z:T :=
 .ite (.v 4) (.ret [.c (.b false)]) (.lets [.len (.v 0)] [] (.loop [.c (.b false),.c (.i .i64 0)] (.lets [.bin .lss (.v 7) (.v 5)] [] (.ite (.v 8) z07y (.ret [.c (.b
 true)])))))
def znf:T :=
 .lets [.len (.v 0)] [] (.lets [.len (.v 1)] [] (.lets [.bin .neq (.v 2) (.v 3)] [] z07z))
def zk4:T :=
 .lets [.bin .eql (.v 0) (.v 3)] [] (.ite (.v 6) (.lets [.call 66 [.v 1,.v 4] 0] [] (.ite (.v 7) (.lets [.call 67 [.v 2,.v 5] 0] [] (.ret [.v 8])) (.ret [.c (.b false)]))) (.ret
 [.c (.b false)]))
attribute [local irreducible] z89
theorem z080:Meets Tryz.prog zbb 75 ⟨[.agg 3,.agg 3],[(false,[.scal])],true⟩:=by
 refine zi (sp:=(z0m [(20,z89)])) (sigs:=z0t) (cut:=[]) (hints:=[]) (fn:=Tryz.f75) (t:=zh8) (by kernel_rfl) (by kernel_rfl) (by kernel_rfl) ?_ ?_
 ·exact (z0c (L:=[(20,z89)]) ⟨z7 rfl z03d,trivial⟩)
 ·rintro ds rs - h
  obtain ⟨⟨x,y⟩,-,rfl,rfl⟩:=zq h
  clear h
  refine ⟨⟨1,?_⟩,z0o rfl⟩
  show den _ _ zh8 [I x.p.tx,I x.p.at_,.l 2 (x.key.map eOp),I y.p.tx,I y.p.at_,.l 2 (y.key.map eOp)] []=ret (decide (x=y))
  rw [← z0fu]
  unfold zh8
  repeat' (first|refine dq1 ?_|refine dqk rfl (zj7 _ _) ?_|exact z6 rfl rfl|refine tR (fun h=>?_) fun h=>?_|fail)
theorem z0f6:Meets Tryz.prog ze5 74 ⟨[.one,.one,.clos 75 []],[(false,[.scal])],true⟩:=by
 refine zi (sp:=(z0m [(65,zbb)])) (sigs:=z0t) (cut:=[]) (hints:=[⟨4,[.t 6,.t 17]⟩]) (fn:=Tryz.f74) (t:=zwm) (by kernel_rfl) (by kernel_rfl) (by kernel_rfl) ?_ ?_
 ·exact (z0c (L:=[(65,zbb)]) ⟨z7 rfl z080,trivial⟩)
 ·rintro ds rs hok h
  obtain ⟨⟨l,m⟩,-,rfl,rfl⟩:=zq h
  clear h
  have hll:=ok_l (hok (.l 3 (l.map eIn)) (List.mem_cons_self ..))
  refine ⟨⟨l.length+1,?_⟩,z0o rfl⟩
  show den _ _ zwm [.l 3 (l.map eIn),.l 3 (m.map eIn)] []=ret (decide (l=m))
  rw [zh7]
  unfold zwm
  repeat' (first|refine dq1 ?_|exact z6 rfl rfl|refine tR (fun h=>?_) fun h=>?_|fail)
  have hlm:l.length=m.length:=by omega
  (refine z0k (fun (_:Unit) k=>[.b false,I k]) (fun (_:Unit) k (r:List In)=>decide (r=m.drop k)) (fun _ _=>True) () l ?_ ?_ ?_ ?_ ?_;rfl;exact trivial;exact Nat.lt_succ_self _)
  ·rintro _ k x r hx hd hk - again hag
   have hy:m[k]? = some (m[k]'(by omega)):=List.getElem?_eq_getElem (by omega)
   have hdy:m.drop k=m[k]'(by omega)::m.drop (k+1):=List.drop_eq_getElem_cons (by omega)
   rw [hdy]
   generalize m[k]'(by omega)=y at *
   have e:decide (x::r=y::m.drop (k+1))=if decide (x=y)=true then decide (r=m.drop (k+1)) else false:=by
    by_cases h:x=y
    ·simp [h]
    ·simp [h]
   rw [e]
   have hkm:k<m.length:=by omega
   repeat' (first|refine dq1 ?_|refine dqc ?_|refine dqm ?_|refine dqk rfl (zr8 x y) ?_|exact z6 rfl rfl|exact zw rfl rfl (hag () trivial)|refine tN (fun h=>?_) fun h=>?_|refine dqT ?_|fail)
  ·rintro _ - again
   rw [hlm,List.drop_length]
   repeat' (first|refine dq1 ?_|exact z6 rfl rfl|refine dqF ?_|fail)
attribute [local irreducible] z35
theorem z0d0:Meets Tryz.prog zf7 77 ⟨[.one,.one,.clos 46 []],[(false,[.scal])],true⟩:=by
 refine zi (sp:=(z0m [(21,z35)])) (sigs:=z0t) (cut:=[]) (hints:=[⟨4,[.t 6,.t 17]⟩]) (fn:=Tryz.f77) (t:=znf) (by kernel_rfl) (by kernel_rfl) (by kernel_rfl) ?_ ?_
 ·exact (z0c (L:=[(21,z35)]) ⟨z7 rfl zdc,trivial⟩)
 ·rintro ds rs hok h
  obtain ⟨⟨l,m⟩,-,rfl,rfl⟩:=zq h
  clear h
  have hll:=ok_l (hok (.l 2 (l.map z2f)) (List.mem_cons_self ..))
  refine ⟨⟨l.length+1,?_⟩,z0o rfl⟩
  show den _ _ znf [.l 2 (l.map z2f),.l 2 (m.map z2f)] []=ret (decide (l=m))
  rw [zh7]
  unfold znf
  repeat' (first|refine dq1 ?_|exact z6 rfl rfl|refine tR (fun h=>?_) fun h=>?_|fail)
  have hlm:l.length=m.length:=by omega
  (refine z0k (fun (_:Unit) k=>[.b false,I k]) (fun (_:Unit) k (r:List Out)=>decide (r=m.drop k)) (fun _ _=>True) () l ?_ ?_ ?_ ?_ ?_;rfl;exact trivial;exact Nat.lt_succ_self _)
  ·rintro _ k x r hx hd hk - again hag
   have hy:m[k]? = some (m[k]'(by omega)):=List.getElem?_eq_getElem (by omega)
   have hdy:m.drop k=m[k]'(by omega)::m.drop (k+1):=List.drop_eq_getElem_cons (by omega)
   rw [hdy]
   generalize m[k]'(by omega)=y at *
   have e:decide (x::r=y::m.drop (k+1))=if decide (x=y)=true then decide (r=m.drop (k+1)) else false:=by
    by_cases h:x=y
    ·simp [h]
    ·simp [h]
   rw [e]
   have hkm:k<m.length:=by omega
   repeat' (first|refine dq1 ?_|refine dqc ?_|refine dqm ?_|refine dqk rfl (z99 x y) ?_|exact z6 rfl rfl|exact zw rfl rfl (hag () trivial)|refine tN (fun h=>?_) fun h=>?_|refine dqT ?_|fail)
  ·rintro _ - again
   rw [hlm,List.drop_length]
   repeat' (first|refine dq1 ?_|exact z6 rfl rfl|refine dqF ?_|fail)
attribute [local irreducible] ze5
theorem z0ag:Meets Tryz.prog z6v 26 ⟨[.agg 3,.agg 3],[(false,[.scal])],true⟩:=by
 refine zi (sp:=(z0m [(66,ze5),(67,zf7)])) (sigs:=z0t) (cut:=[]) (hints:=[]) (fn:=Tryz.f26) (t:=zk4) (by kernel_rfl) (by kernel_rfl) (by kernel_rfl) ?_ ?_
 ·exact (z0c (L:=[(66,ze5),(67,zf7)]) ⟨z7 rfl z0f6,z7 rfl z0d0,trivial⟩)
 ·rintro ds rs - h
  obtain ⟨⟨x,y⟩,-,rfl,rfl⟩:=zq h
  clear h
  refine ⟨⟨1,?_⟩,z0o rfl⟩
  show den _ _ zk4 [I x.height,.l 3 (x.ins.map eIn),.l 2 (x.outs.map z2f),I y.height,.l 3 (y.ins.map eIn),.l 2 (y.outs.map z2f)] []=ret (decide (x=y))
  rw [← z0fv]
  unfold zk4
  repeat' (first|refine dq1 ?_|refine dqk rfl (z053 _ _) ?_|refine dqk rfl (z00m _ _) ?_|exact z6 rfl rfl|((first|refine tR ?_ ?_|refine tB ?_ ?_) <;> intro h)|fail)
attribute [local irreducible] z07n z02 z04z z3p
end
section
open Go.RowKit
def zh9:List CF→List Dt→Prop
 | .scal::fs,d::ds=>d.scal=true∧zh9 fs ds
 | _::fs,_::ds=>zh9 fs ds
 | _,_=>True
theorem zng:∀ {fs:List CF} {ds:List Dt},zh9 fs ds→∀ (j:Nat) (d:Dt),fs[j]? = some .scal→ds[j]? = some d→d.scal=true
 | [],_,_,j,d,hf,_=>by cases hf
 | _::_,[],_,j,d,_,hd=>by cases hd
 | c::fs,x::ds,h,j,d,hf,hd=>by
  cases j with
  | zero =>
   simp only [List.getElem?_cons_zero,Option.some.injEq] at hf hd
   subst hf;subst hd
   exact h.1
  | succ j =>
   have h':zh9 fs ds:=by
    cases c with
    | scal=>exact h.2
    | pure=>exact h
    | fresh e sz=>exact h
   exact zng h' j d (by simpa using hf) (by simpa using hd)
theorem z2v {s:Sig} {rs:List Dt} (h:zh9 (zu s) rs):z5x s rs:=fun i d h1 h2=>zng h i d h1 h2
def ze6:List CF→Bool
 | []=>true
 | .fresh _ _::_=>false
 | _::fs=>ze6 fs
theorem zdd:∀ {fs:List CF},ze6 fs=true→∀ c ∈ fs,c = .scal∨c = .pure
 | [],_,c,h=>by cases h
 | x::fs,h,c,hc=>by
  cases x with
  | scal =>
   rcases List.mem_cons.1 hc with rfl|hc
   ·exact .inl rfl
   ·exact zdd (fs:=fs) h c hc
  | pure =>
   rcases List.mem_cons.1 hc with rfl|hc
   ·exact .inr rfl
   ·exact zdd (fs:=fs) h c hc
  | fresh e sz=>cases h
section
variable {W W':World} {F F':Nat→Prop} {pk:List PK} {b:Bool}
theorem zwn {s:Sig} {rs:List Dt} {v:Value} {us:List Value} (hv:zmk s.res v us) (hc:ze6 (zu s)=true) (hs:zh9 (zu s) rs) (hr:Reps W' F' rs us) (hl:rs.length=(zu s).length) (hF':∀ b,F' b→F b∨(W.heap.size≤b∧b<W'.heap.size)):∃ us F',ResR W F W' s rs v us F' :=
 ⟨us,F',zjx hv (zdd hc) (zng hs) hl hr hF'⟩
theorem z0fw {fs:List CF} {ds:List Dt} {cs:List Value} (hc:ze6 fs=true) (hs:zh9 fs ds) (hr:Reps W' F' ds cs) (hl:ds.length=fs.length) (hF':∀ b,F' b→F b∨(W.heap.size≤b∧b<W'.heap.size)):∃ us F',ResR W F W' ⟨pk,[(true,fs)],b⟩ ds (.agg cs.toArray) us F' :=
 zwn (us:=cs) (F':=F') ⟨rfl,by rw [← hr.len,hl]⟩ (by simpa [zu] using hc) (by simpa [zu] using hs) hr (by simpa [zu] using hl) hF'
theorem z081 {fs:List CF} {ds:List Dt} {cs:List Value} {n:Int} (hc:ze6 (fs++[.scal])=true) (hs:zh9 (fs++[.scal]) (ds++[I n])) (hr:Reps W' F' ds cs) (hl:ds.length=fs.length) (hn:I64 n) (hF':∀ b,F' b→F b∨(W.heap.size≤b∧b<W'.heap.size)):∃ us F',ResR W F W' ⟨pk,[(true,fs),(false,[.scal])],b⟩ (ds++[I n]) (.tuple #[.agg cs.toArray,.int .i64 n]) us F' :=
 zwn (us:=cs++[.int .i64 n]) (F':=F') ⟨[.agg cs.toArray,.int .i64 n],rfl,.agg cs.toArray,[.int .i64 n],cs,[.int .i64 n],rfl,rfl,⟨rfl,by rw [← hr.len,hl]⟩,.int .i64 n,[],[.int .i64 n],[],rfl,rfl,⟨rfl,rfl⟩,rfl,rfl⟩ (by simpa [zu] using hc) (by simpa [zu] using hs) (hr.append ⟨.i _ _ (wrap_i64 hn),trivial⟩) (by simp [zu,hl]) hF'
theorem z0f7 {d:Dt} {v:Value} {n:Int} (hr:Rep W' F' d v) (hn:I64 n) (hF':∀ b,F' b→F b∨(W.heap.size≤b∧b<W'.heap.size)):∃ us F',ResR W F W' ⟨pk,[(false,[.pure]),(false,[.scal])],b⟩ [d,I n] (.tuple #[v,.int .i64 n]) us F' :=
 zwn (us:=[v,.int .i64 n]) (F':=F') ⟨[v,.int .i64 n],rfl,v,[.int .i64 n],[v],[.int .i64 n],rfl,rfl,⟨rfl,rfl⟩,.int .i64 n,[],[.int .i64 n],[],rfl,rfl,⟨rfl,rfl⟩,rfl,rfl⟩ rfl ⟨rfl,trivial⟩ ⟨hr,.i _ _ (wrap_i64 hn),trivial⟩ rfl hF'
theorem zig {W W':World} {F:Nat→Prop} {Γ:List Res}:∀ b,Free W.heap.size F Γ W' b→F b∨(W.heap.size≤b∧b<W'.heap.size):=fun b h=>h.1
end
theorem zih {α:Type} {S:Sh α} {e:α→List Dt} (hE:ShE S e) {W:World} {F:Nat→Prop} (hF:∀ b,F b→b<W.heap.size) {x:α} {cs:List Value} (hr:Reps W F (e x) cs):Sep W F [rep x cs S] W:=(Sep.start W F hF).addRep (S:=S) (S.more (fun b hb=>⟨.inl hb,by simp⟩) (hE.of hr))
theorem z0ah {α:Type} {S:Sh α} {x:α} {cs:List Value}:(rep x cs S).block=none:=by unfold rep zgg;rfl
theorem z0d1 {α:Type} {S:Sh α} {e:α→List Dt} (hE:ShE S e) {W:World} {F:Nat→Prop} {Γ:List Res} (hS:Sep W F Γ W) (hn:∀ r ∈ Γ,r.block=none) {x:α} {cs:List Value} (hr:Reps W F (e x) cs):Sep W F (rep x cs S::Γ) W:=hS.addRep (S:=S) (S.more (fun b hb=>⟨.inl hb,fun r hr'=>by rw [hn r hr'];simp⟩) (hE.of hr))
end
section
open Go.RowKit
theorem zpk (ns:List Int) (bs:List Block) (b:Block) (m:Nat):Er (z39 ns bs b m):=z0g (z0g (z0a _ rfl) (z0a _ rfl)) (z0g (z0a _ rfl) (z0g (z0a _ rfl) (z0a _ rfl)))
theorem z00r (ns:List Int) (bs:List Block) (k:Nat) (n:Int) (b:Block):Er (z45 ns bs k n b):=z0g (z0a _ rfl) (z0g (zle _) (z0g (z0a _ rfl) (zpk ..)))
theorem zpl (ns:List Int) (bs:List Block):∀ f k:Nat,Er (z5f ns bs k f)
 | 0,k=>by unfold z5f;exact z0a _ rfl
 | f+1,k=>by unfold z5f;exact z0g (z00r ..) (zpl ns bs f _)
theorem znh (t:Tree):Er (z0n t):=z0g (z0a _ rfl) (z0g (z0a _ rfl) (zpl ..))
theorem z058 (t:Tree) (n:Int) (b:Block):Er (z1w t n b) :=
 z0g (znh _) (z0g (z0a _ rfl) (z0g (zle _) (z0g (z0a _ rfl) (z0g (zpk ..) (z0g (z0a _ rfl) (z0a _ rfl))))))
end
section
open Go.RowKit
set_option maxRecDepth 100000
set_option maxHeartbeats 4000000
theorem zpm:∀ l s:List (List UInt8),Er (z6n l s)
 | [],_=>z0a _ rfl
 | x::l,s=>z0g (z0a _ rfl) (z0g (z0a _ rfl) (zpm l _))
theorem zni (k:Book):Er (zt k):=z0g (z0a _ rfl) (zpm _ _)
theorem zwv (t:List (List UInt8)) (s:List UInt8):Er (z1t t s):=z0g (z0a _ rfl) (z0g (z0a _ rfl) (z0a _ rfl))
theorem z0ak (k:Book) (s:List UInt8):Er (z1n k s):=z0g (zni k) (z0g (z0a _ rfl) (zwv _ _))
theorem zww:∀ (l t:List (List UInt8)) (o:List Int),Er (z34 l t o).2.2
 | [],t,o=>z0a _ rfl
 | s::l,t,o=>by
  rw [z34]
  split
  ·exact z0a _ rfl
  ·split
   ·exact zwv _ _
   ·exact zww l _ _
theorem z05a (k:Book) (l:List (List UInt8)):Er (z11 k l).2.2:=by
 unfold z11
 split
 ·exact zni k
 ·exact zww _ _ _
theorem zaf {n:Int} (h:0≤n∧n≤1000):I64 n:=⟨by have:=h.1;omega,by have:=h.2;omega⟩
noncomputable def z36:za:=spD (fun _:Book=>True) fun k=>zt k
theorem zd0 (k:Book):z36 [.l 1 (k.texts.map z0f)]=some [I (zt k)]:=zl (f:=fun k:Book=>zt k) k trivial
theorem zj9:Meets Tryz.prog z36 37 ⟨[.agg 1],[(false,[.scal])],true⟩ :=
 zf3 rfl (z1x (fn:=Tryz.f37) (by kernel_rfl) (by kernel_rfl) (by kernel_rfl)) fun k _ W F us hF h=>by
  obtain ⟨cs,rfl,hr⟩:=z88 h
  exact ⟨(zni k).i64,zan k cs W F (she_book.of hr) hF.1⟩
theorem z083 {W W':World} {F:Nat→Prop}:∀ b,Mid W W' b→F b∨(W.heap.size≤b∧b<W'.heap.size):=fun b h=>.inr h
theorem z0al (k:Book) (s:List UInt8):I64 (z10 k s):=by
 unfold z10
 split
 ·exact zaf ⟨by decide,by decide⟩
 rename_i h
 split
 ·exact zaf ⟨by decide,by decide⟩
 ·exact zaf (zt0 (z7y (Decidable.not_not.1 h)))
noncomputable def z69:za:=spD (fun _:Book × List UInt8=>True) fun x=>(z1z x.1 x.2,z10 x.1 x.2,z1n x.1 x.2)
theorem znj (k:Book) (s:List UInt8):z69 [.l 1 (k.texts.map z0f),.s s]=some [.l 1 ((z1z k s).map z0f),I (z10 k s),I (z1n k s)]:=zl (f:=fun x:Book × List UInt8=>(z1z x.1 x.2,z10 x.1 x.2,z1n x.1 x.2)) (k,s) trivial
theorem z05b:Meets Tryz.prog z69 98 ⟨[.agg 1,.one],[(true,[.pure]),(false,[.scal]),(false,[.scal])],false⟩ :=
 z3x rfl (z1x (fn:=Tryz.f98) (by kernel_rfl) (by kernel_rfl) (by kernel_rfl)) fun x _ W F us hF h=>by
  obtain ⟨k,s⟩:=x
  obtain ⟨cs,us,rfl,h1,h⟩:=zds (d1:=z70 k) (d2:=z0f s) h rfl
  obtain ⟨v,us,rfl,h2,h⟩:=z1o h
  obtain rfl:=z2t h
  obtain ⟨rfl,hs⟩:=zid h2
  refine (z06u k cs s W F (she_book.of h1) hF.1 hs).mono ?_
  rintro e w' ⟨A,n,c,rfl,hr,hb⟩
  refine ⟨_,rfl,hb,?_⟩
  exact zwn (us:=[.slice A n c,.int .i64 (z10 k s),.int .i64 (z1n k s)]) (F':=Mid W w') ⟨[.agg #[.slice A n c],.int .i64 (z10 k s),.int .i64 (z1n k s)],rfl,.agg #[.slice A n c],_,[.slice A n c],_,rfl,rfl,⟨rfl,rfl⟩,.int .i64 (z10 k s),_,[.int .i64 (z10 k s)],_,rfl,rfl,⟨rfl,rfl⟩,.int .i64 (z1n k s),[],[.int .i64 (z1n k s)],[],rfl,rfl,⟨rfl,rfl⟩,rfl,rfl⟩ rfl ⟨rfl,rfl,trivial⟩ ⟨z72 zbk hr,.i _ _ (wrap_i64 (z0al k s)),.i _ _ (wrap_i64 (z0ak k s).i64),trivial⟩ rfl z083
noncomputable def z9b:za:=spD (fun x:Book × List (List UInt8)=>x.2.length≤8796093022207) fun x=>z11 x.1 x.2
theorem zrb (k:Book) (l:List (List UInt8)) (h:l.length≤8796093022207):z9b [.l 1 (k.texts.map z0f),.l 1 (l.map z0f)]=some [.l 1 ((z11 k l).1.map z0f),.l 1 ((z11 k l).2.1.map z04),I (z11 k l).2.2]:=zl (p:=fun x:Book × List (List UInt8)=>x.2.length≤8796093022207) (f:=fun x:Book × List (List UInt8)=>z11 x.1 x.2) (k,l) h
theorem z084:Meets Tryz.prog z9b 49 ⟨[.agg 1,.one],[(true,[.pure]),(false,[.pure]),(false,[.scal])],false⟩ :=
 z3x rfl (z1x (fn:=Tryz.f49) (by kernel_rfl) (by kernel_rfl) (by kernel_rfl)) fun x hx W F us hF h=>by
  obtain ⟨k,l⟩:=x
  obtain ⟨cs,us,rfl,h1,h⟩:=zds (d1:=z70 k) (d2:=Enc.e l) h rfl
  obtain ⟨v,us,rfl,h2,h⟩:=z1o h
  obtain rfl:=z2t h
  obtain ⟨A,n,c,rfl,hl⟩:=z66 zbk h2
  have:=hl.1
  simp only at hx
  refine (z0c8 k cs l A n c W F (she_book.of h1) hl hF.1 (by omega)).mono ?_
  rintro e w' ⟨A,n,c,A',n',c',rfl,hr,hr',hb⟩
  refine ⟨_,rfl,hb,?_⟩
  exact zwn (us:=[.slice A n c,.slice A' n' c',.int .i64 (z11 k l).2.2]) (F':=Mid W w') ⟨[.agg #[.slice A n c],.slice A' n' c',.int .i64 (z11 k l).2.2],rfl,.agg #[.slice A n c],_,[.slice A n c],_,rfl,rfl,⟨rfl,rfl⟩,.slice A' n' c',_,[.slice A' n' c'],_,rfl,rfl,⟨rfl,rfl⟩,.int .i64 (z11 k l).2.2,[],[.int .i64 (z11 k l).2.2],[],rfl,rfl,⟨rfl,rfl⟩,rfl,rfl⟩ rfl ⟨rfl,trivial⟩ ⟨z72 zbk hr,z72 z2s hr',.i _ _ (wrap_i64 (z05a k l).i64),trivial⟩ rfl z083
noncomputable def z6a:za:=spD (fun _:Block=>True) fun k=>zg k
theorem znk (b:Block):z6a [I b.parent,I b.height,I b.work,I b.nonce,.l 3 (b.txs.map eTx)]=some [I (zg b)]:=zl (f:=fun k:Block=>zg k) b trivial
theorem z05c:Meets Tryz.prog z6a 48 ⟨[.agg 5],[(false,[.scal])],true⟩ :=
 zf3 rfl (z1x (fn:=Tryz.f48) (by kernel_rfl) (by kernel_rfl) (by kernel_rfl)) fun k _ W F us hF h=>by
  obtain ⟨cs,rfl,hr⟩:=z88 h
  exact ⟨(zle k).i64,z77 k cs W F (she_block.of hr) hF.1⟩
theorem zhb (n:Int):0≤z07 n∧z07 n≤1000:=by
  unfold z07
  split
  ·exact ⟨by decide,by decide⟩
  ·rename_i h
   have h1:(0:Int)≤2 ^ (min ((n - 1) / 8) 30).toNat:=Int.pow_nonneg (by decide)
   have h2:=Int.ediv_nonneg (show (0:Int)≤64 by decide) h1
   have h3:=Int.ediv_le_self (2 ^ (min ((n - 1) / 8) 30).toNat) (show (0:Int)≤64 by decide)
   exact ⟨h2,by omega⟩
theorem zpn (n:Int):I64 (z07 n)∧I64 (z38 n):=by
 have h1:=zhb n
 have h2:0≤z38 n∧z38 n≤1000:=by
  unfold z38
  split <;> exact ⟨by decide,by decide⟩
 exact ⟨zaf h1,zaf h2⟩
noncomputable def z3d:za:=spD (fun _:Int=>True) fun n=>(z07 n,z38 n)
theorem zca (n:Int):z3d [I n]=some [I (z07 n),I (z38 n)]:=zl (f:=fun n:Int=>(z07 n,z38 n)) n trivial
theorem z0d4 (n:Int) (w:World):Calls Tryz.prog 36 #[.int .i64 n] w fun e w'=>e = .returned (.tuple #[.int .i64 (z07 n),.int .i64 (z38 n)])∧w=w':=by
 by_cases h:n<1∨1000<n
 ·go_enter Tryz.func36,Tryz.ntmps36
  go_wp2
  all_goals (go_ret2;refine ⟨zbm ?_ ?_,rfl⟩)
  all_goals simp [z07,z38,h]
 ·have h1:1≤n:=by omega
  have h2:n≤1000:=by omega
  go_enter Tryz.func36,Tryz.ntmps36
  go_wp2
  all_goals (go_ret2;refine ⟨zbm ?_ ?_,rfl⟩)
  all_goals first|(simp only [z07];rw [if_neg (by omega)])|(simp [z38];omega)
theorem zhc:Meets Tryz.prog z3d 36 ⟨[.one],[(false,[.scal]),(false,[.scal])],true⟩ :=
 z3x rfl (z1x (fn:=Tryz.f36) (by kernel_rfl) (by kernel_rfl) (by kernel_rfl)) fun n _ W F us hF h=>by
  obtain ⟨v,us,rfl,h2,h⟩:=z1o (d:=I n) h
  obtain rfl:=z2t h
  obtain ⟨rfl,hn⟩:=z8i h2
  refine (z0d4 n W).mono ?_
  rintro e w' ⟨rfl,rfl⟩
  exact ⟨_,rfl,Below.refl _ _,zn5 rfl rfl (.i _ _ (wrap_i64 (zpn n).1)) (.i _ _ (wrap_i64 (zpn n).2))⟩
theorem z0d5 {α:Type} [DecidableEq α] (l:List α) (x:α) (h:l.length≤9223372036854775807):I64 (idx l x):=by
 have:=zgk l x
 exact ⟨by omega,by omega⟩
noncomputable def zag:za:=spD (fun _:List Int × Int=>True) fun x=>idx x.1 x.2
theorem zwx (l:List Int) (n:Int):zag [.l 1 (l.map z04),I n]=some [I (idx l n)]:=zl (f:=fun x:List Int × Int=>idx x.1 x.2) (l,n) trivial
theorem z0am:Meets Tryz.prog zag 55 ⟨[.one,.one],[(false,[.scal])],true⟩ :=
 zf3 rfl (z1x (fn:=Tryz.f55) (by kernel_rfl) (by kernel_rfl) (by kernel_rfl)) fun x _ W F us hF h=>by
  obtain ⟨l,n⟩:=x
  obtain ⟨v,us,rfl,h1,h⟩:=z1o h
  obtain ⟨v2,us,rfl,h2,h⟩:=z1o h
  obtain rfl:=z2t h
  obtain ⟨rfl,hn⟩:=z8i h2
  obtain ⟨A,m,c,rfl,hl⟩:=z66 z2s h1
  have hlm:l.length=m:=hl.1
  have:=hl.2.1
  have:=hl.2.2.1
  refine ⟨z0d5 l n (by omega),(zcs l n A m c W F hl).mono ?_⟩
  rintro e w' ⟨rfl,rfl⟩
  exact ⟨rfl,Below.refl _ _⟩
noncomputable def zcb:za:=spD (fun l:List Int=>l.length≤1000000) fun l=>l
theorem z00s (l:List Int) (h:l.length≤1000000):zcb [.l 1 (l.map z04)]=some [.l 1 (l.map z04)]:=zl (p:=fun l:List Int=>l.length≤1000000) (f:=fun l:List Int=>l) l h
theorem z0d6:Meets Tryz.prog zcb 60 ⟨[.one],[(false,[.fresh 3 1])],false⟩ :=
 za1 (e:=fun x:{ l:List Int // l.length≤1000000 }=>Enc.e x.1) (xs:=fun x=>x.1) z2s rfl rfl (by decide) (z1x (fn:=Tryz.f60) (by kernel_rfl) (by kernel_rfl) (by kernel_rfl)) fun x W F us hF h=>by
  obtain ⟨v,us,rfl,h1,h⟩:=z1o h
  obtain rfl:=z2t h
  obtain ⟨A,n,c,rfl,k1⟩:=z66 z2s h1
  have:=x.2
  have:=k1.1
  exact (zp0 x.1 A n c W F k1 hF (by omega)).mono fun r W' h=>⟨n,h⟩
noncomputable def zcc:za:=spD (fun l:List (List UInt8)=>l.length≤1000000) fun l=>l
theorem z00t (l:List (List UInt8)) (h:l.length≤1000000):zcc [.l 1 (l.map z0f)]=some [.l 1 (l.map z0f)]:=zl (p:=fun l:List (List UInt8)=>l.length≤1000000) (f:=fun l:List (List UInt8)=>l) l h
theorem z0d7:Meets Tryz.prog zcc 40 ⟨[.one],[(false,[.fresh 9 1])],false⟩ :=
 za1 (e:=fun x:{ l:List (List UInt8) // l.length≤1000000 }=>Enc.e x.1) (xs:=fun x=>x.1) zbk rfl rfl (by decide) (z1x (fn:=Tryz.f40) (by kernel_rfl) (by kernel_rfl) (by kernel_rfl)) fun x W F us hF h=>by
  obtain ⟨v,us,rfl,h1,h⟩:=z1o h
  obtain rfl:=z2t h
  obtain ⟨A,n,c,rfl,k1⟩:=z66 zbk h1
  have:=x.2
  have:=k1.1
  exact (zcr x.1 A n c W F k1 hF (by omega)).mono fun r W' h=>⟨n,h⟩
noncomputable def z5n:za:=spD TxSmall fun t=>t
theorem zhd (t:Tx) (h:TxSmall t):z5n [I t.height,.l 3 (t.ins.map eIn),.l 2 (t.outs.map z2f)]=some (eTx t):=zl (p:=TxSmall) (f:=fun t:Tx=>t) t h
theorem zwy:Meets Tryz.prog z5n 42 ⟨[.agg 3],[(true,[.scal,.pure,.pure])],false⟩ :=
 z3x rfl (z1x (fn:=Tryz.f42) (by kernel_rfl) (by kernel_rfl) (by kernel_rfl)) fun t ht W F us hF h=>by
  obtain ⟨cs,rfl,hr⟩:=z88 h
  refine (zwo t cs (zih she_tx hF.1 hr) At.z ht).mono ?_
  rintro e w' ⟨cs',rfl,hS⟩
  exact ⟨_,rfl,hS.below,z0fw rfl ⟨rfl,trivial⟩ (she_tx.to (hS.getRep At.z)) rfl zig⟩
theorem z0an (t:Tree) (m:Int):Er (z13 t m).2:=by
 unfold z13
 repeat' split
 all_goals first|exact znh t|exact z0a _ rfl
noncomputable def z59:za:=spD (fun _:Tree × Int=>True) fun x=>z13 x.1 x.2
theorem ze8 (t:Tree) (m:Int):z59 [.l 1 (t.names.map z04),.l 5 (t.blocks.map z0x),I m]=some [.l 1 ((z13 t m).1.map z04),I (z13 t m).2]:=zl (f:=fun x:Tree × Int=>z13 x.1 x.2) (t,m) trivial
theorem zlu:Meets Tryz.prog z59 59 ⟨[.agg 2,.one],[(false,[.pure]),(false,[.scal])],false⟩ :=
 z3x rfl (z1x (fn:=Tryz.f59) (by kernel_rfl) (by kernel_rfl) (by kernel_rfl)) fun x _ W F us hF h=>by
  obtain ⟨t,m⟩:=x
  obtain ⟨cs,us,rfl,h1,h⟩:=zds (d1:=z71 t) (d2:=z04 m) h rfl
  obtain ⟨v,us,rfl,h2,h⟩:=z1o h
  obtain rfl:=z2t h
  obtain ⟨rfl,hn⟩:=z8i h2
  refine (z0f8 t cs m (zih she_tree hF.1 h1) At.z).mono ?_
  rintro e w' ⟨A,n,c,rfl,hS⟩
  exact ⟨_,rfl,hS.below,z0f7 (z72 z2s (hS.getRds At.z)) (z0an t m).i64 zig⟩
theorem z085 (t:Tree) (m:Int):Er (z1g t m):=by
 unfold z1g
 repeat' split
 all_goals first|exact znh t|exact z0a _ rfl
noncomputable def z2h:za:=spD (fun _:Tree × Int=>True) fun x=>(zb x.1 x.2,z1g x.1 x.2)
theorem z37 (t:Tree) (m:Int):z2h [.l 1 (t.names.map z04),.l 5 (t.blocks.map z0x),I m]=some (z0x (zb t m)++[I (z1g t m)]):=zl (f:=fun x:Tree × Int=>(zb x.1 x.2,z1g x.1 x.2)) (t,m) trivial
theorem zdg:Meets Tryz.prog z2h 18 ⟨[.agg 2,.one],[(true,[.scal,.scal,.scal,.scal,.pure]),(false,[.scal])],false⟩ :=
 z3x rfl (z1x (fn:=Tryz.f18) (by kernel_rfl) (by kernel_rfl) (by kernel_rfl)) fun x _ W F us hF h=>by
  obtain ⟨t,m⟩:=x
  obtain ⟨cs,us,rfl,h1,h⟩:=zds (d1:=z71 t) (d2:=z04 m) h rfl
  obtain ⟨v,us,rfl,h2,h⟩:=z1o h
  obtain rfl:=z2t h
  obtain ⟨rfl,hn⟩:=z8i h2
  refine (z0d3 t cs m (zih she_tree hF.1 h1) At.z).mono ?_
  rintro e w' ⟨cs',rfl,hS⟩
  exact ⟨_,rfl,hS.below,z081 rfl ⟨rfl,rfl,rfl,rfl,rfl,trivial⟩ (she_block.to (hS.getRep At.z)) rfl (z085 t m).i64 zig⟩
noncomputable def z9c:za:=spD (fun _:Tree × Int × Block=>True) fun x=>(z46 x.1 x.2.1 x.2.2,z1w x.1 x.2.1 x.2.2)
theorem zfs (t:Tree) (m:Int) (b:Block):z9c [.l 1 (t.names.map z04),.l 5 (t.blocks.map z0x),I m,I b.parent,I b.height,I b.work,I b.nonce,.l 3 (b.txs.map eTx)]=some [.l 1 ((z46 t m b).names.map z04),.l 5 ((z46 t m b).blocks.map z0x),I (z1w t m b)]:=zl (f:=fun x:Tree × Int × Block=>(z46 x.1 x.2.1 x.2.2,z1w x.1 x.2.1 x.2.2)) (t,m,b) trivial
theorem z086:Meets Tryz.prog z9c 58 ⟨[.agg 2,.one,.agg 5],[(true,[.pure,.pure]),(false,[.scal])],false⟩ :=
 z3x rfl (z1x (fn:=Tryz.f58) (by kernel_rfl) (by kernel_rfl) (by kernel_rfl)) fun x _ W F us hF h=>by
  obtain ⟨t,m,b⟩:=x
  obtain ⟨cs,us,rfl,h1,h⟩:=zds (d1:=z71 t) (d2:=z04 m++z0x b) h rfl
  obtain ⟨v,us,rfl,h2,h⟩:=z1o h
  obtain ⟨cb,rfl,h3⟩:=z88 h
  obtain ⟨rfl,hn⟩:=z8i h2
  refine (z082 t cs m b cb (z0d1 she_block (zih she_tree hF.1 h1) (fun r hr=>by rcases List.mem_cons.1 hr with rfl|hr;exact z0ah;cases hr) h3) (At.s At.z) At.z hn).mono ?_
  rintro e w' ⟨cs',rfl,hS⟩
  exact ⟨_,rfl,hS.below,z081 rfl ⟨rfl,trivial⟩ (she_tree.to (hS.getRep At.z)) rfl (z058 t m b).i64 zig⟩
noncomputable def zah:za:=spD (fun _:List Int=>True) fun l=>l.reverse
theorem zwz (l:List Int):zah [.l 1 (l.map z04)]=some [.l 1 (l.reverse.map z04)]:=zl (f:=fun l:List Int=>l.reverse) l trivial
theorem zpo {W:World} {F:Nat→Prop}:∀ {l:List Int} {vs:List Value},Reps W F (l.map z04).flatten vs→vs=l.map (Value.int .i64)∧∀ x ∈ l,I64 x
 | [],[],_=>⟨rfl,by simp⟩
 | [],_::_,h=>absurd h id
 | x::l,vs,h=>by
  cases vs with
  | nil=>exact absurd h id
  | cons v vs =>
   have h':Rep W F (I x) v∧Reps W F (l.map z04).flatten vs:=h
   obtain ⟨rfl,hx⟩:=z8i h'.1
   obtain ⟨rfl,hl⟩:=zpo h'.2
   refine ⟨rfl,fun y hy=>?_⟩
   rcases List.mem_cons.1 hy with rfl|hy
   ·exact hx
   ·exact hl y hy
theorem zpp {W:World} {F:Nat→Prop}:∀ {l:List Int},(∀ x ∈ l,I64 x)→Reps W F (l.map z04).flatten (l.map (Value.int .i64))
 | [],_=>trivial
 | x::l,h=>⟨.i _ _ (wrap_i64 (h x (by simp))),zpp fun y hy=>h y (List.mem_cons_of_mem _ hy)⟩
theorem z0ao:Meets Tryz.prog zah 61 ⟨[.mine 3 1],[],false⟩:=⟨fun h=>(by cases h),fun e sz ps he=>by
 cases he
 intro W F base v xs vs ds args rs hF hbase hno hlen hown hreps hpk hs
 obtain ⟨l,-,h1,rfl⟩:=zq hs
 have h1':xs=l.map z04∧ds=[]:=by
  injection h1 with ha hb
  injection ha with _ ha
  exact ⟨ha,hb⟩
 obtain ⟨rfl,rfl⟩:=h1'
 obtain rfl:=z2t hpk
 obtain ⟨rfl,hI⟩:=zpo hreps
 refine ⟨l.reverse.map z04,rfl,by simp [z04],.inl ⟨(z1x (fn:=Tryz.f61) (by kernel_rfl) (by kernel_rfl) (by kernel_rfl)).run _ _,?_⟩⟩
 rw [List.length_map] at hown
 have hown':=hown
 rcases hown.2 with ⟨rfl,hn⟩|⟨g,cap,cur,rfl,hg,hh,hnc,hcm,hcs,ht⟩
 ·obtain rfl:l=[]:=List.eq_nil_of_length_eq_zero hn
  refine (zfr none 0 W).mono ?_
  rintro e w' ⟨rfl,rfl⟩
  exact ⟨_,rfl,.slice none 0 0,[],⟨fun _=>rfl,fun h=>absurd rfl h⟩,World.grownBy.refl _ _,hown',trivial,fun b hb=>.inl hb⟩
 ·unfold maxLen at hcm
  have hcell:∀ j,j<l.length→W.cell? ⟨g,0+j,none⟩=some (.int .i64 (l.getD j 0)):=by
   intro j hj
   have e1:(cur.toList.take (l.length * 1))[j]? = some (.int .i64 l[j]):=by rw [ht];simp [hj]
   rw [List.getElem?_take] at e1
   split at e1
   ·rw [cell_of_row W g _ cur _ (0,0) hh]
    simpa [List.getD,hj] using e1
   ·cases e1
  refine (zfq g 0 l.length cap l W (by omega) (by omega) hcell (fun j _=>zep hh)).mono ?_
  rintro e w' ⟨rfl,q,rfl⟩
  rw [List.take_of_length_le (Nat.le_refl _)]
  obtain ⟨s1,s2,s3,s4⟩:=zra (g:=g) (l.reverse.map (Value.int .i64)) 0 (W.drewN q)
  have hb0:=z4e (Below.refl W.heap.size W) q
  have hgr:W.grownBy ((W.drewN q).setCells g 0 (l.reverse.map (Value.int .i64))) (Value.slice (some ⟨g,0,none⟩) l.length cap).ownBlock :=
   ⟨s2.trans hb0.os,s3.trans hb0.tape,s4.trans hb0.output,by have:=hb0.size;omega,fun b hlt hb=>(zwu _ _ _ _ (fun e=>hb (by rw [e];rfl))).trans (hb0.block b hlt)⟩
  have hown2:(W.drewN q).ownsRow base 3 1 (.slice (some ⟨g,0,none⟩) l.length cap) l.length (l.map (Value.int .i64)):=zg2 hown' (fun b hb=>hb0.block b (by
   simp only [Value.ownBlock,Option.some.injEq] at hb
   subst hb
   exact z6m hh))
  have hset:=zc8 rfl (l.reverse.map (Value.int .i64)) 0 _ _ hown2
  rw [zwc _ _ (by simp)] at hset
  exact ⟨_,rfl,_,l.reverse.map (Value.int .i64),⟨fun _=>rfl,fun h=>absurd rfl h⟩,hgr,by rw [List.length_map,List.length_reverse];exact hset,zpp fun x hx=>hI x (List.mem_reverse.1 hx),fun b hb=>.inl hb⟩⟩
end
section
open Go.RowKit
open Go.Lib (itoa)
set_option maxRecDepth 100000
set_option maxHeartbeats 4000000
def z7e (b:Block):List (List UInt8):=b.txs.map fun t=>(z02 t).1
def zcd (k:Book) (s:List UInt8) (l:List (List UInt8)):List (List UInt8) × Int × List Int × Int :=
 if (z11 k (l++[s])).2.2≠0 then ([],0,[],(z11 k (l++[s])).2.2) else
 ((z11 k (l++[s])).1,((z11 k (l++[s])).2.1).getD l.length 0,((z11 k (l++[s])).2.1).take l.length,0)
def z03 (k:Book) (b:Block):List (List UInt8) × Int × List Int × Int :=
 if (z0q b).2≠0 then ([],0,[],(z0q b).2) else zcd k (z0q b).1 (z7e b)
theorem zpq:∀ (l t:List (List UInt8)) (o:List Int),(z34 l t o).2.2=0→(z34 l t o).2.1.length=o.length+l.length
 | [],t,o,_=>by simp [z34]
 | s::l,t,o,h=>by
  rw [z34] at h ⊢
  split at h
  ·cases h
  rename_i h1
  rw [if_neg h1]
  split at h
  ·rename_i h2;exact absurd h h2
  rename_i h2
  rw [if_neg h2]
  rw [zpq l _ _ h]
  simp;omega
theorem zja {k:Book} {l:List (List UInt8)} (h:(z11 k l).2.2=0):(z11 k l).2.1.length=l.length:=by
 unfold z11 at h ⊢
 split at h
 ·rename_i h1;exact absurd h h1
 rename_i h1
 rw [if_neg h1]
 simpa using zpq l k.texts [] h
theorem zau {b:Block} (h:(z0q b).2=0):zg b=0:=by
 unfold z0q at h
 by_cases hb:zg b=0
 ·exact hb
 ·rw [if_pos hb] at h;exact absurd h hb
attribute [local irreducible] z0y spD z11 z0q z02
attribute [local irreducible] den denX z1b z1m
noncomputable def z1k:za:=spD (fun _:Book × Block=>True) fun x=>z03 x.1 x.2
theorem z5h (k:Book) (b:Block):z1k [.l 1 (k.texts.map z0f),I b.parent,I b.height,I b.work,I b.nonce,.l 3 (b.txs.map eTx)]=some [.l 1 ((z03 k b).1.map z0f),I (z03 k b).2.1,.l 1 ((z03 k b).2.2.1.map z04),I (z03 k b).2.2.2]:=zl (f:=fun x:Book × Block=>z03 x.1 x.2) (k,b) trivial
theorem zlv (b:Block):z57 [I b.parent,I b.height,I b.work,I b.nonce,.l 3 (b.txs.map eTx)]=some [.s (z0q b).1,I (z0q b).2]:=zna b
theorem ze9 (t:Tx):z3p [I t.height,.l 3 (t.ins.map eIn),.l 2 (t.outs.map z2f)]=some [.s (z02 t).1,I (z02 t).2]:=zr5 t
def zx0:T :=
 .lets [.call 62 [.v 13,.v 14,.v 15] 0,.call 62 [.v 13,.v 14,.v 15] 1] [] (.lets [.mk 1 [[.v 16]]] [] (.lets [.app 1 (.v 10) (.v 18)] [] (.lets [.bin .add (.v 11) (.c (.i .i64
 1))] [] (.again 0 [.v 19,.v 20]))))
def zx1:T :=
 .lets [.len (.v 10)] [] (.lets [.sub 1 (.v 16) none (some (.v 21)),.sub 1 (.v 16) (some (.v 21)) (some (.v 22))] [] (.ret [.v 15,.v 20,.v 23,.c (.i .i64 0)]))
def zx2:T :=
 .ite (.v 18) (.ret [.c (.nil 1),.c (.i .i64 0),.c (.nil 1),.v 17]) (.lets [.len (.v 10)] [] (.lets [] [.inr 1 (.v 16) (.v 19)] (.lets [.idx (.v 16) (.v 19) 0] [] (.lets [.len (.v
 10)] [] zx1))))
def zx3:T :=
 .lets [.app 1 (.v 10) (.v 13)] [] (.lets [.call 70 [.v 0,.v 14] 0,.call 70 [.v 0,.v 14] 1,.call 70 [.v 0,.v 14] 2] [] (.lets [.bin .neq (.v 17) (.c (.i .i64 0))] []
 zx2))
def zx4:T :=
 .ite (.v 12) (.lets [] [.inr 3 (.v 5) (.v 11)] (.lets [.idx (.v 5) (.v 11) 0,.idx (.v 5) (.v 11) 1,.idx (.v 5) (.v 11) 2] [] zx0)) (.lets [.mk 1 [[.v 6]]] []
 zx3)
def zx5:T :=
 .ite (.v 8) (.ret [.c (.nil 1),.c (.i .i64 0),.c (.nil 1),.v 7]) (.lets [.len (.v 5)] [] (.loop [.c (.nil 1),.c (.i .i64 0)] (.lets [.bin .lss (.v 11) (.v 9)] [] zx4)))
def zf9:T :=
 .lets [.call 63 [.v 1,.v 2,.v 3,.v 4,.v 5] 0,.call 63 [.v 1,.v 2,.v 3,.v 4,.v 5] 1] [] (.lets [.bin .neq (.v 7) (.c (.i .i64 0))] [] zx5)
attribute [local irreducible] z57 z9b z3p
theorem zbc:Meets Tryz.prog z1k 15 ⟨[.agg 1,.agg 5],[(true,[.pure]),(false,[.scal]),(false,[.pure]),(false,[.scal])],false⟩:=by
 refine zi (sp:=(z0m [(62,z3p),(63,z57),(70,z9b)])) (sigs:=z0t) (cut:=[]) (hints:=[⟨6,[.r 9 9 1,.t 27]⟩]) (fn:=Tryz.f15) (t:=zf9) (by kernel_rfl) (by kernel_rfl) (by kernel_rfl) ?_ ?_
 ·exact (z0c (L:=[(62,z3p),(63,z57),(70,z9b)]) ⟨z7 rfl zpj,z7 rfl z04y,z7 rfl z084,trivial⟩)
 ·rintro ds rs hok h
  obtain ⟨⟨k,b⟩,-,rfl,rfl⟩:=zq h
  clear h
  refine ⟨⟨100,?_⟩,z2v ⟨rfl,rfl,trivial⟩⟩
  show den _ _ zf9 [.l 1 (k.texts.map z0f),I b.parent,I b.height,I b.work,I b.nonce,.l 3 (b.txs.map eTx)] []=ret (z03 k b)
  have a1:=zlv b
  unfold zf9 z03
  have hpz:=fun h=>(z4h (zau (b:=b) h)).len
  generalize z0q b=pb at *
  obtain ⟨s,e⟩:=pb
  simp only at *
  repeat' (first|refine dq1 ?_|refine dqK rfl (a1) ?_|exact z6 rfl rfl|refine tR (fun h=>?_) fun h=>?_|fail)
  have hlen:b.txs.length≤4:=hpz (by omega)
  (refine z0k (fun (a:List (List UInt8)) k=>[.l 1 (a.map z0f),I k]) (fun (a:List (List UInt8)) _ (r:List Tx)=>zcd k s (a++r.map fun t=>(z02 t).1)) (fun a k=>a.length=k) [] b.txs ?_ ?_ ?_ ?_ ?_;rfl;exact rfl;omega)
  ·rintro a i x r hx hd hk ha again hag
   have a2:=ze9 x
   have e:a++((x::r).map fun t=>(z02 t).1)=(a++[(z02 x).1])++r.map fun t=>(z02 t).1:=by simp
   rw [e]
   have hag':=hag (a++[(z02 x).1]) (by simp;omega)
   generalize z02 x=px at *
   obtain ⟨z,f⟩:=px
   simp only at *
   repeat' (first|refine dq1 ?_|refine dqc ?_|refine dqm ?_|refine dqK rfl (a2) ?_|refine z8 (z48 rfl rfl (by simp)) ?_|refine dqT ?_|fail)
   exact zw rfl rfl hag'
  ·rintro a ha again
   simp only [List.map_nil,List.append_nil]
   have a3:=zrb k (a++[s]) (by simp;omega)
   have hl:=fun h=>zja (k:=k) (l:=a++[s]) h
   unfold zcd
   generalize z11 k (a++[s])=q at *
   obtain ⟨tx,ns,e2⟩:=q
   simp only at *
   repeat' (first|refine dq1 ?_|refine dqK rfl (a3) ?_|refine z8 (z48 rfl rfl (by simp)) ?_|exact z6 rfl rfl|refine tR (fun h=>?_) fun h=>?_|refine dqF ?_|fail)
   have hl:=hl (by omega)
   simp only [List.length_append,List.length_cons,List.length_nil] at hl
   have hg:ns[((a.length:Int)).toNat]? = some (ns.getD a.length 0):=by
    rw [Int.toNat_natCast,List.getD_eq_getElem?_getD,List.getElem?_eq_getElem (by omega)]
    rfl
   generalize ns.getD a.length 0=y at *
   have ht:ns.take ((a.length:Int)).toNat=ns.take a.length:=by rw [Int.toNat_natCast]
   repeat' (first|refine dq1 ?_|refine dqc ?_|fail)
   refine z6l (z1h (z038 rfl rfl (by omega) (by omega) ht) (z1h (zta (m:=(a.length:Int)) (n:=(a.length:Int)) rfl rfl rfl (by omega) (by omega) (by omega)) za9)) ?_ rfl
   exact z6 rfl rfl
end
section
open Go.RowKit
set_option maxRecDepth 100000
set_option maxHeartbeats 4000000
section
variable {ρ:Type}
def z3h (h:Int) (bad:Int→ρ) (K:List Coin→List Coin→ρ):List Coin→List Coin→List In→ρ
 | r,s,[]=>K r s
 | r,s,x::xs=>if z2o r x.p=true then
   if ((r[zf r x.p]?).getD z82).reward=true then
    if h<((r[zf r x.p]?).getD z82).height+2 then bad 10
    else if (z4q ((r[zf r x.p]?).getD z82).o.lock x.key h).1=true then z3h h bad K (r.take (zf r x.p)++r.drop (zf r x.p+1)) (s++[(r[zf r x.p]?).getD z82]) xs else bad 8
   else if (z4q ((r[zf r x.p]?).getD z82).o.lock x.key h).1=true then z3h h bad K (r.take (zf r x.p)++r.drop (zf r x.p+1)) (s++[(r[zf r x.p]?).getD z82]) xs else bad 8
  else bad 7
def z3i (nm h:Int) (rw:Bool) (bad:Int→ρ) (K:List Coin→ρ):List Coin→Nat→List Out→ρ
 | r,_,[]=>K r
 | r,i,o::os=>if z2o r ⟨nm,i⟩=true then bad 6 else z3i nm h rw bad K (r.take (zf r ⟨nm,i⟩)++[⟨⟨nm,i⟩,o,h,rw⟩]++r.drop (zf r ⟨nm,i⟩)) (i+1) os
end
def z4t (e:Int):List Coin × List Coin × Int:=([],[],e)
def z9s (s r:List Coin):List Coin × List Coin × Int:=if zj r≠0 then z4t (zj r) else (r,s,0)
def zk (l:List Coin) (t:Tx) (nm h:Int):List Coin × List Coin × Int :=
 if zj l≠0 then z4t (zj l) else if zo t≠0 then z4t (zo t) else
 if nm<1∨120<nm∨h<1∨1000<h then z4t 3 else
 if (t.ins.length:Int)=0 then
  if t.height≠h then z4t 4 else z3h h z4t (fun r s=>z3i nm h (decide ((t.ins.length:Int)=0)) z4t (z9s s) r 0 t.outs) l [] t.ins
 else z3h h z4t (fun r s=>if z15 t s<0 then z4t 9 else z3i nm h (decide ((t.ins.length:Int)=0)) z4t (z9s s) r 0 t.outs) l [] t.ins
section
variable {ρ:Type}
def zfa (nm:Int) (bad:Int→ρ) (K:List Coin→ρ):List Coin→Nat→List Out→ρ
 | r,_,[]=>K r
 | r,i,o::os=>if z2o r ⟨nm,i⟩=true then (if decide (((r[zf r ⟨nm,i⟩]?).getD z82).o=o)=true then zfa nm bad K (r.take (zf r ⟨nm,i⟩)++r.drop (zf r ⟨nm,i⟩+1)) (i+1) os else bad 7) else bad 7
def zd1 (ins:List In) (bad:Int→ρ) (K:List Coin→ρ):List Coin→Nat→List Coin→ρ
 | r,_,[]=>K r
 | r,i,c::cs=>if z2o r c.p=true then bad 6 else if ((ins[i]?).getD ⟨⟨0,0⟩,[]⟩).p≠c.p then bad 6 else zd1 ins bad K (r.take (zf r c.p)++[c]++r.drop (zf r c.p)) (i+1) cs
end
def zdh (e:Int):List Coin × Int:=([],e)
def znl (r:List Coin):List Coin × Int:=if zj r≠0 then zdh (zj r) else (r,0)
def z21 (l:List Coin) (t:Tx) (nm:Int) (u:List Coin):List Coin × Int :=
 if zj l≠0 then zdh (zj l) else if zo t≠0 then zdh (zo t) else if (u.length:Int)≠t.ins.length then zdh 4 else
  zfa nm zdh (fun r=>zd1 t.ins zdh znl r 0 u) l 0 t.outs
theorem z7f {r:List Coin} (h:z09 r) (k:Nat):z09 (r.take k++r.drop (k+1)):=by
 have:(r.take k++r.drop (k+1))=r.eraseIdx k:=(List.eraseIdx_eq_take_drop_succ r k).symm
 rw [this]
 exact h.sublist (List.eraseIdx_sublist r k)
theorem z7g {r:List Coin} (h:z09 r) {c:Coin} (hc:z2o r c.p=false):z09 (r.take (zf r c.p)++[c]++r.drop (zf r c.p)):=by
 obtain ⟨i1,i2⟩:=zj1 h c.p
 have hle:=zes r c.p
 have hne:∀ t (ht:t<r.length),r[t].p≠c.p:=fun t ht he=>by
  have:z2o r c.p=true:=List.any_eq_true.2 ⟨_,List.getElem_mem ht,by simpa using he⟩
  rw [this] at hc;cases hc
 unfold z09
 rw [List.append_assoc,List.pairwise_append]
 refine ⟨List.Pairwise.sublist (List.take_sublist _ _) h,?_,?_⟩
 ·rw [List.singleton_append,List.pairwise_cons]
  refine ⟨fun d hd=>?_,List.Pairwise.sublist (List.drop_sublist _ _) h⟩
  obtain ⟨t,ht,rfl⟩:=List.getElem_of_mem hd
  rw [List.length_drop] at ht
  rw [List.getElem_drop]
  have:=i2 (zf r c.p+t) (by omega) (by omega)
  rcases z036 c.p r[zf r c.p+t].p with h|h|h
  ·exact h
  ·exact absurd h.symm (hne _ (by omega))
  ·exact absurd h this
 ·intro a ha b hb
  obtain ⟨t,ht,rfl⟩:=List.getElem_of_mem ha
  rw [List.length_take] at ht
  rw [List.getElem_take]
  have hat:=i1 t (by omega) (by omega)
  rw [List.singleton_append,List.mem_cons] at hb
  rcases hb with rfl|hb
  ·exact hat
  ·obtain ⟨u,hu,rfl⟩:=List.getElem_of_mem hb
   rw [List.length_drop] at hu
   rw [List.getElem_drop]
   have:=i2 (zf r c.p+u) (by omega) (by omega)
   rcases z036 r[t].p r[zf r c.p+u].p with h|h|h
   ·exact h
   ·exact absurd (h ▸ hat) this
   ·exact absurd (z8e h hat) this
structure SpI (l:List Coin) (st:List Coin × List Coin) (k:Nat):Prop where
 sorted:z09 st.1
 len:st.1.length≤l.length
 good:∀ c ∈ st.1,z3k c=0
 cnt:st.2.length=k
 spent:∀ c ∈ st.2,z3k c=0
theorem SpI.cut {l:List Coin} {r s:List Coin} {k:Nat} {c:Coin} {j:Nat} (h:SpI l (r,s) k) (hc:r[j]? = some c):SpI l (r.take j++r.drop (j+1),s++[c]) (k+1):=by
 refine ⟨z7f h.sorted j,?_,fun d hd=>?_,?_,fun d hd=>?_⟩
 ·have:=h.len
  simp only [List.length_append,List.length_take,List.length_drop] at this ⊢
  omega
 ·rcases List.mem_append.1 hd with hd|hd
  ·exact h.good d (List.mem_of_mem_take hd)
  ·exact h.good d (List.mem_of_mem_drop hd)
 ·have:=h.cnt
  simp only [List.length_append,List.length_singleton] at this ⊢
  omega
 ·rcases List.mem_append.1 hd with hd|hd
  ·exact h.spent d hd
  ·simp only [List.mem_singleton] at hd
   subst hd
   exact h.good d (List.mem_of_getElem? hc)
theorem SpI.fee {l:List Coin} {r s:List Coin} {t:Tx} (h:SpI l (r,s) t.ins.length) (ht:TxOK t):ze4 (t,s) :=
 ⟨by have:=h.cnt;have:=ht.ins;simp only at *;omega,fun c hc=>by have:=z4d (h.spent c hc);omega,by have:=ht.outs;simp only;omega,fun o ho=>by have:=ht.good o ho;omega⟩
end
section
open Go.RowKit
section
variable {P:Program} {W:World}
theorem zea {g o t:Nat} {vs cs:List Value} (hg:W.heap[g]? = some (.cells vs.toArray t (0,0))) (hn:o+cs.length≤vs.length) (h1:∀ v ∈ cs,v.oneCell'=true):(storeCells ⟨g,o,none⟩ cs 0).run P W = .ok () (W.setCells g o cs):=by
 have h:=zg3 (fr:=(0,0)) hg (o:=o) (n:=cs.length) hn
 have:=run_storeCells_cells (P:=P) g o cs 0 W (fun j hj=>by rw [Nat.add_zero];exact (h j hj).1) (fun j hj=>by rw [Nat.add_zero];exact (h j hj).2) h1
 simpa using this
theorem z087 {t e ty sz:Nat} {z:Value} (ht:P.underlying t=some (.slice e)) (hv:∀ w,(zeroValue e).run P w = .ok z w) (hz:z.cells.size=sz) (h1:∀ v ∈ z.cells.toList,v.oneCell'=true) {g o n c tt:Nat} {vs:List Value} (hg:W.heap[g]? = some (.cells vs.toArray tt (0,0))) (hn:o+n * sz≤vs.length) :
  (Builtin.clear_ #[t] ty #[.slice (some ⟨g,o,none⟩) n c]).run P W = .ok (.tuple #[]) (W.setCells g o (Builtin.zeroCells z.cells n).toList):=by
 have hzl:(Builtin.zeroCells z.cells n).toList.length=n * sz:=by simp [Builtin.zeroCells,hz]
 cases n with
 | zero =>
  have:(Builtin.zeroCells z.cells 0).toList=[]:=List.eq_nil_of_length_eq_zero (by rw [hzl];simp)
  rw [this]
  simp [Builtin.clear_,run_underlying ht,World.setCells]
 | succ n =>
  have hs:=zea (P:=P) (cs:=(Builtin.zeroCells z.cells (n+1)).toList) hg (by rw [hzl];exact hn) (fun v hv=>by
   rw [Array.mem_toList_iff] at hv
   simp only [Builtin.zeroCells,Array.mem_map] at hv
   obtain ⟨i,hi,rfl⟩:=hv
   have hpos:0<z.cells.size:=by
    rcases Nat.eq_zero_or_pos z.cells.size with h|h
    ·rw [h] at hi;simp at hi
    ·exact h
   have hlt:i % z.cells.size<z.cells.size:=Nat.mod_lt _ hpos
   rw [getElem!_pos z.cells _ hlt]
   exact h1 _ (by simp))
  simp [Builtin.clear_,run_underlying ht,hv,hs]
theorem zfb {t t' e ty sz:Nat} (ht:P.underlying t=some (.slice e)) (hsz:(P.info? e).map (·.size)=some sz) {g o dLen dCap sLen sCap tt:Nat} {a:Addr} {vs cs:List Value} (hg:W.heap[g]? = some (.cells vs.toArray tt (0,0))) (hl:cs.length=Nat.min sLen dLen * sz) (hsrc:∀ j v,cs[j]? = some v→W.cell? (a.add j)=some v) (hn:o+cs.length≤vs.length) (h1:∀ v ∈ cs,v.oneCell'=true) :
  (Builtin.copy_ #[t,t'] ty #[.slice (some ⟨g,o,none⟩) dLen dCap,.slice (some a) sLen sCap]).run P W = .ok (goInt (Nat.min sLen dLen)) (W.setCells g o cs):=by
 have hs:=zea (P:=P) hg hn h1
 have hlc:=run_loadCells_list (P:=P) W a cs hsrc
 cases hq:P.info? e with
 | none=>simp [hq] at hsz
 | some i =>
  have hi:i.size=sz:=by simpa [hq] using hsz
  simp [Builtin.copy_,run_underlying ht,Builtin.lenOf,Builtin.firstCells,sizeOf,typeInfo,hq,hi,← hl,hlc,hs]
end
theorem z0ap {pre mid post us:List Value} {o:Nat} (ho:o=pre.length) (h:us.length=mid.length):z1l (pre++mid++post) o us=pre++us++post:=by subst ho;exact zjn us pre mid post h
theorem z8l {vs us:List Value} {o:Nat} (h:o+us.length≤vs.length):z1l vs o us=vs.take o++us++vs.drop (o+us.length):=by
 have e:vs=vs.take o++(vs.drop o).take us.length++vs.drop (o+us.length):=by
  rw [List.append_assoc,← List.drop_drop,List.take_append_drop,List.take_append_drop]
 have h1:o=(vs.take o).length:=by rw [List.length_take];omega
 have h2:us.length=((vs.drop o).take us.length).length:=by rw [List.length_take,List.length_drop];omega
 conv=>lhs;rw [e]
 exact z0ap h1 h2
theorem zhe {sz:Nat}:∀ {xs:List (List Dt)},(∀ x ∈ xs,x.length=sz)→xs.flatten.length=xs.length * sz
 | [],_=>by simp
 | x::xs,h=>by rw [List.flatten_cons,List.length_append,h x (List.mem_cons_self ..),zhe fun y hy=>h y (List.mem_cons_of_mem _ hy),List.length_cons,Nat.succ_mul,Nat.add_comm]
theorem zfc {sz:Nat}:∀ {xs:List (List Dt)} (i:Nat),(∀ x ∈ xs,x.length=sz)→(xs.take i).flatten=xs.flatten.take (i * sz)
 | [],i,_=>by simp
 | x::xs,0,_=>by simp
 | x::xs,i+1,h=>by
  have hx:=h x (List.mem_cons_self ..)
  rw [List.take_succ_cons,List.flatten_cons,List.flatten_cons,zfc i fun y hy=>h y (List.mem_cons_of_mem _ hy),List.take_append,hx,List.take_of_length_le (show x.length≤(i+1) * sz by rw [hx,Nat.succ_mul];omega),Nat.succ_mul,Nat.add_sub_cancel]
theorem zlw {sz:Nat} {xs:List (List Dt)} (i:Nat) (h:∀ x ∈ xs,x.length=sz):(xs.drop i).flatten=xs.flatten.drop (i * sz):=by
 have e:xs.flatten=(xs.take i).flatten++(xs.drop i).flatten:=by rw [← List.flatten_append,List.take_append_drop]
 by_cases hi:i≤xs.length
 ·have h1:(xs.take i).flatten.length=i * sz:=by rw [zhe fun y hy=>h y (List.mem_of_mem_take hy),List.length_take,Nat.min_eq_left hi]
  rw [e,← h1,List.drop_left]
 ·rw [List.drop_of_length_le (by omega),List.drop_of_length_le]
  ·rfl
  ·rw [zhe h];exact Nat.mul_le_mul_right _ (by omega)
section
variable {P:Program}
theorem z088 {α:Type} [Enc α] {f e sz:Nat} (hn:Enc.n α=sz) (hpos:0<sz) (hen:En P f) (zc:Array Value) (hzc:zc.size=sz)
  (h0:∀ (W:World) (A:Option Addr) (n cap i:Nat),i≤n→n≤cap→cap≤maxLen→Calls P f #[.slice A n cap,.int .i64 i,.int .i64 i] W fun r W'=>r = .returned (.slice A n cap)∧W'=W)
  (hw:∀ (W:World) (g n cap i j:Nat) (vs:List Value),W.heap[g]? = some (.cells vs.toArray e (0,0))→n≤cap→cap≤maxLen→vs.length=cap * sz→(∀ u ∈ vs.take (n * sz),u.oneCell'=true)→i<j→j≤n →
   Calls P f #[.slice (some ⟨g,0,none⟩) n cap,.int .i64 i,.int .i64 j] W fun r W'=>r = .returned (.slice (some ⟨g,0,none⟩) (n - (j - i)) cap)∧W'=((W.drewN 1).setCells g (i * sz) ((vs.take (n * sz)).drop (j * sz))).setCells g ((i+(n - j)) * sz) (Builtin.zeroCells zc (j - i)).toList) :
  Meets P (spD (fun x:List α × Int × Int=>0≤x.2.1∧x.2.1≤x.2.2∧x.2.2≤x.1.length) fun x=>x.1.take x.2.1.toNat++x.1.drop x.2.2.toNat) f ⟨[.mine e sz,.one,.one],[(false,[.fresh e sz])],false⟩:=by
 refine ⟨fun h=>(by cases h),?_⟩
 intro e' sz' ps hps
 injection hps with h1 h2
 injection h1 with h1 h1'
 subst h1;subst h1';subst h2
 intro W F base v xs cells ds args rs hF hbase hvF hxs hown hreps hargs hsp
 obtain ⟨⟨l,i,j⟩,⟨hi0,hij,hjl⟩,he,rfl⟩:=zq hsp
 have he':Dt.l sz xs::ds=Dt.l (Enc.n α) (l.map Enc.e)::[I i,I j]:=he
 injection he' with g1 g2
 injection g1 with g3 g1
 subst g2;subst g1
 simp only at hi0 hij hjl
 obtain ⟨va,vas,rfl,ha,hargs⟩:=z1o hargs
 obtain ⟨vb,vbs,rfl,hb,hargs⟩:=z1o hargs
 obtain rfl:=z2t hargs
 obtain ⟨rfl,_⟩:=z2z ha
 obtain ⟨rfl,_⟩:=z2z hb
 obtain ⟨a,rfl⟩:∃ a:Nat,i=a:=⟨i.toNat,by omega⟩
 obtain ⟨b,rfl⟩:∃ b:Nat,j=b:=⟨j.toNat,by omega⟩
 have hlen:(l.map Enc.e).length=l.length:=List.length_map _
 rw [hlen] at hown
 refine ⟨(l.take a++l.drop b).map Enc.e,?_,fun x hx=>hxs x ?_,?_⟩
 ·show [Dt.l (Enc.n α) _]=_
  rw [hn];rfl
 ·rw [List.map_append,List.map_take,List.map_drop] at hx
  rcases List.mem_append.1 hx with hx|hx
  ·exact List.mem_of_mem_take hx
  ·exact List.mem_of_mem_drop hx
 by_cases hab:a=b
 ·subst hab
  have hsame:l.take a++l.drop a=l:=List.take_append_drop ..
  simp only [Int.toNat_natCast,hsame]
  have hv:∃ A cap,v = .slice A l.length cap∧l.length≤cap∧cap≤maxLen:=by
   rcases hown.2 with ⟨rfl,h0⟩|⟨g,cap,cur,rfl,_,_,h1,h2,_⟩
   ·exact ⟨none,0,by rw [h0],by omega,by unfold maxLen;omega⟩
   ·exact ⟨_,cap,rfl,h1,h2⟩
  obtain ⟨A,cap,rfl,h1,h2⟩:=hv
  refine .inl ⟨hen.run _ _,(h0 W A l.length cap a (by omega) h1 h2).mono ?_⟩
  rintro r W' ⟨rfl,rfl⟩
  exact ⟨_,rfl,_,cells,⟨fun h=>(by cases h),fun _=>rfl⟩,World.grownBy.refl _ _,by rw [hlen];exact hown,hreps,fun _ h=>.inl h⟩
 ·rcases hown.2 with ⟨rfl,h0⟩|⟨g,cap,cur,rfl,hbg,hg,h1,h2,hcs,htk⟩
  ·omega
  ·have hkeep:=hown
   have hml:cells.length=l.length * sz:=hown.1
   have hcs':cur.toList.length=cap * sz:=by simpa using hcs
   have hones:∀ u ∈ cur.toList.take (l.length * sz),u.oneCell'=true:=by rw [htk];exact hreps.one
   refine .inl ⟨hen.run _ _,(hw W g l.length cap a b cur.toList (by simpa using hg) h1 h2 hcs' hones (by omega) (by omega)).mono ?_⟩
   rintro r W' ⟨rfl,rfl⟩
   have hgF:¬ F g:=hvF g rfl
   generalize hW1:(W.drewN 1).setCells g (a * sz) ((cur.toList.take (l.length * sz)).drop (b * sz))=W1
   have hg0:(W.drewN 1).heap[g]? = some (.cells cur.toList.toArray e (0,0)):=by simpa using hg
   have hnl:((cur.toList.take (l.length * sz)).drop (b * sz)).length=(l.length - b) * sz:=by
    rw [htk,List.length_drop,hml,Nat.sub_mul]
   have hzl:(Builtin.zeroCells zc (b - a)).toList.length=(b - a) * sz:=by simp [Builtin.zeroCells,hzc]
   have hg1:=z1u ((cur.toList.take (l.length * sz)).drop (b * sz)) (a * sz) (W.drewN 1) cur.toList hg0
   rw [hW1] at hg1
   have hg2:=z1u (Builtin.zeroCells zc (b - a)).toList ((a+(l.length - b)) * sz) W1 _ hg1
   have hmul1:a * sz+(l.length - b) * sz=(a+(l.length - b)) * sz:=(Nat.add_mul ..).symm
   have hle1:(a+(l.length - b)) * sz≤cap * sz:=Nat.mul_le_mul_right _ (by omega)
   have hle2:(a+(l.length - b)) * sz+(b - a) * sz≤cap * sz:=by rw [← Nat.add_mul];exact Nat.mul_le_mul_right _ (by omega)
   have hle3:a * sz≤l.length * sz:=Nat.mul_le_mul_right _ (by omega)
   have hle4:l.length * sz≤cap * sz:=Nat.mul_le_mul_right _ h1
   have hfar:∀ k,k≠g→(W1.setCells g ((a+(l.length - b)) * sz) (Builtin.zeroCells zc (b - a)).toList).heap[k]? = W.heap[k]?:=by
    intro k hk
    rw [z25 g _ _ _ k hk,← hW1,z25 g _ _ _ k hk]
    rfl
   refine ⟨_,rfl,_,cells.take (a * sz)++cells.drop (b * sz),⟨fun h=>(by cases h),fun _=>rfl⟩,?_,?_,?_,fun _ h=>.inl h⟩
   ·obtain ⟨k1,k2,k3,k4⟩:=z3t g (Builtin.zeroCells zc (b - a)).toList ((a+(l.length - b)) * sz) W1
    obtain ⟨q1,q2,q3,q4⟩:=z3t g ((cur.toList.take (l.length * sz)).drop (b * sz)) (a * sz) (W.drewN 1)
    rw [hW1] at q1 q2 q3 q4
    refine ⟨k1.trans q1,k2.trans q2,k3.trans q3,?_,fun k hk hne=>hfar k fun h=>hne (by rw [h];rfl)⟩
    rw [k4,q4]
    exact Nat.le_refl _
   ·have hl2:((l.take a++l.drop b).map (Enc.e (α:=α))).length=a+(l.length - b):=by
     rw [List.length_map,List.length_append,List.length_take,List.length_drop];omega
    rw [hl2]
    refine ⟨?_,.inr ⟨g,cap,_,by rw [show l.length - (b - a)=a+(l.length - b) by omega],hbg,hg2,by omega,h2,?_,?_⟩⟩
    ·rw [List.length_append,List.length_take,List.length_drop,hml,Nat.min_eq_left hle3,← Nat.sub_mul,hmul1]
    ·rw [List.size_toArray,z1p,z1p];exact hcs'
    ·rw [List.toList_toArray,z8l (by rw [z1p,hzl];omega),List.append_assoc,List.take_append_of_le_length (by rw [List.length_take,z1p];omega),List.take_take,Nat.min_self,z8l (by rw [hnl];omega),List.take_append_of_le_length (by rw [List.length_append,List.length_take,hnl];omega),List.take_of_length_le (by rw [List.length_append,List.length_take,hnl];omega),htk]
     congr 1
     rw [← htk,List.take_take,Nat.min_eq_left hle3]
   ·rw [List.map_append,List.map_take,List.map_drop,List.flatten_append,zfc a hxs,zlw b hxs]
    have hag:Agree F W (W1.setCells g ((a+(l.length - b)) * sz) (Builtin.zeroCells zc (b - a)).toList):=fun k hk=>hfar k fun h=>hgF (h ▸ hk)
    exact ((hreps.take (a * sz)).append (hreps.drop (b * sz))).mono hag (fun _ h=>h)
theorem zx6 {tS tR e sz:Nat} {W:World} (ht:P.underlying tS=some (.slice e)) (hz:∀ w,(sizeOf e).run P w = .ok sz w) {g o b off la ca lb cb t:Nat} {vs:List Value} (hg:W.heap[g]? = some (.cells vs.toArray t (0,0))) (hvs:0<vs.length) (hne:b≠g) {u:Value} (hb:W.cell? ⟨b,off,none⟩=some u) :
  (Extern.SlicesOverlaps.overlaps #[tS,tS] #[tR] #[.slice (some ⟨b,off,none⟩) la ca,.slice (some ⟨g,o,none⟩) lb cb]).run P W = .ok (.bool false) W:=by
 have hnb:(b != g)=true:=by simpa using hne
 have hnb':(b == g)=false:=by simpa using hne
 obtain ⟨arr,tb,fr,hbh,hsz⟩:∃ arr tb fr,W.heap[b]? = some (.cells arr tb fr)∧0<arr.size:=by
  unfold World.cell? at hb
  split at hb
  ·rename_i arr tb fr h
   simp at hb
   obtain ⟨hlt,_⟩:=Array.getElem?_eq_some_iff.1 hb
   exact ⟨arr,tb,fr,h,by omega⟩
  ·cases hb
 have hsa:W.shape? b=some (tb,arr.size):=by simp [World.shape?,hbh]
 have hsb:W.shape? g=some (t,vs.length):=by simp [World.shape?,hg]
 have hfg:∀ k,W.frozen? ⟨g,k,none⟩=false:=fun k=>by simp [World.frozen?,hg]
 obtain ⟨n1,hn1⟩:∃ n,arr.size=n+1:=⟨arr.size - 1,by omega⟩
 obtain ⟨n2,hn2⟩:∃ n,vs.length=n+1:=⟨vs.length - 1,by omega⟩
 rw [hn1] at hsa
 rw [hn2] at hsb
 change Sem.run P (α:=Value) (do
  let some t:=(#[tS,tS]:Array TypeId)[0]? | stuck "slices.overlaps: no parameter types"
  let .slice elem ← underlying t|stuck "slices.overlaps: slice type expected"
  let size ← sizeOf elem
  match (some ⟨b,off,none⟩:Option Addr),(some ⟨g,o,none⟩:Option Addr) with
  | some a,some b =>
   if la=0∨lb=0∨size=0 then pure (Value.bool false)
   else if a.block != b.block && (← frozen a) && (← frozen b) then unsupported .addressObserved
   else do
    if a.block != b.block then do
     noView a;noView b
     if ← mayBeOne a b then return Value.bool ((← choose (.extern "sameAddr.stringBytes" 2)) == 1)
    pure (Value.bool (a.block == b.block && a.off<b.off+lb * size && b.off<a.off+la * size))
  | _,_=>pure (Value.bool false)) W=_
 by_cases h0:la=0∨lb=0∨sz=0
 ·simp [run_underlying ht,hz,h0]
 ·cases hf1:W.frozen? ⟨b,off,none⟩ <;> cases hf2:W.frozen? ⟨b,n1+1,none⟩ <;>
   simp [run_underlying ht,hz,h0,hnb,hnb',frozen,noView,viewAt,mayBeOne,stringish,shape,Sem.run,hsa,hsb,hfg,hf1,hf2]
theorem zjb {W:World} {b k:Nat} {v:Value} (o:Obj) (h:W.cell? ⟨b,k,none⟩=some v):(W.alloc o).cell? ⟨b,k,none⟩=some v:=by
 have hlt:b<W.heap.size:=by
  rcases Nat.lt_or_ge b W.heap.size with h'|h'
  ·exact h'
  ·simp [World.cell?,Array.getElem?_eq_none h'] at h
 rw [← h]
 simp only [World.cell?,World.alloc,Array.getElem?_push,Nat.ne_of_lt hlt,if_false]
theorem z089 {W:World} {g o b k:Nat} {us:List Value} (h:b≠g):(W.setCells g o us).cell? ⟨b,k,none⟩=W.cell? ⟨b,k,none⟩:=by
 simp only [World.cell?,z25 g us o W b h]
theorem z08a {W:World} {o:Oper} {a:Act} {K:Act→World→Prop} {Q:Exit→Act→World→Prop} (d s:Operand) (t t':TypeId)
  (ho:o.op = .call { callee:=.builtin .copy,args:=#[d,s],argTypes:=#[t,t'] }) (v u:Value) (hd:a.eval d=v) (hs:a.eval s=u) {v':Value} {w':World}
  (hr:(Builtin.copy_ #[t,t'] o.type #[v,u]).run P W = .ok v' w') (h:K (a.put o.dst v') w'):o.wp P a W K Q:=by
 unfold Oper.wp execOp
 simp only [ho,resolve,invoke,builtin,Sem.run_bind,Sem.run_pure,Result.andThen_ok,List.map_toArray,List.map_cons,List.map_nil,hd,hs,hr]
 exact h
theorem zrc {W:World} {ops:Array Oper} {rest:List Oper} {o:Oper} {a:Act} {Q:Exit→Act→World→Prop} (hgd:o.guard=none) (d s:Operand) (t t':TypeId)
  (ho:o.op = .call { callee:=.builtin .copy,args:=#[d,s],argTypes:=#[t,t'] }) (v u:Value) (hd:a.eval d=v) (hs:a.eval s=u) {v':Value} {w':World}
  (hr:(Builtin.copy_ #[t,t'] o.type #[v,u]).run P W = .ok v' w') (h:wpList P ops Q rest (a.put o.dst v') w'):wpList P ops Q (o::rest) a W :=
 wpList_plain hgd fun _ hK=>z08a d s t t' ho v u hd hs hr (hK _ _ h)
theorem zjc {ops:Array Oper} {o:Oper} {a:Act} {W:World} {K:Act→World→Prop} {Q:Exit→Act→World→Prop} {E:Prop}
  (hg:o.guard=none) (d x:Operand) (dT sT:TypeId) (hop:o.op=Op.call { callee:=Callee.builtin Builtin.copy,args:=#[d,x],argTypes:=#[dT,sT] })
  (v u:Value) (hd:a.eval d=v) (hx:a.eval x=u) {v':Value} {w':World} (hr:(Builtin.copy_ #[dT,sT] o.type #[v,u]).run P W = .ok v' w') (hK:K (a.put o.dst v') w') :
  if Region.wanted o (yielded ops a.tmps)=true then Oper.wp P o a W K Q else E:=by
 have hw:Region.wanted o (yielded ops a.tmps)=true:=by simp [Region.wanted,hg]
 rw [if_pos hw]
 unfold Oper.wp
 simp [execOp,hop,resolve,invoke,builtin,hd,hx,hr,Result.andThen]
 exact hK
theorem z08b {α:Type} [Enc α] {f e sz:Nat} (hn:Enc.n α=sz) (hpos:0<sz) (hen:En P f)
  (hroom:∀ (W:World) (g n cap i b off c:Nat) (vs cs:List Value),W.heap[g]? = some (.cells vs.toArray e (0,0))→n<cap→cap≤maxLen→vs.length=cap * sz→(∀ u ∈ vs.take (n * sz),u.oneCell'=true)→i<n→b≠g→cs.length=sz→(∀ j v,cs[j]? = some v→W.cell? ⟨b,off+j,none⟩=some v)→(∀ v ∈ cs,v.oneCell'=true) →
   Calls P f #[.slice (some ⟨g,0,none⟩) n cap,.int .i64 i,.slice (some ⟨b,off,none⟩) 1 c] W fun r W'=>r = .returned (.slice (some ⟨g,0,none⟩) (n+1) cap)∧W'=((W.drewN 1).setCells g ((i+1) * sz) ((vs.take (n * sz)).drop (i * sz))).setCells g (i * sz) cs)
  (hend:∀ (W:World) (base:Nat) (v:Value) (n b off c:Nat) (olds cs:List Value),W.ownsRow base e sz v n olds→base≤W.heap.size→n≤1000000→cs.length=sz→(∀ j v,cs[j]? = some v→W.cell? ⟨b,off+j,none⟩=some v)→(∀ v ∈ cs,v.oneCell'=true) →
   Calls P f #[v,.int .i64 n,.slice (some ⟨b,off,none⟩) 1 c] W fun r W'=>∃ v',r = .returned v'∧W'.ownsRow base e sz v' (n+1) (olds++cs)∧W.grownBy W' v.ownBlock∧(v'.ownBlock=v.ownBlock∨v'.ownBlock=some W.heap.size))
  (hgrow:∀ (W:World) (g n cap i b off c:Nat) (vs cs:List Value),W.heap[g]? = some (.cells vs.toArray e (0,0))→n=cap→n≤1000000→vs.length=cap * sz→(∀ u ∈ vs.take (n * sz),u.oneCell'=true)→i<n→cs.length=sz→(∀ j v,cs[j]? = some v→W.cell? ⟨b,off+j,none⟩=some v)→(∀ v ∈ cs,v.oneCell'=true) →
   Calls P f #[.slice (some ⟨g,0,none⟩) n cap,.int .i64 i,.slice (some ⟨b,off,none⟩) 1 c] W fun r W'=>∃ G,∃ row:List Value,n+1≤G∧G≤maxLen∧row.length=G * sz∧r = .returned (.slice (some ⟨W.heap.size,0,none⟩) (n+1) G)∧(∀ u ∈ row.take (i * sz),u.oneCell'=true)∧row.take (i * sz)=vs.take (i * sz) ∧
    W'=(((W.alloc (.cells row.toArray e)).drew.setCells W.heap.size (i * sz) cs).drew).setCells W.heap.size ((i+1) * sz) ((vs.take (n * sz)).drop (i * sz))) :
  Meets P (spD (fun x:List α × Int × List α=>0≤x.2.1∧x.2.1≤x.1.length∧x.1.length≤1000000∧x.2.2.length=1) fun x=>x.1.take x.2.1.toNat++x.2.2++x.1.drop x.2.1.toNat) f ⟨[.mine e sz,.one,.one],[(false,[.fresh e sz])],false⟩:=by
 refine ⟨fun h=>(by cases h),?_⟩
 intro e' sz' ps hps
 injection hps with h1 h2
 injection h1 with h1 h1'
 subst h1;subst h1';subst h2
 intro W F base v xs cells ds args rs hF hbase hvF hxs hown hreps hargs hsp
 obtain ⟨⟨l,i,ys⟩,⟨hi0,hil,hlm,hy1⟩,he,rfl⟩:=zq hsp
 have he':Dt.l sz xs::ds=Dt.l (Enc.n α) (l.map Enc.e)::[I i,.l (Enc.n α) (ys.map Enc.e)]:=he
 injection he' with g1 g2
 injection g1 with g3 g1
 subst g2;subst g1
 simp only at hi0 hil hlm hy1
 obtain ⟨y,rfl⟩:=List.length_eq_one_iff.1 hy1
 obtain ⟨va,vas,rfl,ha,hargs⟩:=z1o hargs
 obtain ⟨vb,vbs,rfl,hb,hargs⟩:=z1o hargs
 obtain rfl:=z2t hargs
 obtain ⟨rfl,_⟩:=z2z ha
 obtain ⟨a,rfl⟩:∃ a:Nat,i=a:=⟨i.toNat,by omega⟩
 have hlen:(l.map Enc.e).length=l.length:=List.length_map _
 have hyl:(Enc.e y).length=sz:=by rw [Enc.len,hn]
 rw [hlen] at hown
 have hml:cells.length=l.length * sz:=hown.1
 obtain ⟨b,off,c,cs,rfl,hFb,hcl,hcell,hcr⟩:∃ b off c,∃ cs:List Value,vb = .slice (some ⟨b,off,none⟩) 1 c∧F b∧cs.length=sz∧(∀ j v,cs[j]? = some v→W.cell? ⟨b,off+j,none⟩=some v)∧Reps W F (Enc.e y) cs:=by
  generalize hd:Dt.l (Enc.n α) ([y].map Enc.e)=d at hb
  cases hb with
  | l sz0 zs A n c b o vs k0 k1 k2 k3 k4 k5 k6 =>
   injection hd with e1 e2
   subst e2
   obtain ⟨rfl,hFb⟩:=k4 (by simp)
   refine ⟨b,o,c,(List.range sz).map (vs 0),by rw [k0];rfl,hFb,by simp,fun j v hv=>?_,Reps.of (by simp [hyl]) fun j d v hd hv=>?_⟩
   ·obtain ⟨hj,rfl⟩:=z2e hv
    have h:=k5 0 j (Enc.e y) _ rfl (List.getElem?_eq_getElem (by omega))
    rwa [Nat.zero_mul,Nat.add_zero] at h
   ·obtain ⟨hj,rfl⟩:=z2e hv
    exact k6 0 j (Enc.e y) d rfl hd
  | _=>cases hd
 have hc1:∀ v ∈ cs,v.oneCell'=true:=hcr.one
 refine ⟨(l.take a++[y]++l.drop a).map Enc.e,?_,fun x hx=>?_,?_⟩
 ·show [Dt.l (Enc.n α) _]=_
  rw [hn];rfl
 ·obtain ⟨z,_,rfl⟩:=List.mem_map.1 hx
  rw [Enc.len,hn]
 have hl2:((l.take a++[y]++l.drop a).map (Enc.e (α:=α))).length=l.length+1:=by
  rw [List.length_map,List.length_append,List.length_append,List.length_take,List.length_drop,List.length_singleton];omega
 have hflat:((l.take a++[y]++l.drop a).map (Enc.e (α:=α))).flatten=(l.map Enc.e).flatten.take (a * sz)++Enc.e y++(l.map Enc.e).flatten.drop (a * sz):=by
  rw [List.map_append,List.map_append,List.map_take,List.map_drop,List.flatten_append,List.flatten_append,zfc a hxs,zlw a hxs]
  simp
 rw [hl2,hflat]
 have hle3:a * sz≤l.length * sz:=Nat.mul_le_mul_right _ (by omega)
 have hnew:∀ {W':World},Agree F W W'→Reps W' F ((l.map Enc.e).flatten.take (a * sz)++Enc.e y++(l.map Enc.e).flatten.drop (a * sz)) (cells.take (a * sz)++cs++cells.drop (a * sz)):=fun hag=>(((hreps.take (a * sz)).append hcr).append (hreps.drop (a * sz))).mono hag (fun _ h=>h)
 have hnl:(cells.take (a * sz)++cs++cells.drop (a * sz)).length=(l.length+1) * sz:=by
  rw [List.length_append,List.length_append,List.length_take,List.length_drop,hcl,hml,Nat.min_eq_left hle3,Nat.succ_mul];omega
 by_cases hend':a=l.length
 ·subst hend'
  refine .inl ⟨hen.run _ _,(hend W base v l.length b off c cells cs hown hbase (by omega) hcl hcell hc1).mono ?_⟩
  rintro r W' ⟨v',rfl,q1,q2,q3⟩
  have hag:Agree F W W':=fun k hk=>q2.block k (hF.1 k hk) fun h=>hvF k h.symm hk
  refine ⟨_,rfl,v',_,⟨fun h=>(by cases h),fun _=>rfl⟩,q2,?_,hnew hag,fun k hk=>?_⟩
  ·rw [List.take_of_length_le (by omega),List.drop_of_length_le (by omega),List.append_nil];exact q1
  ·rcases q3 with q3|q3
   ·exact .inl (q3 ▸ hk)
   ·rw [q3] at hk;injection hk with hk;exact .inr (Nat.le_of_eq hk)
 ·rcases hown.2 with ⟨rfl,h0⟩|⟨g,cap,cur,rfl,hbg,hg,h1,h2,hcs,htk⟩
  ·omega
  ·have hcs':cur.toList.length=cap * sz:=by simpa using hcs
   have hones:∀ u ∈ cur.toList.take (l.length * sz),u.oneCell'=true:=by rw [htk];exact hreps.one
   have hgF:¬ F g:=hvF g rfl
   have hbg':b≠g:=fun h=>hgF (h ▸ hFb)
   have hg':W.heap[g]? = some (.cells cur.toList.toArray e (0,0)):=by simpa using hg
   have hal:a<l.length:=by omega
   have hmvl:((cur.toList.take (l.length * sz)).drop (a * sz)).length=(l.length - a) * sz:=by rw [htk,List.length_drop,hml,Nat.sub_mul]
   have e1:(a+1) * sz=a * sz+sz:=Nat.succ_mul ..
   have e2:(a+1) * sz+(l.length - a) * sz=(l.length+1) * sz:=by rw [← Nat.add_mul];congr 1;omega
   have hsplit:∀ vs':List Value,(l.length+1) * sz≤vs'.length→vs'.take (a * sz)=cells.take (a * sz)→(z1l (z1l vs' ((a+1) * sz) ((cur.toList.take (l.length * sz)).drop (a * sz))) (a * sz) cs).take ((l.length+1) * sz)=cells.take (a * sz)++cs++cells.drop (a * sz):=by
    intro vs' hl' ht'
    have k1:a * sz+cs.length≤(z1l vs' ((a+1) * sz) ((cur.toList.take (l.length * sz)).drop (a * sz))).length:=by rw [z1p];omega
    rw [z8l k1,z8l (by rw [hmvl];omega),hcl,hmvl,e2,htk]
    have k2:(vs'.take ((a+1) * sz)++cells.drop (a * sz)++vs'.drop ((l.length+1) * sz)).take (a * sz)=cells.take (a * sz):=by
     rw [List.append_assoc,List.take_append_of_le_length (by rw [List.length_take];omega),List.take_take,Nat.min_eq_left (by omega),ht']
    have k3:(vs'.take ((a+1) * sz)++cells.drop (a * sz)++vs'.drop ((l.length+1) * sz)).drop (a * sz+sz)=cells.drop (a * sz)++vs'.drop ((l.length+1) * sz):=by
     rw [List.append_assoc,List.drop_append,List.drop_of_length_le (by rw [List.length_take];omega),List.length_take,Nat.min_eq_left (by omega),e1,Nat.sub_self,List.nil_append,List.drop_zero]
    rw [k2,k3,← List.append_assoc,List.take_append_of_le_length (by rw [hnl];omega),List.take_of_length_le (by rw [hnl];omega)]
   rcases Nat.lt_or_ge l.length cap with hr|hr
   ·have hcapm:(l.length+1) * sz≤cap * sz:=Nat.mul_le_mul_right _ hr
    refine .inl ⟨hen.run _ _,(hroom W g l.length cap a b off c cur.toList cs hg' hr h2 hcs' hones hal hbg' hcl hcell hc1).mono ?_⟩
    rintro r W' ⟨rfl,rfl⟩
    have hfar:∀ k,k≠g→(((W.drewN 1).setCells g ((a+1) * sz) ((cur.toList.take (l.length * sz)).drop (a * sz))).setCells g (a * sz) cs).heap[k]? = W.heap[k]?:=by
     intro k hk
     rw [z25 g _ _ _ k hk,z25 g _ _ _ k hk]
     rfl
    have hag:Agree F W (((W.drewN 1).setCells g ((a+1) * sz) ((cur.toList.take (l.length * sz)).drop (a * sz))).setCells g (a * sz) cs):=fun k hk=>hfar k fun h=>hgF (h ▸ hk)
    refine ⟨_,rfl,_,_,⟨fun h=>(by cases h),fun _=>rfl⟩,?_,⟨hnl,.inr ⟨g,cap,_,rfl,hbg,z1u cs (a * sz) _ _ (z1u _ ((a+1) * sz) (W.drewN 1) _ hg'),hr,h2,by rw [List.size_toArray,z1p,z1p];exact hcs',?_⟩⟩,hnew hag,fun _ h=>.inl h⟩
    ·obtain ⟨k1,k2,k3,k4⟩:=z3t g cs (a * sz) ((W.drewN 1).setCells g ((a+1) * sz) ((cur.toList.take (l.length * sz)).drop (a * sz)))
     obtain ⟨q1,q2,q3,q4⟩:=z3t g ((cur.toList.take (l.length * sz)).drop (a * sz)) ((a+1) * sz) (W.drewN 1)
     exact ⟨k1.trans q1,k2.trans q2,k3.trans q3,by rw [k4,q4];exact Nat.le_refl _,fun k hk hne=>hfar k fun h=>hne (by rw [h];rfl)⟩
    ·rw [List.toList_toArray]
     refine hsplit _ (by omega) ?_
     rw [← htk,List.take_take,Nat.min_eq_left hle3]
   ·have hcap:l.length=cap:=by omega
    refine .inl ⟨hen.run _ _,(hgrow W g l.length cap a b off c cur.toList cs hg' hcap (by omega) hcs' hones hal hcl hcell hc1).mono ?_⟩
    rintro r W' ⟨G,row,r1,r2,r3,rfl,r4,r5,rfl⟩
    have hGm:(l.length+1) * sz≤G * sz:=Nat.mul_le_mul_right _ r1
    generalize hW0:(W.alloc (.cells row.toArray e)).drew=W0
    have hs0:W0.heap.size=W.heap.size+1:=by rw [← hW0];show (W.heap.push _).size=_;simp
    have hn0:W0.heap[W.heap.size]? = some (.cells row.toArray e (0,0)):=by rw [← hW0];exact heap_alloc_new W _
    have ho0:∀ k,k<W.heap.size→W0.heap[k]? = W.heap[k]?:=fun k hk=>by
     rw [← hW0]
     show (W.alloc (.cells row.toArray e)).heap[k]? = _
     simp only [World.alloc,Array.getElem?_push,Nat.ne_of_lt hk,if_false]
    have hfar:∀ k,k<W.heap.size→(((W0.setCells W.heap.size (a * sz) cs).drew).setCells W.heap.size ((a+1) * sz) ((cur.toList.take (l.length * sz)).drop (a * sz))).heap[k]? = W.heap[k]?:=by
     intro k hk
     rw [z25 _ _ _ _ k (by omega)]
     show (W0.setCells W.heap.size (a * sz) cs).heap[k]? = _
     rw [z25 _ _ _ _ k (by omega),ho0 k hk]
    obtain ⟨z1,z2,z3⟩:W0.os=W.os∧W0.tape=W.tape∧W0.output=W.output:=by rw [← hW0];exact ⟨rfl,rfl,rfl⟩
    have hag:Agree F W (((W0.setCells W.heap.size (a * sz) cs).drew).setCells W.heap.size ((a+1) * sz) ((cur.toList.take (l.length * sz)).drop (a * sz))):=fun k hk=>hfar k (hF.1 k hk)
    have hheap:=z1u ((cur.toList.take (l.length * sz)).drop (a * sz)) ((a+1) * sz) ((W0.setCells W.heap.size (a * sz) cs).drew) _ (z1u cs (a * sz) W0 _ hn0)
    refine ⟨_,rfl,_,_,⟨fun h=>(by cases h),fun _=>rfl⟩,?_,⟨hnl,.inr ⟨W.heap.size,G,_,rfl,hbase,hheap,r1,r2,by rw [List.size_toArray,z1p,z1p];exact r3,?_⟩⟩,hnew hag,fun k hk=>?_⟩
    ·obtain ⟨k1,k2,k3,k4⟩:=z3t W.heap.size ((cur.toList.take (l.length * sz)).drop (a * sz)) ((a+1) * sz) ((W0.setCells W.heap.size (a * sz) cs).drew)
     obtain ⟨q1,q2,q3,q4⟩:=z3t W.heap.size cs (a * sz) W0
     refine ⟨k1.trans (q1.trans z1),k2.trans (q2.trans z2),k3.trans (q3.trans z3),?_,fun k hk hne=>hfar k hk⟩
     rw [k4]
     show W.heap.size≤(W0.setCells W.heap.size (a * sz) cs).heap.size
     rw [q4,hs0];omega
    ·rw [List.toList_toArray]
     have hswap:z1l (z1l row (a * sz) cs) ((a+1) * sz) ((cur.toList.take (l.length * sz)).drop (a * sz))=z1l (z1l row ((a+1) * sz) ((cur.toList.take (l.length * sz)).drop (a * sz))) (a * sz) cs:=by
      have hL:a * sz+cs.length≤row.length:=by omega
      have hR:(a+1) * sz+((cur.toList.take (l.length * sz)).drop (a * sz)).length≤row.length:=by rw [hmvl];omega
      rw [z8l (vs:=z1l row (a * sz) cs) (by rw [z1p];exact hR),z8l hL,z8l (vs:=z1l row ((a+1) * sz) _) (by rw [z1p];exact hL),z8l hR]
      have t1:(row.take (a * sz)++cs++row.drop (a * sz+cs.length)).take ((a+1) * sz)=row.take (a * sz)++cs:=by
       rw [List.take_append_of_le_length (by rw [List.length_append,List.length_take];omega),List.take_of_length_le (by rw [List.length_append,List.length_take];omega)]
      have t2:(row.take (a * sz)++cs++row.drop (a * sz+cs.length)).drop ((a+1) * sz+((cur.toList.take (l.length * sz)).drop (a * sz)).length)=row.drop ((a+1) * sz+((cur.toList.take (l.length * sz)).drop (a * sz)).length):=by
       rw [List.drop_append,List.drop_of_length_le (by rw [List.length_append,List.length_take];omega),List.nil_append,List.drop_drop]
       congr 1
       rw [List.length_append,List.length_take];omega
      have t3:(row.take ((a+1) * sz)++((cur.toList.take (l.length * sz)).drop (a * sz))++row.drop ((a+1) * sz+((cur.toList.take (l.length * sz)).drop (a * sz)).length)).take (a * sz)=row.take (a * sz):=by
       rw [List.append_assoc,List.take_append_of_le_length (by rw [List.length_take];omega),List.take_take,Nat.min_eq_left (by omega)]
      have t4:(row.take ((a+1) * sz)++((cur.toList.take (l.length * sz)).drop (a * sz))++row.drop ((a+1) * sz+((cur.toList.take (l.length * sz)).drop (a * sz)).length)).drop (a * sz+cs.length)=((cur.toList.take (l.length * sz)).drop (a * sz))++row.drop ((a+1) * sz+((cur.toList.take (l.length * sz)).drop (a * sz)).length):=by
       rw [List.append_assoc,List.drop_append,List.drop_of_length_le (by rw [List.length_take];omega),List.nil_append,List.length_take,Nat.min_eq_left (by omega),hcl,e1,Nat.sub_self,List.drop_zero]
      rw [t1,t2,t3,t4,List.append_assoc,List.append_assoc]
     rw [hswap]
     refine hsplit _ (by omega) ?_
     rw [r5,← htk,List.take_take,Nat.min_eq_left hle3]
    ·simp only [Value.ownBlock,Option.some.injEq] at hk
     exact .inr (Nat.le_of_eq hk)
end
end
section
open Go.RowKit
set_option maxRecDepth 100000
set_option maxHeartbeats 4000000
theorem z0aq {W:World} {g n cap i j:Nat} {vs:List Value} (hg:W.heap[g]? = some (.cells vs.toArray 86 (0,0))) (hn:n≤cap) (hm:cap≤maxLen) (hcs:vs.length=cap * 6) (h1:∀ u ∈ vs.take (n * 6),u.oneCell'=true) (hij:i<j) (hj:j≤n) :
  Calls Tryz.prog 135 #[.slice (some ⟨g,0,none⟩) n cap,.int .i64 i,.int .i64 j] W fun e w'=>e = .returned (.slice (some ⟨g,0,none⟩) (n - (j - i)) cap) ∧
   w'=((W.drewN 1).setCells g (i * 6) ((vs.take (n * 6)).drop (j * 6))).setCells g ((i+(n - j)) * 6) (Builtin.zeroCells #[.int .i64 0,.int .i64 0,.int .i64 0,.slice none 0 0,.int .i64 0,.bool false] (j - i)).toList:=by
 have hm':cap≤9223372036854775807:=hm
 obtain ⟨news,hnews⟩:∃ news,news=(vs.take (n * 6)).drop (j * 6):=⟨_,rfl⟩
 have hlen:news.length=(n - j) * 6:=by rw [hnews,List.length_drop,List.length_take];omega
 have hg1:W.drew.heap[g]? = some (.cells vs.toArray 86 (0,0)):=hg
 obtain ⟨A,hA,hsrc⟩:∃ A:Addr,(if cap=j then some (⟨g,0,none⟩:Addr) else some ⟨g,j * 6,none⟩)=some A∧Hid (∀ t u,news[t]? = some u→W.drew.cell? (A.add t)=some u):=by
  by_cases h:cap=j
  ·refine ⟨⟨g,0,none⟩,by simp [h],fun t u hu=>?_⟩
   have:=(List.getElem?_eq_some_iff.1 hu).1
   omega
  ·refine ⟨⟨g,j * 6,none⟩,by simp [h],fun t u hu=>?_⟩
   have ht:=(List.getElem?_eq_some_iff.1 hu).1
   rw [hnews,List.getElem?_drop,List.getElem?_take,if_pos (by omega)] at hu
   rw [z4n,cell_of_row _ g _ _ 86 (0,0) hg1]
   simpa using hu
 have s1:Hid (news.length=(n - j) * 6):=hlen
 have s2:Hid (∀ u ∈ news,u.oneCell'=true):=by
  intro u hu
  rw [hnews] at hu
  exact h1 u (List.mem_of_mem_drop hu)
 have s3:Hid (∀ t,t<news.length→(W.drew.cell? ⟨g,0+i * 6+t,none⟩).isSome=true∧W.drew.frozen? ⟨g,0+i * 6+t,none⟩=false):=by
  intro t ht
  have:=zg3 (fr:=(0,0)) hg1 (o:=0+i * 6) (n:=news.length) (by omega)
  exact this t ht
 obtain ⟨W1,hW1⟩:∃ W1,W1=W.drew.setCells g (0+i * 6) news:=⟨_,rfl⟩
 have hg2:W1.heap[g]? = some (.cells (z1l vs (0+i * 6) news).toArray 86 (0,0)):=by rw [hW1];exact z1u _ _ _ _ hg1
 have hcl:∀ ty,(Builtin.clear_ #[25] ty #[.slice (some ⟨g,(i+(n - j)) * 6,none⟩) (n - (i+(n - j))) (cap - (i+(n - j)))]).run Tryz.prog W1 = .ok (.tuple #[]) (W1.setCells g ((i+(n - j)) * 6) (Builtin.zeroCells #[.int .i64 0,.int .i64 0,.int .i64 0,.slice none 0 0,.int .i64 0,.bool false] (n - (i+(n - j)))).toList) :=
  fun ty=>z087 (sz:=6) Tryz.underlying25 Tryz.zeroValue86 rfl (by simp [Value.cells,Value.oneCell']) hg2 (by rw [z1p];omega)
 have hW:Hid (W1=W.drew.setCells g (0+i * 6) news):=hW1
 have hic:i≤cap:=by omega
 have hjc:j≤cap:=by omega
 have hnews:=Lib.hid hnews
 clear hW1 hg2 hg hg1 hlen
 go_enter Tryz.func135,Tryz.ntmps135
 go_wp2_with fail
 obtain ⟨ht,ie,zv,he,hz0,hsz,hbz,hzs⟩:=zn8
 go_region_law (refine step_append_room rfl (.tmp 22) (.tmp 25) 25 rfl 86 ie 6 ht he hsz g 0 i cap (by simp [Act.eval,Act.put]) A (n - j) (cap - j) news (by simp [Act.eval,Act.put,hA]) s1.out hsrc.out s2.out (by omega) s3.out ?_;rw [← hW.out])
 go_wp2
 go_ret
 refine ⟨by rw [show n - (j - i)=i+(n - j) by omega];rfl,?_⟩
 rw [hW.out,Nat.zero_add,hnews.out,show n - (i+(n - j))=j - i by omega]
 rfl
theorem z0ar {W:World} {A:Option Addr} {n cap i:Nat} (hi:i≤n) (hn:n≤cap) (hm:cap≤maxLen):Calls Tryz.prog 135 #[.slice A n cap,.int .i64 i,.int .i64 i] W fun r W'=>r = .returned (.slice A n cap)∧W'=W:=by
 have hm':cap≤9223372036854775807:=hm
 have hic:i≤cap:=by omega
 go_enter Tryz.func135,Tryz.ntmps135
 go_wp2_with fail
 all_goals (go_ret;exact ⟨rfl,rfl⟩)
noncomputable def z7h:za:=spD (fun x:List Coin × Int × Int=>0≤x.2.1∧x.2.1≤x.2.2∧x.2.2≤x.1.length) fun x=>x.1.take x.2.1.toNat++x.1.drop x.2.2.toNat
theorem zpr:Meets Tryz.prog z7h 135 ⟨[.mine 86 6,.one,.one],[(false,[.fresh 86 6])],false⟩ :=
 z088 rfl (by decide) (z1x (fn:=Tryz.f135) (by kernel_rfl) (by kernel_rfl) (by kernel_rfl)) #[.int .i64 0,.int .i64 0,.int .i64 0,.slice none 0 0,.int .i64 0,.bool false] rfl (fun W A n cap i h1 h2 h3=>z0ar h1 h2 h3) (fun W g n cap i j vs h1 h2 h3 h4 h5 h6 h7=>z0aq h1 h2 h3 h4 h5 h6 h7)
end
section
open Go.RowKit
set_option maxRecDepth 100000
set_option maxHeartbeats 4000000
theorem z0as {W:World} {g o b off la ca lb cb:Nat} {vs:List Value} (hg:W.heap[g]? = some (.cells vs.toArray 86 (0,0))) (hvs:0<vs.length) (hne:b≠g) {u:Value} (hb:W.cell? ⟨b,off,none⟩=some u) :
  (callFunc 142 #[.slice (some ⟨b,off,none⟩) la ca,.slice (some ⟨g,o,none⟩) lb cb]).run Tryz.prog W = .ok (.value (.bool false)) W:=by
 rw [run_callFunc_extern Tryz.func142 (by kernel_rfl) (by kernel_rfl) (by kernel_rfl) (e:=Extern.SlicesOverlaps.overlaps #[25,25] #[4]) (by kernel_rfl),
  zx6 (e:=86) (sz:=6) Tryz.underlying25 Tryz.sizeOf86 hg hvs hne hb]
 rfl
theorem z0at {W:World} {g n cap i b off c:Nat} {vs cs:List Value} (hg:W.heap[g]? = some (.cells vs.toArray 86 (0,0))) (hn:n<cap) (hm:cap≤maxLen) (hcs:vs.length=cap * 6) (h1:∀ u ∈ vs.take (n * 6),u.oneCell'=true) (hi:i<n) (hne:b≠g) (hcl:cs.length=6) (hb:∀ j v,cs[j]? = some v→W.cell? ⟨b,off+j,none⟩=some v) (h1c:∀ v ∈ cs,v.oneCell'=true) :
  Calls Tryz.prog 107 #[.slice (some ⟨g,0,none⟩) n cap,.int .i64 i,.slice (some ⟨b,off,none⟩) 1 c] W fun r W'=>r = .returned (.slice (some ⟨g,0,none⟩) (n+1) cap)∧W'=((W.drewN 1).setCells g ((i+1) * 6) ((vs.take (n * 6)).drop (i * 6))).setCells g (i * 6) cs:=by
 have hm':cap≤9223372036854775807:=hm
 obtain ⟨mv,hmv⟩:∃ mv,mv=(vs.take (n * 6)).drop (i * 6):=⟨_,rfl⟩
 have hlen:mv.length=(n - i) * 6:=by rw [hmv,List.length_drop,List.length_take];omega
 have hg1:W.drew.heap[g]? = some (.cells vs.toArray 86 (0,0)):=hg
 obtain ⟨u0,hu0⟩:∃ u,W.cell? ⟨b,off,none⟩=some u:=by
  have h:=hb 0 (cs[0]'(by omega)) (List.getElem?_eq_getElem (by omega))
  exact ⟨_,h⟩
 have hov:∀ lb cb,(callFunc 142 #[.slice (some ⟨b,off,none⟩) 1 c,.slice (some ⟨g,(i+1) * 6,none⟩) lb cb]).run Tryz.prog W = .ok (.value (.bool false)) W:=fun lb cb=>z0as hg (by omega) hne hu0
 have hsz:(Tryz.prog.info? 86).map (·.size)=some 6:=by kernel_rfl
 have hcp1:∀ ty dc sc,(Builtin.copy_ #[25,25] ty #[.slice (some ⟨g,(i+1) * 6,none⟩) (n - i) dc,.slice (some ⟨g,i * 6,none⟩) (n+1 - i) sc]).run Tryz.prog W.drew = .ok (goInt (Nat.min (n+1 - i) (n - i):Nat)) (W.drew.setCells g ((i+1) * 6) mv):=fun ty dc sc =>
  zfb Tryz.underlying25 hsz hg1 (by rw [hlen];show _=min _ _ * 6;rw [Nat.min_def];split <;> omega) (fun j v hj=>by
   rw [z4n,cell_of_row _ g _ _ 86 (0,0) hg1]
   have hlt:=(List.getElem?_eq_some_iff.1 hj).1
   rw [hmv,List.getElem?_drop,List.getElem?_take,if_pos (by omega)] at hj
   simpa using hj) (by omega) (fun v hv=>h1 v (by rw [hmv] at hv;exact List.mem_of_mem_drop hv))
 obtain ⟨W1,hW1⟩:∃ W1,W1=W.drew.setCells g ((i+1) * 6) mv:=⟨_,rfl⟩
 have hg2:W1.heap[g]? = some (.cells (z1l vs ((i+1) * 6) mv).toArray 86 (0,0)):=by rw [hW1];exact z1u _ _ _ _ hg1
 have hcp2:∀ ty dc,(Builtin.copy_ #[25,25] ty #[.slice (some ⟨g,i * 6,none⟩) (n+1 - i) dc,.slice (some ⟨b,off,none⟩) 1 c]).run Tryz.prog W1 = .ok (goInt (Nat.min 1 (n+1 - i):Nat)) (W1.setCells g (i * 6) cs):=fun ty dc =>
  zfb Tryz.underlying25 hsz hg2 (by rw [hcl];show _=min _ _ * 6;rw [Nat.min_def];split <;> omega) (fun j v hj=>by
   rw [z4n,hW1,z089 hne]
   exact hb j v hj) (by rw [z1p];omega) h1c
 rw [← hW1] at hcp1
 have hw1:IntKind.i64.wrap ((i:Int)+1)=(i:Int)+1:=by rw [IntKind.wrap_i64];omega
 have hw2:IntKind.i64.wrap ((n:Int)+1)=(n:Int)+1:=by rw [IntKind.wrap_i64];omega
 have hz2:¬ ((i:Int)=(n:Int)):=by omega
 have hp1:(i:Int)≤(n:Int)+1:=by omega
 have hp0:(0:Int)≤(i:Int)+1:=by omega
 have hb1:¬ (cap=i+1):=by omega
 have hb4:¬ (cap=i):=by omega
 have hin:i≤n:=by omega
 have hic:i≤cap:=by omega
 have hW:=Lib.hid hW1
 have hmv':=Lib.hid hmv
 clear hmv hlen hg hg1 hg2 hW1 hcs h1 hb h1c hcl hu0
 go_enter Tryz.func107,Tryz.ntmps107
 go_wp2_with (simp only [hov])
 go_region_law (refine zjc rfl _ _ 25 25 rfl _ _ (by simp [Act.eval,Act.put]) (by simp [Act.eval,Act.put]) (hcp1 _ _ _) ?_)
 go_wp2_with (at_builtin;refine zrc rfl _ _ 25 25 rfl _ _ rfl rfl (hcp2 _ _) ?_)
 go_ret
 refine ⟨rfl,?_⟩
 rw [hW.out,hmv'.out]
 rfl
theorem z0d8 {W:World} {base:Nat} {v:Value} {n b off c:Nat} {olds cs:List Value} (hown:W.ownsRow base 86 6 v n olds) (hbase:base≤W.heap.size) (hn:n≤1000000) (hcl:cs.length=6) (hb:∀ j v,cs[j]? = some v→W.cell? ⟨b,off+j,none⟩=some v) (h1c:∀ v ∈ cs,v.oneCell'=true) :
  Calls Tryz.prog 107 #[v,.int .i64 n,.slice (some ⟨b,off,none⟩) 1 c] W fun r W'=>∃ v',r = .returned v'∧W'.ownsRow base 86 6 v' (n+1) (olds++cs)∧W.grownBy W' v.ownBlock∧(v'.ownBlock=v.ownBlock∨v'.ownBlock=some W.heap.size):=by
 obtain ⟨ht,ie,zv,he,hz0,hsz,hbz,hzs⟩:=zn8
 have hrun:∀ ty,∃ v' W',(Builtin.append_ #[25,25] ty #[v,.slice (some ⟨b,off,none⟩) 1 c]).run Tryz.prog W = .ok v' W'∧W'.ownsRow base 86 6 v' (n+1) (olds++cs)∧W.grownBy W' v.ownBlock∧(v'.ownBlock=v.ownBlock∨v'.ownBlock=some W.heap.size):=fun ty=>by
  obtain ⟨v',W',hr,h2,h3,_,h5⟩:=run_append_own_at (P:=Tryz.prog) W base 25 ty 86 ie zv 6 64 ht he hz0 hsz hbz hzs (by decide) v n olds hown ⟨b,off,none⟩ 1 c cs (by omega) (fun j u hj=>by rw [z4n];exact hb j u hj) h1c (by unfold maxLen;omega) (by omega) hbase
  exact ⟨v',W',hr,h2,h3,h5⟩
 obtain ⟨v',W',hr,h2,h3,h4⟩:=hrun 25
 have hv:∃ A cap,v = .slice A n cap∧n≤cap∧cap≤maxLen:=by
  rcases hown.2 with ⟨rfl,h0⟩|⟨g,cap,cur,rfl,_,_,h1,h2,_⟩
  ·exact ⟨none,0,by rw [h0],by omega,by unfold maxLen;omega⟩
  ·exact ⟨_,cap,rfl,h1,h2⟩
 obtain ⟨A,cap,rfl,hc1,hc2⟩:=hv
 have hc3:cap≤9223372036854775807:=hc2
 have R:=Lib.hid (And.intro h2 (And.intro h3 h4))
 clear h2 h3 h4 hown hrun hb h1c hcl hbase
 go_enter Tryz.func107,Tryz.ntmps107
 go_wp2_with (at_builtin;refine Lib.wpList_append_run _ rfl _ _ _ _ rfl _ _ rfl rfl _ _ hr ?_)
 all_goals (go_ret;have R':=R.out;first|exact ⟨v',rfl,R'⟩|(subst_vars;exact ⟨v',rfl,R'⟩))
theorem z0au {W:World} {g n cap i b off c:Nat} {vs cs:List Value} (hg:W.heap[g]? = some (.cells vs.toArray 86 (0,0))) (hn:n=cap) (hm:n≤1000000) (hcs:vs.length=cap * 6) (h1:∀ u ∈ vs.take (n * 6),u.oneCell'=true) (hi:i<n) (hcl:cs.length=6) (hb:∀ j v,cs[j]? = some v→W.cell? ⟨b,off+j,none⟩=some v) (h1c:∀ v ∈ cs,v.oneCell'=true) :
  Calls Tryz.prog 107 #[.slice (some ⟨g,0,none⟩) n cap,.int .i64 i,.slice (some ⟨b,off,none⟩) 1 c] W fun r W'=>∃ G,∃ row:List Value,n+1≤G∧G≤maxLen∧row.length=G * 6∧r = .returned (.slice (some ⟨W.heap.size,0,none⟩) (n+1) G)∧(∀ u ∈ row.take (i * 6),u.oneCell'=true)∧row.take (i * 6)=vs.take (i * 6) ∧
   W'=(((W.alloc (.cells row.toArray 86)).drew.setCells W.heap.size (i * 6) cs).drew).setCells W.heap.size ((i+1) * 6) ((vs.take (n * 6)).drop (i * 6)):=by
 obtain ⟨ht,ie,zv,he,hz0,hszI,hbz,hzs⟩:=zn8
 have hz1:¬ ((1:Int)=0):=by decide
 have hz2:¬ ((i:Int)=(n:Int)):=by omega
 have hz3:(cap:Int)<(n:Int)+1:=by omega
 have hsz:(Tryz.prog.info? 86).map (·.size)=some 6:=by kernel_rfl
 have hgl:g<W.heap.size:=by
  rcases Nat.lt_or_ge g W.heap.size with h|h
  ·exact h
  ·rw [Array.getElem?_eq_none h] at hg;cases hg
 have hbl:b<W.heap.size:=block_lt_of_cell (hb 0 _ (List.getElem?_eq_getElem (by omega)))
 have hkk:(n:Int)+1 - (i:Int)=((n+1 - i:Nat):Int):=by omega
 have hik:i+(n+1 - i)=n+1:=by omega
 have hg1:W.drew.heap[g]? = some (.cells vs.toArray 86 (0,0)):=hg
 have hold:(Builtin.firstCells ie.size i (.slice (some ⟨g,0,none⟩) i cap)).run Tryz.prog W.drew = .ok (vs.take (i * 6)).toArray W.drew:=by
  rw [hszI]
  exact run_firstCells_some W.drew 6 i ⟨g,0,none⟩ i cap (vs.take (i * 6)) (by rw [List.length_take];omega) (fun j v hj=>by
   rw [z4n,cell_of_row _ g _ _ 86 (0,0) hg1]
   rw [List.getElem?_take] at hj
   split at hj
   ·simpa using hj
   ·cases hj)
 have hrz:∀ ty,(Builtin.append_ #[25,3] ty #[.slice (some ⟨g,0,none⟩) i cap,.int .i64 ((n:Int)+1 - (i:Int))]).run Tryz.prog W =
   .ok (.slice (some ⟨W.heap.size,0,none⟩) (n+1) (grownCap W (n+1) cap 86)) (W.drew.alloc (.cells ((vs.take (i * 6)).toArray++Builtin.zeroCells zv.cells (n+1 - i)++Builtin.zeroCells zv.cells (grownCap W (n+1) cap 86 - (n+1))) 86)):=fun ty=>by
  have h:=Lib.run_append_grow_zeros W 25 3 ty 86 ie zv .i64 .i64 ht Tryz.underlying3 he hz0 (some ⟨g,0,none⟩) i cap (vs.take (i * 6)) hold (n+1 - i) (by omega) (by omega) (by omega) (by omega) (by rw [hbz];omega) (by rw [hbz,hik];exact growslice_fits (by omega) (by omega))
  rw [hik] at h
  rw [hkk]
  exact h
 obtain ⟨G,hG⟩:∃ G,G=grownCap W (n+1) cap 86:=⟨_,rfl⟩
 obtain ⟨row,hrow⟩:∃ row:List Value,row=vs.take (i * 6)++(Builtin.zeroCells zv.cells (n+1 - i)).toList++(Builtin.zeroCells zv.cells (G - (n+1))).toList:=⟨_,rfl⟩
 have hrowA:row.toArray=(vs.take (i * 6)).toArray++Builtin.zeroCells zv.cells (n+1 - i)++Builtin.zeroCells zv.cells (G - (n+1)):=by rw [hrow];simp
 rw [← hG,← hrowA] at hrz
 have hGn:n+1≤G:=by rw [hG];exact grownCap_ge W _ _ _
 have hGm:G≤maxLen:=by rw [hG];exact grownCap_le_maxLen W (n+1) cap 86 (by unfold maxLen;omega)
 have hG63:G≤9223372036854775807:=hGm
 have hrl:row.length=G * 6:=by
  rw [hrow]
  simp only [List.length_append,List.length_take,Array.length_toList,Builtin.zeroCells,Array.size_map,Array.size_range,hzs]
  omega
 have hrt:row.take (i * 6)=vs.take (i * 6):=by
  rw [hrow,List.append_assoc,List.take_append_of_le_length (by rw [List.length_take];omega),List.take_take,Nat.min_self]
 obtain ⟨mv,hmv⟩:∃ mv,mv=(vs.take (n * 6)).drop (i * 6):=⟨_,rfl⟩
 have hlen:mv.length=(n - i) * 6:=by rw [hmv,List.length_drop,List.length_take];omega
 have hcpA:∀ (W':World),W'.heap[W.heap.size]? = some (.cells row.toArray 86 (0,0))→(∀ k v,W.cell? ⟨b,k,none⟩=some v→W'.cell? ⟨b,k,none⟩=some v)→∀ ty dc,(Builtin.copy_ #[25,25] ty #[.slice (some ⟨W.heap.size,i * 6,none⟩) (n+1 - i) dc,.slice (some ⟨b,off,none⟩) 1 c]).run Tryz.prog W' = .ok (goInt (Nat.min 1 (n+1 - i):Nat)) (W'.setCells W.heap.size (i * 6) cs):=fun W' h1' h2' ty dc =>
  zfb ht hsz h1' (by rw [hcl];show _=min _ _ * 6;rw [Nat.min_def];split <;> omega) (fun j v hj=>by rw [z4n];exact h2' _ v (hb j v hj)) (by omega) h1c
 have hcpB:∀ (W':World) (vs':List Value),vs'.length=G * 6→W'.heap[W.heap.size]? = some (.cells vs'.toArray 86 (0,0))→W'.heap[g]? = some (.cells vs.toArray 86 (0,0))→∀ ty dc sc,(Builtin.copy_ #[25,25] ty #[.slice (some ⟨W.heap.size,(i+1) * 6,none⟩) (n - i) dc,.slice (some ⟨g,i * 6,none⟩) (n - i) sc]).run Tryz.prog W' = .ok (goInt (Nat.min (n - i) (n - i):Nat)) (W'.setCells W.heap.size ((i+1) * 6) mv):=fun W' vs' hl' h1' h2' ty dc sc =>
  zfb ht hsz h1' (by rw [hlen];show _=min _ _ * 6;rw [Nat.min_def];split <;> omega) (fun j v hj=>by
   rw [z4n,cell_of_row _ g _ _ 86 (0,0) h2']
   have hlt:=(List.getElem?_eq_some_iff.1 hj).1
   rw [hmv,List.getElem?_drop,List.getElem?_take,if_pos (by omega)] at hj
   simpa using hj) (by omega) (fun v hv=>h1 v (by rw [hmv] at hv;exact List.mem_of_mem_drop hv))
 have hA:=hcpA ((W.alloc (.cells row.toArray 86)).drew) (heap_alloc_new W _) (fun k v h=>zjb _ h)
 have hA':=hcpA (W.drew.alloc (.cells row.toArray 86)) (heap_alloc_new W.drew _) (fun k v h=>zjb (W:=W.drew) _ h)
 have hgold:(W.alloc (.cells row.toArray 86)).heap[g]? = some (.cells vs.toArray 86 (0,0)):=by
  have:(W.alloc (.cells row.toArray 86)).heap[g]? = W.heap[g]?:=by simp only [World.alloc,Array.getElem?_push,Nat.ne_of_lt hgl,if_false]
  rw [this];exact hg
 have hB:=hcpB (((W.alloc (.cells row.toArray 86)).drew.setCells W.heap.size (i * 6) cs).drew) (z1l row (i * 6) cs) (by rw [z1p,hrl]) (z1u _ _ (W.alloc (.cells row.toArray 86)).drew _ (heap_alloc_new W _)) (by
  show ((W.alloc (.cells row.toArray 86)).drew.setCells W.heap.size (i * 6) cs).heap[g]? = _
  rw [z25 _ _ _ _ _ (by omega)];exact hgold)
 have hw1:IntKind.i64.wrap ((i:Int)+1)=(i:Int)+1:=by rw [IntKind.wrap_i64];omega
 have hw2:IntKind.i64.wrap ((n:Int)+1)=(n:Int)+1:=by rw [IntKind.wrap_i64];omega
 have hp1:(i:Int)≤(n:Int)+1:=by omega
 have hp0:(0:Int)≤(i:Int)+1:=by omega
 have hGi:¬ (G=i):=by omega
 have hGi1:¬ (G=i+1):=by omega
 have hci:¬ (cap=i):=by omega
 have hin:i≤n:=by omega
 have R:Hid (n+1≤G∧G≤maxLen∧row.length=G * 6∧(∀ u ∈ row.take (i * 6),u.oneCell'=true)∧row.take (i * 6)=vs.take (i * 6)∧mv=(vs.take (n * 6)).drop (i * 6)):=Lib.hid ⟨hGn,hGm,hrl,fun u hu=>h1 u (by rw [hrt] at hu;exact (List.take_sublist_take_left (by omega)).subset hu),hrt,hmv⟩
 have hic:i≤cap:=by omega
 have hn':=Lib.hid hn
 clear hn hmv hlen hg hg1 hgold hcs h1 hb h1c hcl hcpA hcpB hrt hrl hrow hrowA hG hGm hold hkk hik
 go_enter Tryz.func107,Tryz.ntmps107
 go_wp2_with ((at_builtin;refine Lib.wpList_append_run _ rfl _ _ _ _ rfl _ _ rfl rfl _ _ (hrz _) ?_))
 go_region_law (refine zjc rfl _ _ 25 25 rfl _ _ (by simp [Act.eval,Act.put]) (by simp [Act.eval,Act.put]) (hB _ _ _) ?_)
 go_wp2
 go_ret
 obtain ⟨r1,r2,r3,r4,r5,r6⟩:=R.out
 exact ⟨G,row,r1,r2,r3,rfl,r4,r5,by rw [r6]⟩
noncomputable def z7i:za:=spD (fun x:List Coin × Int × List Coin=>0≤x.2.1∧x.2.1≤x.1.length∧x.1.length≤1000000∧x.2.2.length=1) fun x=>x.1.take x.2.1.toNat++x.2.2++x.1.drop x.2.1.toNat
theorem zps:Meets Tryz.prog z7i 107 ⟨[.mine 86 6,.one,.one],[(false,[.fresh 86 6])],false⟩ :=
 z08b rfl (by decide) (z1x (fn:=Tryz.f107) (by kernel_rfl) (by kernel_rfl) (by kernel_rfl)) (fun W g n cap i b off c vs cs h1 h2 h3 h4 h5 h6 h7 h8 h9 h10=>z0at h1 h2 h3 h4 h5 h6 h7 h8 h9 h10) (fun W base v n b off c olds cs h1 h2 h3 h4 h5 h6=>z0d8 h1 h2 h3 h4 h5 h6) (fun W g n cap i b off c vs cs h1 h2 h3 h4 h5 h6 h7 h8 h9=>z0au h1 h2 h3 h4 h5 h6 h7 h8 h9)
end
section
open Go.RowKit
set_option maxRecDepth 100000
set_option maxHeartbeats 4000000
theorem zft (l:List Coin) (i j:Int) (h:0≤i∧i≤j∧j≤l.length):z7h [.l 6 (l.map z9),I i,I j]=some [.l 6 ((l.take i.toNat++l.drop j.toNat).map z9)]:=zl (p:=fun x:List Coin × Int × Int=>0≤x.2.1∧x.2.1≤x.2.2∧x.2.2≤x.1.length) (f:=fun x:List Coin × Int × Int=>x.1.take x.2.1.toNat++x.1.drop x.2.2.toNat) (l,i,j) h
theorem zav (l:List Coin) (i:Int) (c:Coin) (h:0≤i∧i≤l.length∧l.length≤1000000):z7i [.l 6 (l.map z9),I i,.l 6 ([c].map z9)]=some [.l 6 ((l.take i.toNat++[c]++l.drop i.toNat).map z9)]:=zl (p:=fun x:List Coin × Int × List Coin=>0≤x.2.1∧x.2.1≤x.1.length∧x.1.length≤1000000∧x.2.2.length=1) (f:=fun x:List Coin × Int × List Coin=>x.1.take x.2.1.toNat++x.2.2++x.1.drop x.2.1.toNat) (l,i,[c]) ⟨h.1,h.2.1,h.2.2,rfl⟩
noncomputable def z51:za:=spD (fun _:List Coin × Tx × Int × Int=>True) fun x=>zk x.1 x.2.1 x.2.2.1 x.2.2.2
theorem zaw (l:List Coin) (t:Tx) (nm h:Int):z51 [.l 6 (l.map z9),I t.height,.l 3 (t.ins.map eIn),.l 2 (t.outs.map z2f),I nm,I h]=some [.l 6 ((zk l t nm h).1.map z9),.l 6 ((zk l t nm h).2.1.map z9),I (zk l t nm h).2.2]:=zl (f:=fun x:List Coin × Tx × Int × Int=>zk x.1 x.2.1 x.2.2.1 x.2.2.2) (l,t,nm,h) trivial
theorem z05d {a b:Dt} {n:Int} {pk:List PK} {l:Bool} {g:Bool}:z5x ⟨pk,[(false,[.pure]),(g,[.pure]),(false,[.scal])],l⟩ [a,b,I n]:=by
 intro i d hi hd
 match i,hi,hd with
 | 0,hi,_=>simp [zu] at hi
 | 1,hi,_=>simp [zu] at hi
 | 2,_,hd=>simp only [List.getElem?_cons_succ,List.getElem?_cons_zero,Option.some.injEq] at hd;subst hd;rfl
 | i+3,hi,_=>simp [zu] at hi
theorem z08c {a:Dt} {n:Int} {pk:List PK} {l:Bool} {g:Bool}:z5x ⟨pk,[(g,[.pure]),(false,[.scal])],l⟩ [a,I n]:=by
 intro i d hi hd
 match i,hi,hd with
 | 0,hi,_=>simp [zu] at hi
 | 1,_,hd=>simp only [List.getElem?_cons_succ,List.getElem?_cons_zero,Option.some.injEq] at hd;subst hd;rfl
 | i+2,hi,_=>simp [zu] at hi
attribute [local irreducible] z0y spD z29 zj zo z4q z15 z4x zh
theorem zfu (t:Tx):z5s [I t.height,.l 3 (t.ins.map eIn),.l 2 (t.outs.map z2f)]=some [I (zo t)]:=zl (f:=fun t:Tx=>zo t) t trivial
def z00u:T :=
 .lets [.bin .add (.v 28) (.c (.i .i64 1))] [] (.lets [.call 14 [.v 22,.v 28,.v 44] 0] [] (.lets [.bin .add (.v 23) (.c (.i .i64 1))] [] (.again 0 [.v 19,.v 20,.v 43,.v 45,.v
 46])))
def z00v:T :=
 .ite (.v 41) (.ret [.c (.nil 6),.c (.nil 6),.c (.i .i64 8)]) (.lets [.mk 6 [[.v 31,.v 32,.v 33,.v 34,.v 35,.v 36]]] [] (.lets [.app 6 (.v 21) (.v 42)] [] z00u))
def z00w:T :=
 .ite (.v 38) (.ret [.c (.nil 6),.c (.nil 6),.c (.i .i64 10)]) (.lets [.call 16 [.v 34,.v 27,.v 5] 0,.call 16 [.v 34,.v 27,.v 5] 1] [] (.lets [.not (.v 39)] [] z00v))
def z00x:T :=
 .lets [.bin .add (.v 28) (.c (.i .i64 1))] [] (.lets [.call 14 [.v 22,.v 28,.v 42] 0] [] (.lets [.bin .add (.v 23) (.c (.i .i64 1))] [] (.again 0 [.v 19,.v 20,.v 41,.v 43,.v
 44])))
def z00y:T :=
 .ite (.v 39) (.ret [.c (.nil 6),.c (.nil 6),.c (.i .i64 8)]) (.lets [.mk 6 [[.v 31,.v 32,.v 33,.v 34,.v 35,.v 36]]] [] (.lets [.app 6 (.v 21) (.v 40)] [] z00x))
def z00z:T :=
 .ite (.v 36) (.lets [.bin .add (.v 35) (.c (.i .i64 2))] [] (.lets [.bin .lss (.v 5) (.v 37)] [] z00w)) (.lets [.call 16 [.v 34,.v 27,.v 5] 0,.call 16 [.v 34,.v 27,.v 5]
 1] [] (.lets [.not (.v 37)] [] z00y))
def z010:T :=
 .lets [.idx (.v 22) (.v 28) 0,.idx (.v 22) (.v 28) 1,.idx (.v 22) (.v 28) 2,.idx (.v 22) (.v 28) 3,.idx (.v 22) (.v 28) 4,.idx (.v 22) (.v 28) 5] [] z00z
def z011:T :=
 .lets [.call 6 [.v 22,.v 25,.v 26] 0,.call 6 [.v 22,.v 25,.v 26] 1] [] (.lets [.not (.v 29)] [] (.ite (.v 30) (.ret [.c (.nil 6),.c (.nil 6),.c (.i .i64 7)]) (.lets [] [.inr
 6 (.v 22) (.v 28)] z010)))
def z012:T :=
 .lets [.mk 6 [[.v 4,.v 29,.v 31,.v 35,.v 5,.v 15]]] [] (.lets [.call 15 [.v 28,.v 33,.v 36] 0] [] (.lets [.bin .add (.v 29) (.c (.i .i64 1))] [] (.again 1 [.v 26,.v 27,.v
 37,.v 38])))
def z013:T :=
 .lets [.call 6 [.v 28,.v 4,.v 29] 0,.call 6 [.v 28,.v 4,.v 29] 1] [] (.ite (.v 34) (.ret [.c (.nil 6),.c (.nil 6),.c (.i .i64 6)]) (.lets [.call 10 [.v 32] 0] []
 z012))
def zx7:T :=
 .lets [.call 8 [.v 28] 0] [] (.lets [.bin .neq (.v 31) (.c (.i .i64 0))] [] (.ite (.v 32) (.ret [.c (.nil 6),.c (.nil 6),.v 31]) (.ret [.v 28,.v 21,.c (.i .i64 0)])))
def zx8:T :=
 .lets [.bin .lss (.v 29) (.v 25)] [] (.ite (.v 30) (.lets [] [.inr 2 (.v 3) (.v 29)] (.lets [.idx (.v 3) (.v 29) 0,.idx (.v 3) (.v 29) 1] [] z013)) zx7)
def zx9:T :=
 .ite (.v 24) (.lets [] [.inr 3 (.v 2) (.v 23)] (.lets [.idx (.v 2) (.v 23) 0,.idx (.v 2) (.v 23) 1,.idx (.v 2) (.v 23) 2] [] z011)) (.lets [.len (.v 3)] [] (.loop [.c (.nil
 6),.c (.i .i64 0),.v 22,.c (.i .i64 0)] zx8))
def zxa:T :=
 .lets [.call 11 [.v 0] 0] [] (.lets [.len (.v 2)] [] (.loop [.c (.nil 6),.c (.i .i64 0),.c (.nil 6),.v 17,.c (.i .i64 0)] (.lets [.bin .lss (.v 23) (.v 18)] [] zx9)))
def zxb:T :=
 .lets [.bin .add (.v 27) (.c (.i .i64 1))] [] (.lets [.call 14 [.v 21,.v 27,.v 43] 0] [] (.lets [.bin .add (.v 22) (.c (.i .i64 1))] [] (.again 0 [.v 18,.v 19,.v 42,.v 44,.v
 45])))
def zxc:T :=
 .ite (.v 40) (.ret [.c (.nil 6),.c (.nil 6),.c (.i .i64 8)]) (.lets [.mk 6 [[.v 30,.v 31,.v 32,.v 33,.v 34,.v 35]]] [] (.lets [.app 6 (.v 20) (.v 41)] [] zxb))
def zxd:T :=
 .ite (.v 37) (.ret [.c (.nil 6),.c (.nil 6),.c (.i .i64 10)]) (.lets [.call 16 [.v 33,.v 26,.v 5] 0,.call 16 [.v 33,.v 26,.v 5] 1] [] (.lets [.not (.v 38)] [] zxc))
def zxe:T :=
 .lets [.bin .add (.v 27) (.c (.i .i64 1))] [] (.lets [.call 14 [.v 21,.v 27,.v 41] 0] [] (.lets [.bin .add (.v 22) (.c (.i .i64 1))] [] (.again 0 [.v 18,.v 19,.v 40,.v 42,.v
 43])))
def zxf:T :=
 .ite (.v 38) (.ret [.c (.nil 6),.c (.nil 6),.c (.i .i64 8)]) (.lets [.mk 6 [[.v 30,.v 31,.v 32,.v 33,.v 34,.v 35]]] [] (.lets [.app 6 (.v 20) (.v 39)] [] zxe))
def zxg:T :=
 .ite (.v 35) (.lets [.bin .add (.v 34) (.c (.i .i64 2))] [] (.lets [.bin .lss (.v 5) (.v 36)] [] zxd)) (.lets [.call 16 [.v 33,.v 26,.v 5] 0,.call 16 [.v 33,.v 26,.v
 5] 1] [] (.lets [.not (.v 36)] [] zxf))
def zxh:T :=
 .lets [.idx (.v 21) (.v 27) 0,.idx (.v 21) (.v 27) 1,.idx (.v 21) (.v 27) 2,.idx (.v 21) (.v 27) 3,.idx (.v 21) (.v 27) 4,.idx (.v 21) (.v 27) 5] [] zxg
def zxi:T :=
 .lets [.call 6 [.v 21,.v 24,.v 25] 0,.call 6 [.v 21,.v 24,.v 25] 1] [] (.lets [.not (.v 28)] [] (.ite (.v 29) (.ret [.c (.nil 6),.c (.nil 6),.c (.i .i64 7)]) (.lets [] [.inr
 6 (.v 21) (.v 27)] zxh)))
def zxj:T :=
 .lets [.mk 6 [[.v 4,.v 30,.v 32,.v 36,.v 5,.v 15]]] [] (.lets [.call 15 [.v 29,.v 34,.v 37] 0] [] (.lets [.bin .add (.v 30) (.c (.i .i64 1))] [] (.again 1 [.v 27,.v 28,.v
 38,.v 39])))
def zxk:T :=
 .lets [.call 6 [.v 29,.v 4,.v 30] 0,.call 6 [.v 29,.v 4,.v 30] 1] [] (.ite (.v 35) (.ret [.c (.nil 6),.c (.nil 6),.c (.i .i64 6)]) (.lets [.call 10 [.v 33] 0] []
 zxj))
def zxl:T :=
 .lets [.call 8 [.v 29] 0] [] (.lets [.bin .neq (.v 32) (.c (.i .i64 0))] [] (.ite (.v 33) (.ret [.c (.nil 6),.c (.nil 6),.v 32]) (.ret [.v 29,.v 20,.c (.i .i64 0)])))
def zxm:T :=
 .lets [.bin .lss (.v 30) (.v 26)] [] (.ite (.v 31) (.lets [] [.inr 2 (.v 3) (.v 30)] (.lets [.idx (.v 3) (.v 30) 0,.idx (.v 3) (.v 30) 1] [] zxk)) zxl)
def zxn:T :=
 .ite (.v 25) (.ret [.c (.nil 6),.c (.nil 6),.c (.i .i64 9)]) (.lets [.len (.v 3)] [] (.loop [.c (.nil 6),.c (.i .i64 0),.v 21,.c (.i .i64 0)] zxm))
def zxo:T :=
 .ite (.v 23) (.lets [] [.inr 3 (.v 2) (.v 22)] (.lets [.idx (.v 2) (.v 22) 0,.idx (.v 2) (.v 22) 1,.idx (.v 2) (.v 22) 2] [] zxi)) (.lets [.call 13 [.v 1,.v 2,.v 3,.v
 20] 0] [] (.lets [.bin .lss (.v 24) (.c (.i .i64 0))] [] zxn))
def zxp:T :=
 .lets [.call 11 [.v 0] 0] [] (.lets [.len (.v 2)] [] (.loop [.c (.nil 6),.c (.i .i64 0),.c (.nil 6),.v 16,.c (.i .i64 0)] (.lets [.bin .lss (.v 22) (.v 17)] [] zxo)))
def zxq:T :=
 .lets [.bin .eql (.v 14) (.c (.i .i64 0))] [] (.ite (.v 15) (.lets [.bin .neq (.v 1) (.v 5)] [] (.ite (.v 16) (.ret [.c (.nil 6),.c (.nil 6),.c (.i .i64 4)]) zxa))
 zxp)
def zxr:T :=
 .ite (.v 12) (.ret [.c (.nil 6),.c (.nil 6),.c (.i .i64 3)]) (.lets [.bin .gtr (.v 5) (.c (.i .i64 1000))] [] (.ite (.v 13) (.ret [.c (.nil 6),.c (.nil 6),.c (.i .i64 3)])
 (.lets [.len (.v 2)] [] zxq)))
def zxs:T :=
 .lets [.bin .gtr (.v 4) (.c (.i .i64 120))] [] (.ite (.v 11) (.ret [.c (.nil 6),.c (.nil 6),.c (.i .i64 3)]) (.lets [.bin .lss (.v 5) (.c (.i .i64 1))] [] zxr))
def zxt:T :=
 .ite (.v 9) (.ret [.c (.nil 6),.c (.nil 6),.v 8]) (.lets [.bin .lss (.v 4) (.c (.i .i64 1))] [] (.ite (.v 10) (.ret [.c (.nil 6),.c (.nil 6),.c (.i .i64 3)]) zxs))
def zxu:T :=
 .lets [.bin .neq (.v 6) (.c (.i .i64 0))] [] (.ite (.v 7) (.ret [.c (.nil 6),.c (.nil 6),.v 6]) (.lets [.call 17 [.v 1,.v 2,.v 3] 0] [] (.lets [.bin .neq (.v 8) (.c (.i .i64
 0))] [] zxt)))
def zhf:T :=
 .lets [.call 8 [.v 0] 0] [] zxu
theorem zpt:Meets Tryz.prog z51 50 ⟨[.one,.agg 3,.one,.one],[(false,[.pure]),(true,[.pure]),(false,[.scal])],false⟩:=by
 refine zgt (sp:=(z0m [(6,z79),(8,z1i),(10,z78),(11,z3b),(13,z58),(14,z7h),(15,z7i),(16,z97),(17,z5s)])) (sigs:=z0t) (cut:=[]) (hints:=[⟨19,[.r 8 86 6,.t 10,.r 0 86 6,.t 111,.z 84,.z 83,.z 78]⟩]) (fns:=[zc2 105 Tryz.f105 [⟨2,[.r 6 86 6,.t 8,.r 7 86 6,.r 0 86 6,.t 19]⟩] [],zc2 104 Tryz.f104 [] []]) (dep:=2) (pool:=240) (fn:=Tryz.f50) (t:=zhf) (by kernel_rfl) (by kernel_rfl) (by kernel_rfl) ?_ ?_ ?_
 ·exact (z3v (fn:=Tryz.f105) (by kernel_rfl) (by kernel_rfl) (by kernel_rfl) (by kernel_rfl) (by kernel_rfl) (z3v (fn:=Tryz.f104) (by kernel_rfl) (by kernel_rfl) (by kernel_rfl) (by kernel_rfl) (by kernel_rfl) zjw))
 ·exact (z0c (L:=[(6,z79),(8,z1i),(10,z78),(11,z3b),(13,z58),(14,z7h),(15,z7i),(16,z97),(17,z5s)]) ⟨z7 rfl zp9,z7 rfl z8j,z7 rfl ztg,z7 rfl zf5,z7 rfl zne,z7 rfl zpr,z7 rfl zps,z7 rfl z006,z7 rfl zp8,trivial⟩)
 ·rintro ds rs - h
  obtain ⟨⟨l,t,nm,ht⟩,-,rfl,rfl⟩:=zq h
  clear h
  refine ⟨⟨t.ins.length+t.outs.length+1,?_⟩,z05d⟩
  show den _ _ zhf [.l 6 (l.map z9),I t.height,.l 3 (t.ins.map eIn),.l 2 (t.outs.map z2f),I nm,I ht] []=ret (zk l t nm ht)
  unfold zhf zk
  repeat' (first|refine dq1 ?_|refine dqk rfl (z2l _) ?_|refine dqk rfl (zfu _) ?_|exact z6 rfl rfl|((first|refine tR ?_ ?_|refine tO ?_ ?_) <;> intro h)|fail)
  all_goals
   have ok:CoinsOK l:=(z0d l).1 (Decidable.not_not.1 (by assumption))
   have okt:TxOK t:=z4z (Decidable.not_not.1 (by assumption))
   have hl:=ok.len
   have hti:=okt.ins
   have hto:=okt.outs
   repeat' (first|refine dq1 ?_|refine dqk rfl (z6t _ ok.short) ?_|fail)
  ·(refine z0k (fun (st:List Coin × List Coin) k=>[.l 6 (([]:List Coin).map z9),I 0,.l 6 (st.2.map z9),.l 6 (st.1.map z9),I k]) (fun (st:List Coin × List Coin) _ (xs:List In)=>z3h ht z4t (fun r s=>z3i nm ht (decide ((t.ins.length:Int)=0)) z4t (z9s s) r 0 t.outs) st.1 st.2 xs) (fun st k=>SpI l st k) (l,[]) t.ins ?_ ?_ ?_ ?_ ?_;rfl;exact ⟨ok.sorted,Nat.le_refl _,ok.good,rfl,fun c hc=>by cases hc⟩;omega)
   ·rintro ⟨r,s⟩ k x xs hx hd hk hI again hag
    rename_i h0 _
    omega
   ·rintro ⟨r,s⟩ hI again
    rw [z3h]
    repeat' (first|refine dq1 ?_|refine dqF ?_|fail)
    (refine z0k (fun (r:List Coin) k=>[.l 6 (([]:List Coin).map z9),I 0,.l 6 (r.map z9),I k]) (fun (r:List Coin) k (os:List Out)=>z3i nm ht (decide ((t.ins.length:Int)=0)) z4t (z9s s) r k os) (fun r k=>z09 r∧r.length≤l.length+k) r t.outs ?_ ?_ ?_ ?_ ?_;rfl;exact ⟨hI.sorted,hI.len⟩;omega)
    ·rintro r k o os hx hd hk ⟨hs,hrl⟩ again' hag
     rw [z3i]
     have hol:=z93 (okt.good o (List.mem_of_getElem? hx)).2.2
     have hpl:=zes r ⟨nm,k⟩
     have e1:((zf r ⟨nm,k⟩:Int)).toNat=zf r ⟨nm,k⟩:=by omega
     repeat' (first|refine dq1 ?_|refine dqc ?_|refine dqm ?_|refine dqK rfl (z60 r ⟨nm,k⟩ hs (by omega)) ?_|refine dqk rfl (zb4 _ (by omega)) ?_|exact z6 rfl rfl|refine tB (fun h=>?_) fun h=>?_|refine dqT ?_|fail)
     have hno:=h
     refine z8 (z48 (r:=[(⟨⟨nm,k⟩,o,ht,decide ((t.ins.length:Int)=0)⟩:Coin)].map z9) rfl rfl (by simp)) ?_
     refine z8 (z33 rfl (zav _ _ _ ⟨by omega,by omega,by omega⟩) rfl) ?_
     refine z8 (z8d rfl rfl (by omega)) ?_
     rw [e1]
     exact zw rfl rfl (hag _ ⟨z7g hs (c:=⟨⟨nm,k⟩,o,ht,decide ((t.ins.length:Int)=0)⟩) hno,by simp only [List.length_append,List.length_take,List.length_drop,List.length_singleton];omega⟩)
    ·rintro r hr again'
     rw [z3i]
     unfold z9s
     repeat' (first|refine dq1 ?_|refine dqk rfl (z2l _) ?_|exact z6 rfl rfl|refine tR (fun h=>?_) fun h=>?_|refine dqF ?_|fail)
  ·(refine z0k (fun (st:List Coin × List Coin) k=>[.l 6 (([]:List Coin).map z9),I 0,.l 6 (st.2.map z9),.l 6 (st.1.map z9),I k]) (fun (st:List Coin × List Coin) _ (xs:List In)=>z3h ht z4t (fun r s=>if z15 t s<0 then z4t 9 else z3i nm ht (decide ((t.ins.length:Int)=0)) z4t (z9s s) r 0 t.outs) st.1 st.2 xs) (fun st k=>SpI l st k) (l,[]) t.ins ?_ ?_ ?_ ?_ ?_;rfl;exact ⟨ok.sorted,Nat.le_refl _,ok.good,rfl,fun c hc=>by cases hc⟩;omega)
   ·rintro ⟨r,s⟩ k x xs hx hd hk hI again hag
    rw [z3h]
    simp only
    have hs:=hI.sorted
    have hrl:=hI.len
    simp only at hs hrl
    repeat' (first|refine dq1 ?_|refine dqc ?_|refine dqm ?_|refine dqK rfl (z60 _ _ hs (by omega)) ?_|exact z6 rfl rfl|refine tN (fun h=>?_) fun h=>?_|refine dqT ?_|fail)
    obtain ⟨hlt,hp⟩:=(zet hs x.p).1 h
    have hc:r[zf r x.p]? = some r[zf r x.p]:=List.getElem?_eq_getElem hlt
    rw [hc]
    generalize r[zf r x.p]=c at *
    have hcb:=z4d (hI.good c (List.mem_of_getElem? hc))
    have e1:((zf r x.p:Int)).toNat=zf r x.p:=by omega
    have e2:((zf r x.p:Int)+1).toNat=zf r x.p+1:=by omega
    simp only [Option.getD_some]
    have hxo:=hx
    have hx:=hc
    repeat' (first|refine dq1 ?_|refine dqc ?_|refine dqm ?_|refine dqK rfl (zli _ _ _) ?_|exact z6 rfl rfl|((first|refine tR ?_ ?_|refine tB ?_ ?_|refine tN ?_ ?_) <;> intro h)|fail)
    all_goals (refine z8 (z48 (r:=[c].map z9) rfl rfl (by simp)) ?_;refine z8 (zld (l:=s) (l':=[c]) rfl rfl (by have:=hI.cnt;simp only at this ⊢;simp only [List.length_singleton];omega)) ?_;refine z8 (z8d rfl rfl (by omega)) ?_;refine z8 (z33 rfl (zft _ _ _ ⟨by omega,by omega,by omega⟩) rfl) ?_;refine z8 (z8d rfl rfl (by omega)) ?_;rw [e1,e2];exact zw rfl rfl (hag (r.take (zf r x.p)++r.drop (zf r x.p+1),s++[c]) (hI.cut hc)))
   ·rintro ⟨r,s⟩ hI again
    rw [z3h]
    repeat' (first|refine dq1 ?_|refine dqk rfl (za5 t s (hI.fee okt)) ?_|exact z6 rfl rfl|refine tR (fun h=>?_) fun h=>?_|refine dqF ?_|fail)
    (refine z0k (fun (r:List Coin) k=>[.l 6 (([]:List Coin).map z9),I 0,.l 6 (r.map z9),I k]) (fun (r:List Coin) k (os:List Out)=>z3i nm ht (decide ((t.ins.length:Int)=0)) z4t (z9s s) r k os) (fun r k=>z09 r∧r.length≤l.length+k) r t.outs ?_ ?_ ?_ ?_ ?_;rfl;exact ⟨hI.sorted,hI.len⟩;omega)
    ·rintro r k o os hx hd hk ⟨hs,hrl⟩ again' hag
     rw [z3i]
     have hol:=z93 (okt.good o (List.mem_of_getElem? hx)).2.2
     have hpl:=zes r ⟨nm,k⟩
     have e1:((zf r ⟨nm,k⟩:Int)).toNat=zf r ⟨nm,k⟩:=by omega
     repeat' (first|refine dq1 ?_|refine dqc ?_|refine dqm ?_|refine dqK rfl (z60 r ⟨nm,k⟩ hs (by omega)) ?_|refine dqk rfl (zb4 _ (by omega)) ?_|exact z6 rfl rfl|refine tB (fun h=>?_) fun h=>?_|refine dqT ?_|fail)
     have hno:=h
     refine z8 (z48 (r:=[(⟨⟨nm,k⟩,o,ht,decide ((t.ins.length:Int)=0)⟩:Coin)].map z9) rfl rfl (by simp)) ?_
     refine z8 (z33 rfl (zav _ _ _ ⟨by omega,by omega,by omega⟩) rfl) ?_
     refine z8 (z8d rfl rfl (by omega)) ?_
     rw [e1]
     exact zw rfl rfl (hag _ ⟨z7g hs (c:=⟨⟨nm,k⟩,o,ht,decide ((t.ins.length:Int)=0)⟩) hno,by simp only [List.length_append,List.length_take,List.length_drop,List.length_singleton];omega⟩)
    ·rintro r hr again'
     rw [z3i]
     unfold z9s
     repeat' (first|refine dq1 ?_|refine dqk rfl (z2l _) ?_|exact z6 rfl rfl|refine tR (fun h=>?_) fun h=>?_|refine dqF ?_|fail)
end
section
open Go.RowKit
set_option maxRecDepth 100000
set_option maxHeartbeats 4000000
attribute [local irreducible] z0y spD z29 zj zo zh
noncomputable def z7u:za:=spD (fun x:List Coin × Tx × Int × List Coin=>z1a x.2.2.2) fun x=>z21 x.1 x.2.1 x.2.2.1 x.2.2.2
theorem zeb (l:List Coin) (t:Tx) (nm:Int) (u:List Coin) (h:z1a u):z7u [.l 6 (l.map z9),I t.height,.l 3 (t.ins.map eIn),.l 2 (t.outs.map z2f),I nm,.l 6 (u.map z9)]=some [.l 6 ((z21 l t nm u).1.map z9),I (z21 l t nm u).2]:=zl (p:=fun x:List Coin × Tx × Int × List Coin=>z1a x.2.2.2) (f:=fun x:List Coin × Tx × Int × List Coin=>z21 x.1 x.2.1 x.2.2.1 x.2.2.2) (l,t,nm,u) h
def zxv:T :=
 .lets [.bin .add (.v 22) (.c (.i .i64 1))] [] (.lets [.call 14 [.v 17,.v 22,.v 29] 0] [] (.lets [.bin .add (.v 18) (.c (.i .i64 1))] [] (.again 0 [.v 15,.v 16,.v 30,.v 31])))
def zxw:T :=
 .lets [.idx (.v 17) (.v 22) 2,.idx (.v 17) (.v 22) 3] [] (.lets [.call 21 [.v 25,.v 26,.v 20,.v 21] 0] [] (.lets [.not (.v 27)] [] (.ite (.v 28) (.ret [.c (.nil 6),.c (.i .i64
 7)]) zxv)))
def zxx:T :=
 .lets [.call 6 [.v 17,.v 4,.v 18] 0,.call 6 [.v 17,.v 4,.v 18] 1] [] (.lets [.not (.v 23)] [] (.ite (.v 24) (.ret [.c (.nil 6),.c (.i .i64 7)]) (.lets [] [.inr 6 (.v 17) (.v
 22)] zxw)))
def zxy:T :=
 .lets [.mk 6 [[.v 27,.v 28,.v 29,.v 30,.v 31,.v 32]]] [] (.lets [.call 15 [.v 24,.v 33,.v 38] 0] [] (.lets [.bin .add (.v 25) (.c (.i .i64 1))] [] (.again 1 [.v 22,.v 23,.v
 39,.v 40])))
def zxz:T :=
 .lets [.idx (.v 2) (.v 25) 0,.idx (.v 2) (.v 25) 1] [] (.lets [.eqs true [(.v 35,.v 27),(.v 36,.v 28)]] [] (.ite (.v 37) (.ret [.c (.nil 6),.c (.i .i64 6)]) zxy))
def zy0:T :=
 .lets [.call 6 [.v 24,.v 27,.v 28] 0,.call 6 [.v 24,.v 27,.v 28] 1] [] (.ite (.v 34) (.ret [.c (.nil 6),.c (.i .i64 6)]) (.lets [] [.inr 3 (.v 2) (.v 25)] zxz))
def zy1:T :=
 .lets [.idx (.v 20) (.v 25) 0,.idx (.v 20) (.v 25) 1,.idx (.v 20) (.v 25) 2,.idx (.v 20) (.v 25) 3,.idx (.v 20) (.v 25) 4,.idx (.v 20) (.v 25) 5] [] zy0
def zy2:T :=
 .ite (.v 26) (.lets [] [.inr 6 (.v 20) (.v 25)] zy1) (.lets [.call 8 [.v 24] 0] [] (.lets [.bin .neq (.v 27) (.c (.i .i64 0))] [] (.ite (.v 28) (.ret [.c (.nil 6),.v 27])
 (.ret [.v 24,.c (.i .i64 0)]))))
def zy3:T :=
 .ite (.v 19) (.lets [] [.inr 2 (.v 3) (.v 18)] (.lets [.idx (.v 3) (.v 18) 0,.idx (.v 3) (.v 18) 1] [] zxx)) (.lets [.call 11 [.v 5] 0] [] (.lets [.len (.v 20)] [] (.loop
 [.v 15,.v 16,.v 17,.c (.i .i64 0)] (.lets [.bin .lss (.v 25) (.v 21)] [] zy2))))
def zy4:T :=
 .lets [.call 11 [.v 0] 0] [] (.lets [.len (.v 3)] [] (.loop [.c (.nil 6),.c (.i .i64 0),.v 13,.c (.i .i64 0)] (.lets [.bin .lss (.v 18) (.v 14)] [] zy3)))
def zrd:T :=
 .ite (.v 9) (.ret [.c (.nil 6),.v 8]) (.lets [.len (.v 5)] [] (.lets [.len (.v 2)] [] (.lets [.bin .neq (.v 10) (.v 11)] [] (.ite (.v 12) (.ret [.c (.nil 6),.c (.i .i64 4)])
 zy4))))
def zre:T :=
 .lets [.bin .neq (.v 6) (.c (.i .i64 0))] [] (.ite (.v 7) (.ret [.c (.nil 6),.v 6]) (.lets [.call 17 [.v 1,.v 2,.v 3] 0] [] (.lets [.bin .neq (.v 8) (.c (.i .i64 0))] []
 zrd)))
def zfd:T :=
 .lets [.call 8 [.v 0] 0] [] zre
theorem z05e:Meets Tryz.prog z7u 95 ⟨[.one,.agg 3,.one,.agg 1],[(false,[.pure]),(false,[.scal])],false⟩:=by
 refine zi (sp:=(z0m [(6,z79),(8,z1i),(11,z3b),(14,z7h),(15,z7i),(17,z5s),(21,z35)])) (sigs:=z0t) (cut:=[]) (hints:=[⟨11,[.r 8 86 6,.t 9,.r 0 86 6,.t 43,.z 39]⟩,⟨19,[.r 8 86 6,.t 9,.r 0 86 6,.t 78]⟩]) (fn:=Tryz.f95) (t:=zfd) (by kernel_rfl) (by kernel_rfl) (by kernel_rfl) ?_ ?_
 ·exact (z0c (L:=[(6,z79),(8,z1i),(11,z3b),(14,z7h),(15,z7i),(17,z5s),(21,z35)]) ⟨z7 rfl zp9,z7 rfl z8j,z7 rfl zf5,z7 rfl zpr,z7 rfl zps,z7 rfl zp8,z7 rfl zdc,trivial⟩)
 ·rintro ds rs - h
  obtain ⟨⟨l,t,nm,u⟩,hu,rfl,rfl⟩:=zq h
  clear h
  simp only at hu
  refine ⟨⟨u.length+t.outs.length+1,?_⟩,z08c⟩
  show den _ _ zfd [.l 6 (l.map z9),I t.height,.l 3 (t.ins.map eIn),.l 2 (t.outs.map z2f),I nm,.l 6 (u.map z9)] []=ret (z21 l t nm u)
  unfold zfd z21
  repeat' (first|refine dq1 ?_|refine dqk rfl (z2l _) ?_|refine dqk rfl (zfu _) ?_|exact z6 rfl rfl|refine tR (fun h=>?_) fun h=>?_|fail)
  have hul:u.length=t.ins.length:=by omega
  have ok:CoinsOK l:=(z0d l).1 (Decidable.not_not.1 (by assumption))
  have okt:TxOK t:=z4z (Decidable.not_not.1 (by assumption))
  have hl:=ok.len
  have hti:=okt.ins
  have hto:=okt.outs
  repeat' (first|refine dq1 ?_|refine dqk rfl (z6t _ ok.short) ?_|fail)
  (refine z0k (fun (r:List Coin) k=>[.l 6 (([]:List Coin).map z9),I 0,.l 6 (r.map z9),I k]) (fun (r:List Coin) k (os:List Out)=>zfa nm zdh (fun r=>zd1 t.ins zdh znl r 0 u) r k os) (fun r k=>z09 r∧r.length≤l.length) l t.outs ?_ ?_ ?_ ?_ ?_;rfl;exact ⟨ok.sorted,Nat.le_refl _⟩;omega)
  ·rintro r k o os hx hd hk ⟨hs,hrl⟩ again hag
   rw [zfa]
   repeat' (first|refine dq1 ?_|refine dqc ?_|refine dqm ?_|refine dqK rfl (z60 r ⟨nm,k⟩ hs (by omega)) ?_|exact z6 rfl rfl|refine tN (fun h=>?_) fun h=>?_|refine dqT ?_|fail)
   obtain ⟨hlt,hp⟩:=(zet hs ⟨nm,k⟩).1 h
   have hc:r[zf r ⟨nm,k⟩]? = some r[zf r ⟨nm,k⟩]:=List.getElem?_eq_getElem hlt
   rw [hc]
   generalize r[zf r ⟨nm,k⟩]=c at *
   have e1:((zf r ⟨nm,k⟩:Int)).toNat=zf r ⟨nm,k⟩:=by omega
   have e2:((zf r ⟨nm,k⟩:Int)+1).toNat=zf r ⟨nm,k⟩+1:=by omega
   simp only [Option.getD_some]
   have hxo:=hx
   have hx:=hc
   repeat' (first|refine dq1 ?_|refine dqc ?_|refine dqm ?_|refine dqk rfl (z99 c.o o) ?_|refine dqk rfl (zft r (zf r ⟨nm,k⟩:Int) ((zf r ⟨nm,k⟩:Int)+1) ⟨by omega,by omega,by omega⟩) ?_|exact z6 rfl rfl|refine tN (fun h=>?_) fun h=>?_|fail)
   rw [e1,e2]
   exact zw rfl rfl (hag _ ⟨z7f hs _,by simp only [List.length_append,List.length_take,List.length_drop];omega⟩)
  ·rintro r ⟨hs,hrl⟩ again
   rw [zfa]
   repeat' (first|refine dq1 ?_|refine dqk rfl (z6t _ hu) ?_|refine dqF ?_|fail)
   (refine z0k (fun (r:List Coin) k=>[.l 6 (([]:List Coin).map z9),I 0,.l 6 (r.map z9),I k]) (fun (r:List Coin) k (cs:List Coin)=>zd1 t.ins zdh znl r k cs) (fun r k=>z09 r∧r.length≤l.length+k) r u ?_ ?_ ?_ ?_ ?_;rfl;exact ⟨hs,hrl⟩;omega)
   ·rintro r k c cs hx hd hk ⟨hs,hrl⟩ again' hag
    rw [zd1]
    have hpl:=zes r c.p
    have e1:((zf r c.p:Int)).toNat=zf r c.p:=by omega
    have hki:k<t.ins.length:=by omega
    obtain ⟨x,hxi⟩:∃ x,t.ins[k]? = some x:=⟨_,List.getElem?_eq_getElem hki⟩
    rw [hxi]
    simp only [Option.getD_some]
    repeat' (first|refine dq1 ?_|refine dqc ?_|refine dqm ?_|refine dqK rfl (z60 r c.p hs (by omega)) ?_|exact z6 rfl rfl|((first|refine tR ?_ ?_|refine tB ?_ ?_) <;> intro h)|refine dqT ?_|fail)
    have hno:=h
    have hxo:=hx
    have hx:=hxi
    repeat' (first|refine dq1 ?_|refine dqc ?_|refine dqm ?_|exact z6 rfl rfl|((first|refine tR ?_ ?_|refine tB ?_ ?_|refine tC ?_ ?_|refine tN ?_ ?_|refine tF ?_ ?_|refine tG ?_ ?_|refine tP ?_ ?_|refine tQ ?_ ?_|refine tA ?_ ?_|refine tO ?_ ?_|refine tU ?_ ?_|refine tV ?_ ?_) <;> intro h)|refine dqT ?_|refine dqF ?_|refine z4c rfl ?_|refine z2k rfl ?_|refine zgu ?_|refine zgv ?_|fail)
    refine z8 (z48 (r:=[c].map z9) rfl rfl (by simp)) ?_
    refine z8 (z33 rfl (zav _ _ _ ⟨by omega,by omega,by omega⟩) rfl) ?_
    refine z8 (z8d rfl rfl (by omega)) ?_
    rw [e1]
    exact zw rfl rfl (hag _ ⟨z7g hs (by assumption),by simp only [List.length_append,List.length_take,List.length_drop,List.length_singleton];omega⟩)
   ·rintro r hr again'
    rw [zd1]
    unfold znl
    repeat' (first|refine dq1 ?_|refine dqk rfl (z2l _) ?_|exact z6 rfl rfl|refine tR (fun h=>?_) fun h=>?_|refine dqF ?_|fail)
end
section
open Go.RowKit
theorem hasP_mem {l:List Coin} {p:Point}:z2o l p=true↔∃ c ∈ l,c.p=p:=by
 unfold z2o
 rw [List.any_eq_true]
 constructor
 ·rintro ⟨c,hc,h⟩;exact ⟨c,hc,of_decide_eq_true h⟩
 ·rintro ⟨c,hc,h⟩;exact ⟨c,hc,decide_eq_true h⟩
theorem hasP_not {l:List Coin} {p:Point}:z2o l p=false↔∀ c ∈ l,c.p≠p:=by
 rw [← Bool.not_eq_true,hasP_mem]
 constructor
 ·intro h c hc he;exact h ⟨c,hc,he⟩
 ·rintro h ⟨c,hc,he⟩;exact h c hc he
theorem zjd {l:List Coin} (h:z09 l) {c d:Coin} (hc:c ∈ l) (hd:d ∈ l) (hp:c.p=d.p):c=d:=by
 obtain ⟨i,hi,rfl⟩:=List.getElem_of_mem hc
 obtain ⟨j,hj,rfl⟩:=List.getElem_of_mem hd
 rcases Nat.lt_trichotomy i j with hij|rfl|hij
 ·have:=z8f h hij hj;rw [hp] at this;exact absurd this (z5q _)
 ·rfl
 ·have:=z8f h hij hi;rw [hp] at this;exact absurd this (z5q _)
theorem zy5 {l:List Coin} (h:z09 l) {c:Coin} (hc:c ∈ l):l[zf l c.p]? = some c:=by
 obtain ⟨hlt,hp⟩:=(zet h c.p).1 (hasP_mem.2 ⟨c,hc,rfl⟩)
 rw [List.getElem?_eq_getElem hlt]
 exact congrArg some (zjd h (List.getElem_mem hlt) hc hp)
theorem z0d9 {l:List Coin} (h:z09 l) {p:Point} (hp:z2o l p=true):∃ c,l[zf l p]? = some c∧c ∈ l∧c.p=p:=by
 obtain ⟨c,hc,rfl⟩:=hasP_mem.1 hp
 exact ⟨c,zy5 h hc,hc,rfl⟩
theorem zfe:∀ {a b:List Coin},z09 a→z09 b→(∀ c,c ∈ a↔c ∈ b)→a=b
 | [],[],_,_,_=>rfl
 | [],y::b,_,_,h=>by have:=(h y).2 (List.mem_cons_self ..);cases this
 | x::a,[],_,_,h=>by have:=(h x).1 (List.mem_cons_self ..);cases this
 | x::a,y::b,ha,hb,h=>by
  have ha':=List.pairwise_cons.1 ha
  have hb':=List.pairwise_cons.1 hb
  have hxy:x=y:=by
   rcases List.mem_cons.1 ((h x).1 (List.mem_cons_self ..)) with e|hx
   ·exact e
   ·rcases List.mem_cons.1 ((h y).2 (List.mem_cons_self ..)) with e|hy
    ·exact e.symm
    ·exact absurd (hb'.1 x hx) (zp3 (ha'.1 y hy))
  subst hxy
  congr 1
  refine zfe ha'.2 hb'.2 fun c=>⟨fun hc=>?_,fun hc=>?_⟩
  ·rcases List.mem_cons.1 ((h c).1 (List.mem_cons_of_mem _ hc)) with rfl|h'
   ·exact absurd (ha'.1 c hc) (z5q _)
   ·exact h'
  ·rcases List.mem_cons.1 ((h c).2 (List.mem_cons_of_mem _ hc)) with rfl|h'
   ·exact absurd (hb'.1 c hc) (z5q _)
   ·exact h'
theorem znm {l:List Coin} (h:z09 l) {c:Coin} {k:Nat} (hk:l[k]? = some c) {d:Coin}:d ∈ l.take k++l.drop (k+1)↔d ∈ l∧d.p≠c.p:=by
 obtain ⟨hlt,rfl⟩:=List.getElem?_eq_some_iff.1 hk
 have hsplit:l=l.take k++l[k]::l.drop (k+1):=by rw [List.getElem_cons_drop,List.take_append_drop]
 have hs:z09 (l.take k++l[k]::l.drop (k+1)):=by rw [← hsplit];exact h
 obtain ⟨_,h2,h3⟩:=List.pairwise_append.1 hs
 have h2':=List.pairwise_cons.1 h2
 constructor
 ·intro hd
  refine ⟨?_,?_⟩
  ·rcases List.mem_append.1 hd with hd|hd
   ·exact List.mem_of_mem_take hd
   ·exact List.mem_of_mem_drop hd
  ·rcases List.mem_append.1 hd with hd|hd
   ·intro e;have:=h3 d hd l[k] (List.mem_cons_self ..);rw [e] at this;exact z5q _ this
   ·intro e;have:=h2'.1 d hd;rw [e] at this;exact z5q _ this
 ·rintro ⟨hd,hne⟩
  rw [hsplit] at hd
  rcases List.mem_append.1 hd with hd|hd
  ·exact List.mem_append_left _ hd
  ·rcases List.mem_cons.1 hd with rfl|hd
   ·exact absurd rfl hne
   ·exact List.mem_append_right _ hd
theorem put_mem {l:List Coin} {c d:Coin} {k:Nat}:d ∈ l.take k++[c]++l.drop k↔d=c∨d ∈ l:=by
 have:d ∈ l↔d ∈ l.take k∨d ∈ l.drop k:=by rw [← List.mem_append,List.take_append_drop]
 rw [List.mem_append,List.mem_append,List.mem_singleton,this]
 constructor
 ·rintro ((h|h)|h)
  ·exact .inr (.inl h)
  ·exact .inl h
  ·exact .inr (.inr h)
 ·rintro (h|h|h)
  ·exact .inl (.inr h)
  ·exact .inl (.inl h)
  ·exact .inr h
theorem z08d {l:List Coin} {c:Coin} {k:Nat} (hk:l[k]? = some c):zd l=zd (l.take k++l.drop (k+1))+c.o.coin:=by
 obtain ⟨hlt,rfl⟩:=List.getElem?_eq_some_iff.1 hk
 have hsplit:l=l.take k++l[k]::l.drop (k+1):=by rw [List.getElem_cons_drop,List.take_append_drop]
 have e:zd l=zd (l.take k++l[k]::l.drop (k+1)):=by rw [← hsplit]
 rw [e,z4p,z4p,zd]
 omega
theorem z08e {l:List Coin} {c:Coin} {k:Nat}:zd (l.take k++[c]++l.drop k)=zd l+c.o.coin:=by
 have e:zd l=zd (l.take k++l.drop k):=by rw [List.take_append_drop]
 rw [e,z4p,z4p,z4p,zd,zd]
 omega
structure Fine (h:Int) (x:In) (c:Coin):Prop where
 p:c.p=x.p
 ripe:c.reward=true→c.height+2≤h
 opens:(z4q c.o.lock x.key h).1=true
inductive Spent (h:Int):List Coin→List Coin→List In→List Coin→List Coin→Prop
 | nil (r s):Spent h r s [] r s
 | cons {r s x xs r' s' c}:c ∈ r→r[zf r x.p]? = some c→Fine h x c→Spent h (r.take (zf r x.p)++r.drop (zf r x.p+1)) (s++[c]) xs r' s'→Spent h r s (x::xs) r' s'
theorem zlx {ρ:Type} {h:Int} {bad:Int→ρ} {K:List Coin→List Coin→ρ} {r s:List Coin} {x:In} {xs:List In} {c:Coin} (hm:c ∈ r) (hc:r[zf r x.p]? = some c) (hf:Fine h x c):z3h h bad K r s (x::xs)=z3h h bad K (r.take (zf r x.p)++r.drop (zf r x.p+1)) (s++[c]) xs:=by
 have hp:z2o r x.p=true:=hasP_mem.2 ⟨c,hm,hf.p⟩
 rw [z3h,if_pos hp,hc]
 simp only [Option.getD_some]
 rw [if_pos hf.opens]
 by_cases hr:c.reward=true
 ·rw [if_pos hr,if_neg (by have:=hf.ripe hr;omega)]
 ·rw [if_neg hr]
theorem Spent.run {ρ:Type} {h:Int} {bad:Int→ρ} {K:List Coin→List Coin→ρ} {r s r' s':List Coin} {xs:List In} (hs:Spent h r s xs r' s'):z3h h bad K r s xs=K r' s':=by
 induction hs with
 | nil r s=>rfl
 | cons hm hc hf _ ih=>rw [zlx hm hc hf,ih]
theorem zk5 {h:Int} {K:List Coin→List Coin→List Coin × List Coin × Int}:∀ {xs:List In} {r s:List Coin},z09 r→(z3h h z4t K r s xs).2.2=0→∃ r' s',Spent h r s xs r' s'∧z3h h z4t K r s xs=K r' s'
 | [],r,s,_,_=>⟨r,s,.nil r s,rfl⟩
 | x::xs,r,s,hr,h0=>by
  by_cases hp:z2o r x.p=true
  ·obtain ⟨c,hc,hm,hcp⟩:=z0d9 hr hp
   have hf:Fine h x c:=by
    rw [z3h,if_pos hp,hc] at h0
    simp only [Option.getD_some] at h0
    by_cases hrw:c.reward=true
    ·rw [if_pos hrw] at h0
     by_cases hh:h<c.height+2
     ·rw [if_pos hh] at h0;cases h0
     ·rw [if_neg hh] at h0
      by_cases ho:(z4q c.o.lock x.key h).1=true
      ·exact ⟨hcp,fun _=>by omega,ho⟩
      ·rw [if_neg ho] at h0;cases h0
    ·rw [if_neg hrw] at h0
     by_cases ho:(z4q c.o.lock x.key h).1=true
     ·exact ⟨hcp,fun h=>absurd h hrw,ho⟩
     ·rw [if_neg ho] at h0;cases h0
   have e:=zlx (bad:=z4t) (K:=K) (s:=s) (xs:=xs) hm hc hf
   rw [e] at h0 ⊢
   obtain ⟨r',s',h1,h2⟩:=zk5 (z7f hr _) h0
   exact ⟨r',s',.cons hm hc hf h1,h2⟩
  ·rw [z3h,if_neg hp] at h0
   cases h0
structure SpentAs (h:Int) (r:List Coin) (xs:List In) (r' cs:List Coin):Prop where
 sorted:z09 r'
 mem:∀ c,c ∈ r'↔c ∈ r∧∀ x ∈ xs,x.p≠c.p
 len:cs.length=xs.length
 fine:∀ (i:Nat) (x:In),xs[i]? = some x→∃ c,cs[i]? = some c∧c ∈ r∧Fine h x c
 apart:xs.Pairwise fun x y=>x.p≠y.p
 total:zd r=zd r'+zd cs
theorem Spent.as {h:Int} {r s r' s':List Coin} {xs:List In} (hs:Spent h r s xs r' s'):z09 r→∃ cs,s'=s++cs∧SpentAs h r xs r' cs:=by
 induction hs with
 | nil r s=>exact fun hr=>⟨[],(List.append_nil s).symm,hr,fun c=>by simp,rfl,fun i x hx=>by simp at hx,.nil,by simp [zd]⟩
 | @cons r s x xs r' s' c hm hc hf hs ih =>
  intro hr
  obtain ⟨cs,rfl,H⟩:=ih (z7f hr _)
  have hcm:=fun d=>znm hr hc (d:=d)
  refine ⟨c::cs,by simp,H.sorted,fun d=>?_,by simp [H.len],fun i y hy=>?_,?_,?_⟩
  ·rw [H.mem,hcm]
   constructor
   ·rintro ⟨⟨h1,h2⟩,h3⟩
    refine ⟨h1,fun y hy=>?_⟩
    rcases List.mem_cons.1 hy with rfl|hy
    ·rw [← hf.p];exact fun e=>h2 e.symm
    ·exact h3 y hy
   ·rintro ⟨h1,h2⟩
    exact ⟨⟨h1,fun e=>h2 x (List.mem_cons_self ..) (by rw [← hf.p,e])⟩,fun y hy=>h2 y (List.mem_cons_of_mem _ hy)⟩
  ·cases i with
   | zero =>
    simp only [List.getElem?_cons_zero,Option.some.injEq] at hy
    subst hy
    exact ⟨c,rfl,hm,hf⟩
   | succ i =>
    obtain ⟨d,h1,h2,h3⟩:=H.fine i y (by simpa using hy)
    exact ⟨d,by simpa using h1,(hcm d).1 h2 |>.1,h3⟩
  ·refine List.pairwise_cons.2 ⟨fun y hy=>?_,H.apart⟩
   obtain ⟨i,hi⟩:=List.getElem?_of_mem hy
   obtain ⟨d,_,h2,h3⟩:=H.fine i y hi
   have:=((hcm d).1 h2).2
   rw [h3.p,hf.p] at this
   exact fun e=>this e.symm
  ·rw [z08d hc,H.total,zd];omega
theorem Spent.of {h:Int}:∀ {xs:List In} {r s cs:List Coin},z09 r→xs.Pairwise (fun x y=>x.p≠y.p)→cs.length=xs.length→(∀ (i:Nat) (x:In),xs[i]? = some x→∃ c,cs[i]? = some c∧c ∈ r∧Fine h x c)→∃ r',Spent h r s xs r' (s++cs)
 | [],r,s,cs,hr,ha,hl,hf=>by
  have:cs=[]:=List.eq_nil_of_length_eq_zero hl
  subst this
  exact ⟨r,by rw [List.append_nil];exact .nil r s⟩
 | x::xs,r,s,[],hr,ha,hl,hf=>by cases hl
 | x::xs,r,s,c::cs,hr,ha,hl,hf=>by
  obtain ⟨c',h1,hm,hfx⟩:=hf 0 x rfl
  simp only [List.getElem?_cons_zero,Option.some.injEq] at h1
  subst h1
  have hc:r[zf r x.p]? = some c:=by rw [← hfx.p];exact zy5 hr hm
  have ha':=List.pairwise_cons.1 ha
  obtain ⟨r',hs⟩:=Spent.of (s:=s++[c]) (cs:=cs) (z7f hr (zf r x.p)) ha'.2 (by simpa using hl) fun i y hy=>by
   obtain ⟨d,k1,k2,k3⟩:=hf (i+1) y (by simpa using hy)
   refine ⟨d,by simpa using k1,(znm hr hc).2 ⟨k2,?_⟩,k3⟩
   rw [k3.p,hfx.p]
   exact fun e=>ha'.1 y (List.mem_of_getElem? hy) e.symm
  exact ⟨r',.cons hm hc hfx (by rw [List.append_assoc] at hs;exact hs)⟩
def z6b (nm h:Int) (rw:Bool) (i:Nat) (o:Out):Coin:=⟨⟨nm,i⟩,o,h,rw⟩
inductive Brought (nm h:Int) (rw:Bool):List Coin→Nat→List Out→List Coin→Prop
 | nil (r i):Brought nm h rw r i [] r
 | cons {r:List Coin} {i:Nat} {o:Out} {os:List Out} {m:List Coin}:z2o r ⟨nm,i⟩=false→Brought nm h rw (r.take (zf r ⟨nm,i⟩)++[z6b nm h rw i o]++r.drop (zf r ⟨nm,i⟩)) (i+1) os m→Brought nm h rw r i (o::os) m
theorem Brought.run {ρ:Type} {nm h:Int} {rw:Bool} {bad:Int→ρ} {K:List Coin→ρ} {r m:List Coin} {i:Nat} {os:List Out} (hb:Brought nm h rw r i os m):z3i nm h rw bad K r i os=K m:=by
 induction hb with
 | nil r i=>rfl
 | cons hn _ ih=>rw [z3i,if_neg (by simp [hn])];exact ih
theorem zk6 {nm h:Int} {rw:Bool} {K:List Coin→List Coin × List Coin × Int}:∀ {os:List Out} {r:List Coin} {i:Nat},(z3i nm h rw z4t K r i os).2.2=0→∃ m,Brought nm h rw r i os m∧z3i nm h rw z4t K r i os=K m
 | [],r,i,_=>⟨r,.nil r i,rfl⟩
 | o::os,r,i,h0=>by
  rw [z3i] at h0 ⊢
  cases hp:z2o r ⟨nm,i⟩ with
  | true=>rw [hp,if_pos rfl] at h0;cases h0
  | false =>
   rw [hp,if_neg (by simp)] at h0
   rw [if_neg (by simp)]
   obtain ⟨m,h1,h2⟩:=zk6 h0
   exact ⟨m,.cons hp h1,h2⟩
def z22 (os:List Out):Int:=(os.map Out.coin).sum
structure BroughtAs (nm h:Int) (rw:Bool) (r:List Coin) (i:Nat) (os:List Out) (m:List Coin):Prop where
 sorted:z09 m
 mem:∀ c,c ∈ m↔c ∈ r∨∃ (j:Nat) (o:Out),os[j]? = some o∧c=z6b nm h rw (i+j) o
 free:∀ c ∈ r,∀ j,j<os.length→c.p≠⟨nm,((i+j:Nat):Int)⟩
 total:zd m=zd r+z22 os
 len:m.length=r.length+os.length
theorem Brought.as {nm h:Int} {rw:Bool} {r m:List Coin} {i:Nat} {os:List Out} (hb:Brought nm h rw r i os m):z09 r→BroughtAs nm h rw r i os m:=by
 induction hb with
 | nil r i=>exact fun hr=>⟨hr,fun c=>by simp,fun c _ j hj=>by simp at hj,by simp [z22],by simp⟩
 | @cons r i o os m hn hb ih =>
  intro hr
  have H:=ih (z7g hr (c:=z6b nm h rw i o) hn)
  refine ⟨H.sorted,fun c=>?_,fun c hc j hj=>?_,?_,?_⟩
  ·rw [H.mem,put_mem]
   constructor
   ·rintro ((rfl|h1)|⟨j,q,h1,h2⟩)
    ·exact .inr ⟨0,o,rfl,rfl⟩
    ·exact .inl h1
    ·exact .inr ⟨j+1,q,by simpa using h1,by rw [h2,show i+1+j=i+(j+1) by omega]⟩
   ·rintro (h1|⟨j,q,h1,h2⟩)
    ·exact .inl (.inr h1)
    ·cases j with
     | zero =>
      simp only [List.getElem?_cons_zero,Option.some.injEq] at h1
      subst h1
      exact .inl (.inl h2)
     | succ j=>exact .inr ⟨j,q,by simpa using h1,by rw [h2,show i+1+j=i+(j+1) by omega]⟩
  ·cases j with
   | zero=>exact hasP_not.1 hn c hc
   | succ j =>
    have:=H.free c (put_mem.2 (.inr hc)) j (by simpa using hj)
    rwa [show i+1+j=i+(j+1) by omega] at this
  ·rw [H.total,z08e]
   simp only [z22,List.map_cons,List.sum_cons,z6b]
   omega
  ·rw [H.len]
   simp only [List.length_append,List.length_take,List.length_drop,List.length_cons,List.length_nil]
   omega
theorem Brought.of {nm h:Int} {rw:Bool}:∀ {os:List Out} {r:List Coin} {i:Nat},z09 r→(∀ c ∈ r,∀ j,j<os.length→c.p≠⟨nm,((i+j:Nat):Int)⟩)→∃ m,Brought nm h rw r i os m
 | [],r,i,_,_=>⟨r,.nil r i⟩
 | o::os,r,i,hr,hf=>by
  have hn:z2o r ⟨nm,i⟩=false:=hasP_not.2 fun c hc=>hf c hc 0 (by simp)
  obtain ⟨m,hb⟩:=Brought.of (os:=os) (i:=i+1) (z7g hr (c:=z6b nm h rw i o) hn) fun c hc j hj=>by
   rcases put_mem.1 hc with rfl|hc
   ·simp only [z6b,ne_eq,Point.mk.injEq,not_and]
    intro _
    omega
   ·have:=hf c hc (j+1) (by simpa using hj)
    rwa [show i+(j+1)=i+1+j by omega] at this
  exact ⟨m,.cons hn hb⟩
theorem z08f (os:List Out):∀ s:Int,os.foldl (fun s o=>s - o.coin) s=s - z22 os:=by
 induction os with
 | nil=>intro s;simp [z22]
 | cons o os ih=>intro s;rw [List.foldl_cons,ih];simp only [z22,List.map_cons,List.sum_cons];omega
theorem zff (t:Tx) (s:List Coin):z15 t s=zd s - z22 t.outs:=by
 unfold z15
 rw [z08f,zj6]
 omega
structure Done (l:List Coin) (t:Tx) (nm h:Int) (r s m:List Coin):Prop where
 ok:CoinsOK l
 tx:zo t=0
 nm1:1≤nm
 nm2:nm≤120
 h1:1≤h
 h2:h≤1000
 height:t.ins.length=0→t.height=h
 spent:Spent h l [] t.ins r s
 fee:t.ins.length≠0→0≤z15 t s
 brought:Brought nm h (decide ((t.ins.length:Int)=0)) r 0 t.outs m
 end_:CoinsOK m
theorem Done.run {l:List Coin} {t:Tx} {nm h:Int} {r s m:List Coin} (d:Done l t nm h r s m):zk l t nm h=(m,s,0):=by
 unfold zk
 have hE:z9s s m=(m,s,0):=by
  unfold z9s
  rw [if_neg (by rw [(z0d m).2 d.end_];decide)]
 have a:=d.nm1;have b:=d.nm2;have c:=d.h1;have e:=d.h2
 rw [if_neg (by rw [(z0d l).2 d.ok];decide),if_neg (by rw [d.tx];decide),if_neg (by omega)]
 by_cases h0:(t.ins.length:Int)=0
 ·rw [if_pos h0,if_neg (by rw [d.height (by omega)];simp),d.spent.run,d.brought.run,hE]
 ·rw [if_neg h0,d.spent.run,if_neg (by have:=d.fee (by omega);omega),d.brought.run,hE]
theorem z9d {l:List Coin} {t:Tx} {nm h:Int} (h0:(zk l t nm h).2.2=0):∃ r,Done l t nm h r (zk l t nm h).2.1 (zk l t nm h).1:=by
 have key:∃ r s m,Done l t nm h r s m:=by
  unfold zk at h0
  by_cases k1:zj l=0
  ·rw [if_neg (by rw [k1];decide)] at h0
   have ok:=(z0d l).1 k1
   by_cases k2:zo t=0
   ·rw [if_neg (by rw [k2];decide)] at h0
    by_cases k3:nm<1∨120<nm∨h<1∨1000<h
    ·rw [if_pos k3] at h0;cases h0
    ·rw [if_neg k3] at h0
     by_cases k4:(t.ins.length:Int)=0
     ·rw [if_pos k4] at h0
      by_cases k5:t.height≠h
      ·rw [if_pos k5] at h0;cases h0
      ·rw [if_neg k5] at h0
       obtain ⟨r,s,q1,q2⟩:=zk5 ok.sorted h0
       rw [q2] at h0
       obtain ⟨m,q3,q4⟩:=zk6 h0
       rw [q4] at h0
       unfold z9s at h0
       by_cases k6:zj m=0
       ·exact ⟨r,s,m,ok,k2,by omega,by omega,by omega,by omega,fun _=>Decidable.not_not.1 k5,q1,fun h=>absurd (by omega) h,q3,(z0d m).1 k6⟩
       ·rw [if_pos k6] at h0;exact absurd h0 k6
     ·rw [if_neg k4] at h0
      obtain ⟨r,s,q1,q2⟩:=zk5 ok.sorted h0
      rw [q2] at h0
      by_cases k5:z15 t s<0
      ·simp only [if_pos k5] at h0;cases h0
      ·simp only [if_neg k5] at h0
       obtain ⟨m,q3,q4⟩:=zk6 h0
       rw [q4] at h0
       unfold z9s at h0
       by_cases k6:zj m=0
       ·exact ⟨r,s,m,ok,k2,by omega,by omega,by omega,by omega,fun h=>absurd (by omega) k4,q1,fun _=>by omega,q3,(z0d m).1 k6⟩
       ·rw [if_pos k6] at h0;exact absurd h0 k6
   ·rw [if_pos k2] at h0;exact absurd h0 k2
  ·rw [if_pos k1] at h0;exact absurd h0 k1
 obtain ⟨r,s,m,d⟩:=key
 refine ⟨r,?_⟩
 rw [d.run]
 exact d
end
section
open Go.RowKit
theorem zy6 {ρ:Type} {nm h:Int} {rw:Bool} {bad:Int→ρ} {K:List Coin→ρ}:∀ {os:List Out} {r m:List Coin} {i:Nat},z09 r→Brought nm h rw r i os m→zfa nm bad K m i os=K r
 | [],r,m,i,hr,hb=>by cases hb;rfl
 | o::os,r,m,i,hr,hb=>by
  have B:=hb.as hr
  have hmem:z6b nm h rw i o ∈ m:=(B.mem _).2 (.inr ⟨0,o,rfl,rfl⟩)
  have hp:z2o m ⟨nm,i⟩=true:=hasP_mem.2 ⟨_,hmem,rfl⟩
  have hat:m[zf m ⟨nm,i⟩]? = some (z6b nm h rw i o):=zy5 B.sorted hmem
  have hfree:∀ c ∈ r,∀ j,j<os.length→c.p≠⟨nm,((i+1+j:Nat):Int)⟩:=fun c hc j hj=>by
   have:=B.free c hc (j+1) (by simpa using hj)
   rwa [show i+(j+1)=i+1+j by omega] at this
  obtain ⟨m2,hb2⟩:=Brought.of (nm:=nm) (h:=h) (rw:=rw) (os:=os) (r:=r) (i:=i+1) hr hfree
  have B2:=hb2.as hr
  have he:m.take (zf m ⟨nm,i⟩)++m.drop (zf m ⟨nm,i⟩+1)=m2:=by
   refine zfe (z7f B.sorted _) B2.sorted fun c=>?_
   rw [znm B.sorted hat,B.mem,B2.mem]
   constructor
   ·rintro ⟨h1|⟨j,q,h1,rfl⟩,h2⟩
    ·exact .inl h1
    ·cases j with
     | zero=>exact absurd rfl h2
     | succ j=>exact .inr ⟨j,q,by simpa using h1,by rw [show i+1+j=i+(j+1) by omega]⟩
   ·rintro (h1|⟨j,q,h1,rfl⟩)
    ·exact ⟨.inl h1,by have:=B.free c h1 0 (by simp);exact this⟩
    ·refine ⟨.inr ⟨j+1,q,by simpa using h1,by rw [show i+1+j=i+(j+1) by omega]⟩,?_⟩
     simp only [z6b,ne_eq,Point.mk.injEq,not_and]
     intro _
     omega
  rw [zfa,if_pos hp,hat]
  simp only [Option.getD_some]
  rw [if_pos (by simp [z6b]),he]
  exact zy6 hr hb2
theorem zy7 {ρ:Type} {ins:List In} {bad:Int→ρ} {K:List Coin→ρ}:∀ {cs r:List Coin} {k:Nat},z09 r→(∀ c ∈ cs,∀ d ∈ r,d.p≠c.p)→cs.Pairwise (fun c d=>c.p≠d.p)→(∀ (j:Nat) (c:Coin),cs[j]? = some c→∃ x,ins[k+j]? = some x∧x.p=c.p)→∃ q,zd1 ins bad K r k cs=K q∧z09 q∧∀ c,c ∈ q↔c ∈ r∨c ∈ cs
 | [],r,k,hr,_,_,_=>⟨r,rfl,hr,fun c=>by simp⟩
 | c::cs,r,k,hr,hd,hp,hi=>by
  have hn:z2o r c.p=false:=hasP_not.2 fun d hd'=>hd c (List.mem_cons_self ..) d hd'
  obtain ⟨x,hx,hxp⟩:=hi 0 c rfl
  have hp':=List.pairwise_cons.1 hp
  obtain ⟨q,h1,h2,h3⟩:=zy7 (bad:=bad) (K:=K) (cs:=cs) (r:=r.take (zf r c.p)++[c]++r.drop (zf r c.p)) (k:=k+1) (z7g hr hn) (fun e he d hd'=>by
   rcases put_mem.1 hd' with rfl|hd'
   ·exact hp'.1 e he
   ·exact hd e (List.mem_cons_of_mem _ he) d hd') hp'.2 fun j e he=>by
    obtain ⟨y,hy,hyp⟩:=hi (j+1) e (by simpa using he)
    exact ⟨y,by rwa [show k+(j+1)=k+1+j by omega] at hy,hyp⟩
  refine ⟨q,?_,h2,fun e=>?_⟩
  ·rw [zd1,if_neg (by simp [hn]),show k=k+0 from rfl,hx]
   simp only [Option.getD_some]
   rw [if_neg (by simp [hxp])]
   exact h1
  ·rw [h3,put_mem,List.mem_cons]
   constructor
   ·rintro ((rfl|h)|h)
    ·exact .inr (.inl rfl)
    ·exact .inl h
    ·exact .inr (.inr h)
   ·rintro (h|rfl|h)
    ·exact .inl (.inr h)
    ·exact .inl (.inl rfl)
    ·exact .inr h
theorem SpentAs.apart' {h:Int} {l:List Coin} {xs:List In} {r cs:List Coin} (S:SpentAs h l xs r cs):cs.Pairwise fun c d=>c.p≠d.p:=by
 rw [List.pairwise_iff_getElem]
 intro i j hi hj hij
 have hl:=S.len
 obtain ⟨c,h1,_,h2⟩:=S.fine i xs[i] (List.getElem?_eq_getElem (by omega))
 obtain ⟨d,h3,_,h4⟩:=S.fine j xs[j] (List.getElem?_eq_getElem (by omega))
 rw [List.getElem?_eq_getElem hi] at h1
 rw [List.getElem?_eq_getElem hj] at h3
 injection h1 with h1
 injection h3 with h3
 rw [h1,h3,h2.p,h4.p]
 exact List.pairwise_iff_getElem.1 S.apart i j (by omega) (by omega) hij
theorem SpentAs.from {h:Int} {l:List Coin} {xs:List In} {r cs:List Coin} (S:SpentAs h l xs r cs) {c:Coin} (hc:c ∈ cs):c ∈ l∧∃ x ∈ xs,x.p=c.p:=by
 obtain ⟨i,hi,rfl⟩:=List.getElem_of_mem hc
 have hl:=S.len
 obtain ⟨c,h1,h2,h3⟩:=S.fine i xs[i] (List.getElem?_eq_getElem (by omega))
 rw [List.getElem?_eq_getElem hi] at h1
 injection h1 with h1
 rw [h1]
 exact ⟨h2,_,List.getElem_mem _,h3.p.symm⟩
theorem SpentAs.all {h:Int} {l:List Coin} {xs:List In} {r cs:List Coin} (S:SpentAs h l xs r cs) (hs:z09 l) {c:Coin}:c ∈ l↔c ∈ r∨c ∈ cs:=by
 constructor
 ·intro hc
  by_cases hx:∃ x ∈ xs,x.p=c.p
  ·obtain ⟨x,hx,he⟩:=hx
   obtain ⟨i,hi⟩:=List.getElem?_of_mem hx
   obtain ⟨d,h1,h2,h3⟩:=S.fine i x hi
   have:d=c:=zjd hs h2 hc (h3.p.trans he)
   subst this
   exact .inr (List.mem_of_getElem? h1)
  ·exact .inl ((S.mem c).2 ⟨hc,fun x hx' he=>hx ⟨x,hx',he⟩⟩)
 ·rintro (hc|hc)
  ·exact ((S.mem c).1 hc).1
  ·exact (S.from hc).1
theorem Done.spentAs {l:List Coin} {t:Tx} {nm h:Int} {r s m:List Coin} (d:Done l t nm h r s m):SpentAs h l t.ins r s:=by
 obtain ⟨cs,e,S⟩:=d.spent.as d.ok.sorted
 rw [List.nil_append] at e
 exact e ▸ S
theorem Done.broughtAs {l:List Coin} {t:Tx} {nm h:Int} {r s m:List Coin} (d:Done l t nm h r s m):BroughtAs nm h (decide ((t.ins.length:Int)=0)) r 0 t.outs m:=d.brought.as d.spentAs.sorted
theorem Done.back {l:List Coin} {t:Tx} {nm h:Int} {r s m:List Coin} (d:Done l t nm h r s m):z21 m t nm s=(l,0):=by
 have S:=d.spentAs
 unfold z21
 rw [if_neg (by rw [(z0d m).2 d.end_];decide),if_neg (by rw [d.tx];decide),if_neg (by have:=S.len;omega),zy6 S.sorted d.brought]
 obtain ⟨q,h1,h2,h3⟩:=zy7 (ins:=t.ins) (bad:=zdh) (K:=znl) (cs:=s) (r:=r) (k:=0) S.sorted (fun c hc e he=>by
  obtain ⟨_,x,hx,hxp⟩:=S.from hc
  rw [← hxp]
  exact fun e'=>((S.mem e).1 he).2 x hx e'.symm) S.apart' fun j c hc=>by
   have hj:=(List.getElem?_eq_some_iff.1 hc).1
   have hl:=S.len
   obtain ⟨c',k1,_,k3⟩:=S.fine j t.ins[j] (List.getElem?_eq_getElem (by omega))
   rw [hc] at k1
   injection k1 with k1
   exact ⟨t.ins[j],by rw [Nat.zero_add];exact List.getElem?_eq_getElem (by omega),by rw [k1,k3.p]⟩
 rw [h1]
 have:q=l:=zfe h2 d.ok.sorted fun c=>by rw [h3,S.all d.ok.sorted]
 subst this
 unfold znl
 rw [if_neg (by rw [(z0d q).2 d.ok];decide)]
theorem Done.short {l:List Coin} {t:Tx} {nm h:Int} {r s m:List Coin} (d:Done l t nm h r s m):z1a s:=by
 have S:=d.spentAs
 exact ⟨by have:=S.len;have:=(z4z d.tx).ins;omega,fun c hc=>d.ok.short.2 c (S.from hc).1⟩
theorem zly {l:List Coin} (h:CoinsOK l):z7d l=(zd l,0):=by
 unfold z7d
 rw [if_neg (by rw [(z0d l).2 h];decide),zj6]
 simp
theorem zy8 {t:Tx} (ok:TxOK t):0<z22 t.outs:=by
 have key:∀ os:List Out,(∀ o ∈ os,1≤o.coin)→(os.length:Int)≤z22 os:=by
  intro os
  induction os with
  | nil=>intro _;simp [z22]
  | cons o os ih =>
   intro h
   have h1:=h o (List.mem_cons_self ..)
   have h2:=ih fun x hx=>h x (List.mem_cons_of_mem _ hx)
   simp only [z22,List.map_cons,List.sum_cons,List.length_cons] at h2 ⊢
   omega
 have:=key t.outs fun o ho=>(ok.good o ho).1
 have:=ok.some
 omega
theorem z08g {m:List Coin} {p:Point} (ok:CoinsOK m) (h:z2o m p=false):zwk m p=(z82,7):=by
 unfold zwk
 rw [if_neg (by rw [(z0d m).2 ok];decide),if_neg (by simp [h])]
theorem Done.gone {l:List Coin} {t:Tx} {nm h:Int} {r s m:List Coin} (d:Done l t nm h r s m) {x:In} (hx:x ∈ t.ins) (hn:x.p.tx≠nm):zwk m x.p=(z82,7):=by
 have S:=d.spentAs
 have B:=d.broughtAs
 refine z08g d.end_ (hasP_not.2 fun c hc e=>?_)
 rcases (B.mem c).1 hc with hc|⟨j,o,_,rfl⟩
 ·exact ((S.mem c).1 hc).2 x hx e.symm
 ·exact hn (by rw [← e];rfl)
end
section
open Go.RowKit
open Go.Lib (itoa)
set_option maxRecDepth 100000
set_option maxHeartbeats 4000000
def z8m (b:Block) (ns:List Int) (l:List Coin) (us:List Undo) (most:Int):List Coin × List Undo × Int :=
 if most < -z15 (b.txs.getD 0 zTx) [] then ([],[],9) else
 if (zk l (b.txs.getD 0 zTx) (ns.getD 0 0) b.height).2.2≠0 then ([],[],(zk l (b.txs.getD 0 zTx) (ns.getD 0 0) b.height).2.2) else
 ((zk l (b.txs.getD 0 zTx) (ns.getD 0 0) b.height).1,us.set 0 ⟨(zk l (b.txs.getD 0 zTx) (ns.getD 0 0) b.height).2.1⟩,0)
def z4a (b:Block) (ns:List Int) (l:List Coin) (us:List Undo) (most:Int) (i:Nat):List Tx→List Coin × List Undo × Int
 | []=>z8m b ns l us most
 | t::r=>if (zk l t (ns.getD i 0) b.height).2.2≠0 then ([],[],(zk l t (ns.getD i 0) b.height).2.2) else
  z4a b ns (zk l t (ns.getD i 0) b.height).1 (us.set i ⟨(zk l t (ns.getD i 0) b.height).2.1⟩) (most+z15 t (zk l t (ns.getD i 0) b.height).2.1) (i+1) r
def z14 (k:Book) (l:List Coin) (b:Block):List Coin × List Undo × Int :=
 if zj l≠0 then ([],[],zj l) else
 if (z03 k b).2.2.2≠0 then ([],[],(z03 k b).2.2.2) else
 z4a b (z03 k b).2.2.1 l (List.replicate b.txs.length ⟨[]⟩) (z07 b.height) 1 (b.txs.drop 1)
theorem zfg {k:Book} {b:Block} (h:(z03 k b).2.2.2=0):zg b=0∧(z03 k b).2.2.1.length=b.txs.length:=by
 unfold z03 at h ⊢
 by_cases hp:(z0q b).2=0
 ·rw [if_neg (fun k=>k hp)] at h ⊢
  refine ⟨zau hp,?_⟩
  unfold zcd at h ⊢
  by_cases ha:(z11 k (z7e b++[(z0q b).1])).2.2=0
  ·rw [if_neg (fun k=>k ha)]
   have:=zja ha
   have h1:(z7e b).length=b.txs.length:=by simp [z7e]
   show (List.take _ _).length=_
   rw [List.length_take,this,List.length_append,h1,List.length_singleton]
   omega
  ·rw [if_pos ha] at h;exact absurd h ha
 ·rw [if_pos hp] at h;exact absurd h hp
theorem z0av {t:Tx} (h:zo t=0):ze4 (t,[]):=by
 have ok:=z4z h
 exact ⟨by simp,by simp,by have:=ok.outs;simp only;omega,fun o ho=>by have:=ok.good o ho;omega⟩
theorem z0da {t:Tx} (ok:TxOK t):z22 t.outs≤1000000000 * t.outs.length:=by
 have key:∀ os:List Out,(∀ o ∈ os,o.coin≤1000000000)→z22 os≤1000000000 * os.length:=by
  intro os
  induction os with
  | nil=>intro _;simp [z22]
  | cons o os ih =>
   intro h
   have h1:=h o (List.mem_cons_self ..)
   have h2:=ih fun x hx=>h x (List.mem_cons_of_mem _ hx)
   simp only [z22,List.map_cons,List.sum_cons,List.length_cons] at h2 ⊢
   omega
 exact key t.outs fun o ho=>(ok.good o ho).2.1
theorem z0db {t:Tx} (h:zo t=0) : -10000000000≤z15 t []∧z15 t []<0:=by
 have ok:=z4z h
 have h1:=zy8 ok
 have h2:=z0da ok
 have h3:=ok.outs
 rw [zff]
 simp only [zd]
 omega
theorem zhg {l:List Coin} {t:Tx} {nm h:Int} (h0:(zk l t nm h).2.2=0):ze4 (t,(zk l t nm h).2.1) ∧ -10000000000≤z15 t (zk l t nm h).2.1∧z15 t (zk l t nm h).2.1≤10000000000:=by
 obtain ⟨r,d⟩:=z9d h0
 generalize (zk l t nm h).2.1=s at *
 generalize (zk l t nm h).1=m at *
 have ok:=z4z d.tx
 have S:=d.spentAs
 have B:=d.broughtAs
 have h1:=S.total
 have h2:=B.total
 have hl:=d.ok.total
 have hm:=d.end_.total
 have hr:0≤zd r:=z5d fun c hc=>d.ok.good c ((S.mem c).1 hc).1
 have hs:0≤zd s:=z5d fun c hc=>d.ok.good c (S.from hc).1
 have ho:=zy8 ok
 have hsl:=S.len
 have:=ok.ins
 have:=ok.outs
 refine ⟨⟨by simp only;omega,fun c hc=>by have:=z4d (d.ok.good c (S.from hc).1);omega,by simp only;omega,fun o ho=>by have:=ok.good o ho;omega⟩,?_⟩
 rw [zff]
 omega
section
variable {sp:Nat→za} {N:Nat} {E E':Env} {ks:List (List Dt→Option (List Dt))} {res:Option (List Dt)} {k:T}
theorem z0aw {a:Atom} {n:Nat} (ha:a.val E=some (I n)) (h:n≤1000):denX sp E (.mkz 1 [.nil 6] a)=some (.l 1 ((List.replicate n (⟨[]⟩:Undo)).map z7x)):=by
 rw [z0eo (sz:=1) (z:=[.nil 6]) ha (by omega) (by omega) rfl,Int.toNat_natCast,List.map_replicate]
 rfl
theorem znn {α:Type} {f:α→List Dt} {l:List α} {x y:α} {sz j n:Nat} {m:Int} {a b:Atom} {vs:List Atom} {ds:List Dt} (hm:m.toNat=n) (ha:a.val E=some (.l sz (l.map f))) (hb:b.val E=some (I m)) (hv:vals E vs=some ds) (h0:0≤m) (hs:j+ds.length≤sz) (hx:l[n]? = some x) (hy:z6e (f x) j ds=f y):denX sp E (.set a b j vs)=some (.l sz ((l.set n y).map f)):=by
 subst hm
 exact z075 ha hb hv h0 hs hx hy
theorem dqs {x:X} (hk:den sp N k E ks=res) (h:denX sp E x=some (.b true)):den sp N (.lets [] [x] k) E ks=res:=zdt (by with_unfolding_all simp only [z1m,h]) hk
theorem z0ax {σ ρ:Type} [Enc ρ] {ats:List Atom} {body:T} (enc:σ→Int→List Dt) (go:σ→Nat→ρ) (Inv:σ→Nat→Prop) (s0:σ) (n:Nat) (h:vals E ats=some (enc s0 n)) (h0:Inv s0 n) (hN:n<N)
  (step:∀ (s:σ) (i:Nat),i<n→Inv s (i+1)→∀ again:List Dt→Option (List Dt),(∀ s',Inv s' i→again (enc s' i)=ret (go s' i))→den sp N body (E++enc s ((i:Int)+1)) (ks++[again])=ret (go s (i+1)))
  (last:∀ (s:σ),Inv s 0→∀ again:List Dt→Option (List Dt),den sp N body (E++enc s 0) (ks++[again])=ret (go s 0)):den sp N (.loop ats body) E ks=ret (go s0 n):=by
 refine zc0 h ?_
 have key:∀ (i:Nat) (s:σ),i≤n→Inv s i→∀ M,i<M→z4b (fun again ds=>den sp N body (E++ds) (ks++[again])) M (enc s i)=ret (go s i):=by
  intro i
  induction i with
  | zero =>
   intro s _ hi M hM
   obtain ⟨M,rfl⟩:∃ j,M=j+1:=⟨M - 1,by omega⟩
   rw [z4b]
   exact last s hi _
  | succ i ih =>
   intro s hn hi M hM
   obtain ⟨M,rfl⟩:∃ j,M=j+1:=⟨M - 1,by omega⟩
   rw [z4b]
   exact step s i (by omega) hi _ fun s' hi'=>ih s' (by omega) hi' M (by omega)
 exact key n s0 (Nat.le_refl _) h0 N hN
end
theorem z4r {α:Type} {l:List α} {i:Nat} (d:α) (h:i<l.length):l[i]? = some (l.getD i d):=by
 rw [List.getD_eq_getElem?_getD,List.getElem?_eq_getElem h]
 rfl
def zd2 (b:Block) (ns:List Int) (us:List Undo) (l:List Coin):Nat→List Coin × Int
 | 0=>(l,0)
 | i+1=>if (z21 l (b.txs.getD (i+1) zTx) (ns.getD (i+1) 0) (us.getD (i+1) ⟨[]⟩).spent).2≠0 then ([],(z21 l (b.txs.getD (i+1) zTx) (ns.getD (i+1) 0) (us.getD (i+1) ⟨[]⟩).spent).2) else
  zd2 b ns us (z21 l (b.txs.getD (i+1) zTx) (ns.getD (i+1) 0) (us.getD (i+1) ⟨[]⟩).spent).1 i
def z42 (k:Book) (l:List Coin) (b:Block) (us:List Undo):List Coin × Int :=
 if zj l≠0 then ([],zj l) else
 if (z03 k b).2.2.2≠0 then ([],(z03 k b).2.2.2) else
 if (us.length:Int)≠b.txs.length then ([],4) else
 if (z21 l (b.txs.getD 0 zTx) ((z03 k b).2.2.1.getD 0 0) (us.getD 0 ⟨[]⟩).spent).2≠0 then ([],(z21 l (b.txs.getD 0 zTx) ((z03 k b).2.2.1.getD 0 0) (us.getD 0 ⟨[]⟩).spent).2) else
 zd2 b (z03 k b).2.2.1 us (z21 l (b.txs.getD 0 zTx) ((z03 k b).2.2.1.getD 0 0) (us.getD 0 ⟨[]⟩).spent).1 (b.txs.length - 1)
noncomputable def z19:za:=spD (fun _:Book × List Coin × Block=>True) fun x=>z14 x.1 x.2.1 x.2.2
theorem z5v (k:Book) (l:List Coin) (b:Block):z19 [.l 1 (k.texts.map z0f),.l 6 (l.map z9),I b.parent,I b.height,I b.work,I b.nonce,.l 3 (b.txs.map eTx)]=some [.l 6 ((z14 k l b).1.map z9),.l 1 ((z14 k l b).2.1.map z7x),I (z14 k l b).2.2]:=zl (f:=fun x:Book × List Coin × Block=>z14 x.1 x.2.1 x.2.2) (k,l,b) trivial
def z2n (us:List Undo):Prop:=∀ u ∈ us,z1a u.spent
noncomputable def z9e:za:=spD (fun x:Book × List Coin × Block × List Undo=>z2n x.2.2.2) fun x=>z42 x.1 x.2.1 x.2.2.1 x.2.2.2
theorem z83 (k:Book) (l:List Coin) (b:Block) (us:List Undo) (h:z2n us):z9e [.l 1 (k.texts.map z0f),.l 6 (l.map z9),I b.parent,I b.height,I b.work,I b.nonce,.l 3 (b.txs.map eTx),.l 1 (us.map z7x)]=some [.l 6 ((z42 k l b us).1.map z9),I (z42 k l b us).2]:=zl (p:=fun x:Book × List Coin × Block × List Undo=>z2n x.2.2.2) (f:=fun x:Book × List Coin × Block × List Undo=>z42 x.1 x.2.1 x.2.2.1 x.2.2.2) (k,l,b,us) h
theorem zpu:z1a []:=⟨by simp,by simp⟩
theorem z08h {E:Env} {as0:List Atom} {l:List Coin} {n m:Int} (h:vals E as0=some [.l 6 (l.map z9),I 0,.l 6 [],I 0,I n]) (e:n=m):vals E as0=some [.l 6 (l.map z9),I 0,.l 6 [],I 0,I m]:=e ▸ h
theorem zy9 (n:Int):0≤z07 n∧z07 n≤1000:=by
 have h:=zhb n
 exact h
theorem zya {us:List Undo} (h:z2n us) (i:Nat):z1a (us.getD i ⟨[]⟩).spent:=by
 rw [List.getD_eq_getElem?_getD]
 cases hi:us[i]? with
 | none=>exact zpu
 | some u=>exact h u (List.mem_of_getElem? hi)
attribute [local irreducible] den denX z1b z1m
attribute [local irreducible] z0y spD zk z21 z15 z03 zj z07
def zno:T :=
 .lets [.call 13 [.v 35,.v 36,.v 37,.v 38] 0] [] (.lets [.bin .add (.v 22) (.v 39)] [] (.lets [.bin .add (.v 23) (.c (.i .i64 1))] [] (.again 0 [.v 30,.v 19,.v 33,.v 32,.v 40,
 .v 41])))
def znp:T :=
 .lets [.idx (.v 6) (.v 23) 0,.idx (.v 6) (.v 23) 1,.idx (.v 6) (.v 23) 2] [] (.lets [] [.inr 1 (.v 33) (.v 23)] (.lets [.idx (.v 33) (.v 23) 0] [] zno))
def znq:T :=
 .lets [.set (.v 20) (.v 23) 0 [.v 31]] [] (.lets [.bin .neq (.v 32) (.c (.i .i64 0))] [] (.ite (.v 34) (.ret [.c (.nil 6),.c (.nil 1),.v 32]) (.lets [] [.inr 3 (.v 6) (.v 23)]
 znp)))
def znr:T :=
 .lets [.call 18 [.v 18,.v 26,.v 27,.v 28,.v 29,.v 3] 0,.call 18 [.v 18,.v 26,.v 27,.v 28,.v 29,.v 3] 1,.call 18 [.v 18,.v 26,.v 27,.v 28,.v 29,.v 3] 2] [] (.lets []
 [.inr 1 (.v 20) (.v 23)] znq)
def zns:T :=
 .lets [.idx (.v 6) (.v 23) 0,.idx (.v 6) (.v 23) 1,.idx (.v 6) (.v 23) 2] [] (.lets [] [.inr 1 (.v 11) (.v 23)] (.lets [.idx (.v 11) (.v 23) 0] [] znr))
def znt:T :=
 .lets [.set (.v 20) (.c (.i .i64 0)) 0 [.v 37]] [] (.lets [.bin .neq (.v 38) (.c (.i .i64 0))] [] (.ite (.v 40) (.ret [.c (.nil 6),.c (.nil 1),.v 38]) (.ret [.v 36,.v 39,.c (.i
 .i64 0)])))
def znu:T :=
 .lets [.call 18 [.v 18,.v 32,.v 33,.v 34,.v 35,.v 3] 0,.call 18 [.v 18,.v 32,.v 33,.v 34,.v 35,.v 3] 1,.call 18 [.v 18,.v 32,.v 33,.v 34,.v 35,.v 3] 2] [] (.lets []
 [.inr 1 (.v 20) (.c (.i .i64 0))] znt)
def znv:T :=
 .lets [.idx (.v 6) (.c (.i .i64 0)) 0,.idx (.v 6) (.c (.i .i64 0)) 1,.idx (.v 6) (.c (.i .i64 0)) 2] [] (.lets [] [.inr 1 (.v 11) (.c (.i .i64 0))] (.lets [.idx (.v 11) (.c (.i
 .i64 0)) 0] [] znu))
def znw:T :=
 .lets [.neg (.v 29)] [] (.lets [.bin .gtr (.v 30) (.v 22)] [] (.ite (.v 31) (.ret [.c (.nil 6),.c (.nil 1),.c (.i .i64 9)]) (.lets [] [.inr 3 (.v 6) (.c (.i .i64 0))]
 znv)))
def znx:T :=
 .lets [.idx (.v 6) (.c (.i .i64 0)) 0,.idx (.v 6) (.c (.i .i64 0)) 1,.idx (.v 6) (.c (.i .i64 0)) 2] [] (.lets [.call 13 [.v 26,.v 27,.v 28,.c (.nil 6)] 0] [] znw)
def zlz:T :=
 .lets [.len (.v 6)] [] (.lets [.bin .lss (.v 23) (.v 24)] [] (.ite (.v 25) (.lets [] [.inr 3 (.v 6) (.v 23)] zns) (.lets [] [.inr 3 (.v 6) (.c (.i .i64 0))]
 znx)))
def zm0:T :=
 .lets [.call 73 [.v 3] 0,.call 73 [.v 3] 1] [] (.lets [.len (.v 6)] [] (.lets [.mkz 1 [.nil 6] (.v 16)] [] (.loop [.v 1,.c (.nil 6),.v 17,.v 12,.v 14,.c (.i .i64 1)]
 zlz)))
def zm1:T :=
 .lets [.call 72 [.v 0,.v 2,.v 3,.v 4,.v 5,.v 6] 0,.call 72 [.v 0,.v 2,.v 3,.v 4,.v 5,.v 6] 1,.call 72 [.v 0,.v 2,.v 3,.v 4,.v 5,.v 6] 2,.call 72 [.v 0,.v 2,.v 3,
 .v 4,.v 5,.v 6] 3] [] (.lets [.bin .neq (.v 12) (.c (.i .i64 0))] [] (.ite (.v 13) (.ret [.c (.nil 6),.c (.nil 1),.v 12]) zm0))
def zce:T :=
 .lets [.call 8 [.v 1] 0] [] (.lets [.bin .neq (.v 7) (.c (.i .i64 0))] [] (.ite (.v 8) (.ret [.c (.nil 6),.c (.nil 1),.v 7]) zm1))
def z014:T :=
 .lets [.bin .neq (.v 40) (.c (.i .i64 0))] [] (.ite (.v 41) (.ret [.c (.nil 6),.v 40]) (.lets [.bin .sub (.v 32) (.c (.i .i64 1))] [] (.again 0 [.v 39,.v 40,.v 30,.v 31,.v
 42])))
def z015:T :=
 .lets [.idx (.v 7) (.v 32) 0] [] (.lets [.call 27 [.v 28,.v 34,.v 35,.v 36,.v 37,.v 38] 0,.call 27 [.v 28,.v 34,.v 35,.v 36,.v 37,.v 38] 1] [] z014)
def z016:T :=
 .lets [.idx (.v 6) (.v 32) 0,.idx (.v 6) (.v 32) 1,.idx (.v 6) (.v 32) 2] [] (.lets [] [.inr 1 (.v 12) (.v 32)] (.lets [.idx (.v 12) (.v 32) 0] [] (.lets [] [.inr 1 (.v 7) (.v
 32)] z015)))
def z017:T :=
 .loop [.v 23,.v 24,.c (.nil 6),.c (.i .i64 0),.v 27] (.lets [.bin .gtr (.v 32) (.c (.i .i64 0))] [] (.ite (.v 33) (.lets [] [.inr 3 (.v 6) (.v 32)] z016) (.ret [.v 28,.c
 (.i .i64 0)])))
def z018:T :=
 .lets [.bin .neq (.v 24) (.c (.i .i64 0))] [] (.ite (.v 25) (.ret [.c (.nil 6),.v 24]) (.lets [.len (.v 6)] [] (.lets [.bin .sub (.v 26) (.c (.i .i64 1))] [] z017)))
def z019:T :=
 .lets [.idx (.v 7) (.c (.i .i64 0)) 0] [] (.lets [.call 27 [.v 1,.v 18,.v 19,.v 20,.v 21,.v 22] 0,.call 27 [.v 1,.v 18,.v 19,.v 20,.v 21,.v 22] 1] [] z018)
def z01a:T :=
 .lets [.idx (.v 6) (.c (.i .i64 0)) 0,.idx (.v 6) (.c (.i .i64 0)) 1,.idx (.v 6) (.c (.i .i64 0)) 2] [] (.lets [] [.inr 1 (.v 12) (.c (.i .i64 0))] (.lets [.idx (.v 12) (.c (.i
 .i64 0)) 0] [] (.lets [] [.inr 1 (.v 7) (.c (.i .i64 0))] z019)))
def z01b:T :=
 .lets [.len (.v 6)] [] (.lets [.bin .neq (.v 15) (.v 16)] [] (.ite (.v 17) (.ret [.c (.nil 6),.c (.i .i64 4)]) (.lets [] [.inr 3 (.v 6) (.c (.i .i64 0))] z01a)))
def z01c:T :=
 .lets [.call 72 [.v 0,.v 2,.v 3,.v 4,.v 5,.v 6] 0,.call 72 [.v 0,.v 2,.v 3,.v 4,.v 5,.v 6] 1,.call 72 [.v 0,.v 2,.v 3,.v 4,.v 5,.v 6] 2,.call 72 [.v 0,.v 2,.v 3,
 .v 4,.v 5,.v 6] 3] [] (.lets [.bin .neq (.v 13) (.c (.i .i64 0))] [] (.ite (.v 14) (.ret [.c (.nil 6),.v 13]) (.lets [.len (.v 7)] [] z01b)))
def zhh:T :=
 .lets [.call 8 [.v 1] 0] [] (.lets [.bin .neq (.v 8) (.c (.i .i64 0))] [] (.ite (.v 9) (.ret [.c (.nil 6),.v 8]) z01c))
attribute [local irreducible] z1k z3d z51 z1i z58
theorem z9f:Meets Tryz.prog z19 16 ⟨[.agg 1,.one,.agg 5],[(false,[.pure]),(false,[.pure]),(false,[.scal])],false⟩:=by
 refine zi (sp:=(z0m [(8,z1i),(13,z58),(18,z51),(72,z1k),(73,z3d)])) (sigs:=z0t) (cut:=[]) (hints:=[⟨10,[.t 1,.r 6 86 6,.r 7 101 1,.t 8,.t 13,.t 15,.z 41]⟩]) (fn:=Tryz.f16) (t:=zce) (by kernel_rfl) (by kernel_rfl) (by kernel_rfl) ?_ ?_
 ·exact (z0c (L:=[(8,z1i),(13,z58),(18,z51),(72,z1k),(73,z3d)]) ⟨z7 rfl z8j,z7 rfl zne,z7 rfl zpt,z7 rfl zbc,z7 rfl zhc,trivial⟩)
 ·rintro ds rs hok h
  obtain ⟨⟨k,l,b⟩,-,rfl,rfl⟩:=zq h
  clear h
  refine ⟨⟨100,?_⟩,z2v ⟨rfl,trivial⟩⟩
  show den _ _ zce [.l 1 (k.texts.map z0f),.l 6 (l.map z9),I b.parent,I b.height,I b.work,I b.nonce,.l 3 (b.txs.map eTx)] []=ret (z14 k l b)
  have a1:=z2l l
  have a2:=z5h k b
  have a3:=zca b.height
  have hnm:=zfg (k:=k) (b:=b)
  have hrw:0≤z07 b.height∧z07 b.height≤1000:=zy9 b.height
  unfold zce z14
  generalize z03 k b=nm at *
  obtain ⟨tx,n0,ns,e⟩:=nm
  generalize z07 b.height=rw0 at *
  simp only at *
  by_cases hc:zj l=0
  rotate_left
  ·repeat' (first|refine dq1 ?_|refine dqk rfl (a1) ?_|exact z6 rfl rfl|refine tR (fun h=>?_) fun h=>?_|fail)
   all_goals (exfalso;omega)
  by_cases he:e=0
  rotate_left
  ·repeat' (first|refine dq1 ?_|refine dqk rfl (a1) ?_|refine dqK rfl (a2) ?_|exact z6 rfl rfl|refine tR (fun h=>?_) fun h=>?_|fail)
   all_goals (exfalso;omega)
  obtain ⟨hb,hnl⟩:=hnm he
  have ok:=z4h hb
  have hl4:=ok.len
  have hl1:=ok.some
  subst he
  repeat' (first|refine dq1 ?_|refine dqk rfl (a1) ?_|refine dqK rfl (a2) ?_|refine dqK rfl (a3) ?_|refine z8 (z0aw rfl (by omega)) ?_|exact z6 rfl rfl|refine tR (fun h=>?_) fun h=>?_|fail)
  have hdl:(b.txs.drop 1).length=b.txs.length - 1:=by simp
  (refine z0k (fun (a:List Coin × List Undo × Int) k=>[.l 6 (a.1.map z9),.l 6 [],.l 1 (a.2.1.map z7x),I 0,I a.2.2,I (k+1)]) (fun (a:List Coin × List Undo × Int) k (r:List Tx)=>z4a b ns a.1 a.2.1 a.2.2 (k+1) r) (fun a k=>a.2.1.length=b.txs.length ∧ -(10000000000 * ((k:Int)+1))≤a.2.2∧a.2.2≤10000000000 * ((k:Int)+1)) (l,List.replicate b.txs.length ⟨[]⟩,rw0) (b.txs.drop 1) ?_ ?_ ?_ ?_ ?_;rfl;exact ⟨by simp,by simp only;omega,by simp only;omega⟩;omega)
  ·rintro ⟨l,us,most⟩ i x r hx hd hk ⟨hu,m1,m2⟩ again hag
   simp only at hu m1 m2 hag ⊢
   have hx':b.txs[((i:Int)+1).toNat]? = some x:=by
    rw [show ((i:Int)+1).toNat=1+i by omega,← List.getElem?_drop];exact hx
   have hn':ns[((i:Int)+1).toNat]? = some (ns.getD (i+1) 0):=by
    rw [show ((i:Int)+1).toNat=i+1 by omega];exact z4r 0 (by omega)
   have hu':us[i+1]? = some (us.getD (i+1) ⟨[]⟩):=z4r _ (by omega)
   rw [z4a]
   have a4:=zaw l x (ns.getD (i+1) 0) b.height
   have hfee:=zhg (l:=l) (t:=x) (nm:=ns.getD (i+1) 0) (h:=b.height)
   generalize ns.getD (i+1) 0=nm at *
   generalize us.getD (i+1) ⟨[]⟩=u0 at *
   generalize zk l x nm b.height=q at *
   obtain ⟨l2,sp,f⟩:=q
   simp only at a4 hfee ⊢
   by_cases hf:f=0
   ·obtain ⟨hd1,hd2,hd3⟩:=hfee hf
    subst hf
    rw [if_neg (fun h=>h rfl)]
    have a5:=za5 x sp hd1
    have hs1:(us.set (i+1) (⟨sp⟩:Undo))[((i:Int)+1).toNat]? = some ⟨sp⟩:=by
     rw [show ((i:Int)+1).toNat=i+1 by omega];exact List.getElem?_set_self (by omega)
    have hsl:(us.set (i+1) (⟨sp⟩:Undo)).length=us.length:=List.length_set ..
    generalize z15 x sp=fe at *
    repeat' (first|refine dq1 ?_|refine dqc ?_|refine dqm ?_|refine dqK rfl (a4) ?_|refine dqk rfl (a5) ?_|refine z8 (znn (n:=i+1) (x:=u0) (y:=⟨sp⟩) (by omega) rfl rfl rfl (by omega) (Nat.le_refl _) hu' rfl) ?_|refine dqT ?_|refine dqF ?_|fail)
    exact zw rfl rfl (hag (l2,us.set (i+1) ⟨sp⟩,most+fe) ⟨by simpa using hu,by simp only;omega,by simp only;omega⟩)
   ·rw [if_pos hf]
    repeat' (first|refine dq1 ?_|refine dqc ?_|refine dqm ?_|refine dqK rfl (a4) ?_|refine z8 (znn (n:=i+1) (x:=u0) (y:=⟨sp⟩) (by omega) rfl rfl rfl (by omega) (Nat.le_refl _) hu' rfl) ?_|exact z6 rfl rfl|refine dqT ?_|fail)
  ·rintro ⟨l,us,most⟩ ⟨hu,m1,m2⟩ again
   simp only at hu m1 m2 ⊢
   have ht0:b.txs[(0:Int).toNat]? = some (b.txs.getD 0 zTx):=z4r _ hl1
   have hn0:ns[(0:Int).toNat]? = some (ns.getD 0 0):=z4r _ (by omega)
   have hu0:us[0]? = some (us.getD 0 ⟨[]⟩):=z4r _ (by omega)
   have e0:z4a b ns l us most ((b.txs.drop 1).length+1) []=z8m b ns l us most:=by rw [z4a]
   rw [e0]
   unfold z8m
   have hct:=ok.each (b.txs.getD 0 zTx) (List.mem_of_getElem? ht0)
   obtain ⟨f1,f2⟩:=z0db hct
   have a5:=za5 (b.txs.getD 0 zTx) [] (z0av hct)
   have a4:=zaw l (b.txs.getD 0 zTx) (ns.getD 0 0) b.height
   generalize b.txs.getD 0 zTx=t0 at *
   generalize ns.getD 0 0=nm at *
   generalize us.getD 0 ⟨[]⟩=u0 at *
   generalize z15 t0 []=fe at *
   generalize zk l t0 nm b.height=q at *
   obtain ⟨l2,sp,f⟩:=q
   simp only at a4 ⊢
   repeat' (first|refine dq1 ?_|refine dqc ?_|refine dqm ?_|refine dqK rfl (a4) ?_|refine dqk rfl (a5) ?_|refine z8 (znn (n:=0) (x:=u0) (y:=⟨sp⟩) rfl rfl rfl rfl (by omega) (Nat.le_refl _) hu0 rfl) ?_|exact z6 rfl rfl|refine tR (fun h=>?_) fun h=>?_|refine dqF ?_|fail)
attribute [local irreducible] z7u
theorem z08i:Meets Tryz.prog z9e 35 ⟨[.agg 1,.one,.agg 5,.one],[(false,[.pure]),(false,[.scal])],false⟩:=by
 refine zi (sp:=(z0m [(8,z1i),(27,z7u),(72,z1k)])) (sigs:=z0t) (cut:=[]) (hints:=[⟨13,[.t 1,.t 14,.r 8 86 6,.t 9,.t 15]⟩]) (fn:=Tryz.f35) (t:=zhh) (by kernel_rfl) (by kernel_rfl) (by kernel_rfl) ?_ ?_
 ·exact (z0c (L:=[(8,z1i),(27,z7u),(72,z1k)]) ⟨z7 rfl z8j,z7 rfl z05e,z7 rfl zbc,trivial⟩)
 ·rintro ds rs hok h
  obtain ⟨⟨k,l,b,us⟩,hus,rfl,rfl⟩:=zq h
  clear h
  simp only at hus
  refine ⟨⟨100,?_⟩,z2v ⟨rfl,trivial⟩⟩
  show den _ _ zhh [.l 1 (k.texts.map z0f),.l 6 (l.map z9),I b.parent,I b.height,I b.work,I b.nonce,.l 3 (b.txs.map eTx),.l 1 (us.map z7x)] []=ret (z42 k l b us)
  have a1:=z2l l
  have a2:=z5h k b
  have hnm:=zfg (k:=k) (b:=b)
  unfold zhh z42
  generalize z03 k b=nm at *
  obtain ⟨tx,n0,ns,e⟩:=nm
  simp only at *
  by_cases hc:zj l=0
  rotate_left
  ·repeat' (first|refine dq1 ?_|refine dqk rfl (a1) ?_|exact z6 rfl rfl|refine tR (fun h=>?_) fun h=>?_|fail)
   all_goals (exfalso;omega)
  by_cases he:e=0
  rotate_left
  ·repeat' (first|refine dq1 ?_|refine dqc ?_|refine dqk rfl (a1) ?_|refine dqK rfl (a2) ?_|exact z6 rfl rfl|refine tR (fun h=>?_) fun h=>?_|fail)
   all_goals (exfalso;omega)
  obtain ⟨hb,hnl⟩:=hnm he
  have ok:=z4h hb
  have hl4:=ok.len
  have hl1:=ok.some
  subst he
  by_cases hul:us.length=b.txs.length
  rotate_left
  ·repeat' (first|refine dq1 ?_|refine dqc ?_|refine dqk rfl (a1) ?_|refine dqK rfl (a2) ?_|exact z6 rfl rfl|refine tR (fun h=>?_) fun h=>?_|fail)
   all_goals (exfalso;omega)
  have ht0:b.txs[(0:Int).toNat]? = some (b.txs.getD 0 zTx):=z4r _ hl1
  have hn0:ns[(0:Int).toNat]? = some (ns.getD 0 0):=z4r _ (by omega)
  have hu0:us[(0:Int).toNat]? = some (us.getD 0 ⟨[]⟩):=z4r _ (by omega)
  have a3:=zeb l (b.txs.getD 0 zTx) (ns.getD 0 0) (us.getD 0 ⟨[]⟩).spent (zya hus 0)
  generalize hT:b.txs.getD 0 zTx=t0 at *
  generalize ns.getD 0 0=nm at *
  generalize us.getD 0 ⟨[]⟩=u0 at *
  generalize z21 l t0 nm u0.spent=q at *
  obtain ⟨l1,f⟩:=q
  simp only at a3 ⊢
  by_cases hf:f=0
  rotate_left
  ·repeat' (first|refine dq1 ?_|refine dqc ?_|refine dqm ?_|refine dqk rfl (a1) ?_|refine dqK rfl (a2) ?_|refine dqK rfl (a3) ?_|exact z6 rfl rfl|refine tR (fun h=>?_) fun h=>?_|fail)
   all_goals (exfalso;omega)
  subst hf
  repeat' (first|refine dq1 ?_|refine dqc ?_|refine dqm ?_|refine dqk rfl (a1) ?_|refine dqK rfl (a2) ?_|refine dqK rfl (a3) ?_|exact z6 rfl rfl|refine tR (fun h=>?_) fun h=>?_|fail)
  (refine z0ax (fun (l:List Coin) k=>[.l 6 (l.map z9),I 0,.l 6 [],I 0,I k]) (fun (l:List Coin) i=>zd2 b ns us l i) (fun _ _=>True) l1 (b.txs.length - 1) ?_ ?_ ?_ ?_ ?_;exact z08h rfl (by omega);exact trivial;omega)
  ·rintro l i hi - again hag
   have hti:b.txs[((i:Int)+1).toNat]? = some (b.txs.getD (i+1) zTx):=by
    rw [show ((i:Int)+1).toNat=i+1 by omega];exact z4r _ (by omega)
   have hni:ns[((i:Int)+1).toNat]? = some (ns.getD (i+1) 0):=by
    rw [show ((i:Int)+1).toNat=i+1 by omega];exact z4r _ (by omega)
   have hui:us[((i:Int)+1).toNat]? = some (us.getD (i+1) ⟨[]⟩):=by
    rw [show ((i:Int)+1).toNat=i+1 by omega];exact z4r _ (by omega)
   have a4:=zeb l (b.txs.getD (i+1) zTx) (ns.getD (i+1) 0) (us.getD (i+1) ⟨[]⟩).spent (zya hus (i+1))
   rw [zd2]
   generalize b.txs.getD (i+1) zTx=ti at *
   generalize ns.getD (i+1) 0=ni at *
   generalize us.getD (i+1) ⟨[]⟩=ui at *
   generalize z21 l ti ni ui.spent=q at *
   obtain ⟨l2,f⟩:=q
   simp only at a4 ⊢
   by_cases hf:f=0
   ·subst hf
    rw [if_neg (fun h=>h rfl)]
    have hag':=hag l2 trivial
    rw [show ((i:Nat):Int)=(i:Int)+1 - 1 by omega] at hag'
    repeat' (first|refine dq1 ?_|refine dqc ?_|refine dqm ?_|refine dqK rfl (a4) ?_|refine dqT ?_|refine dqF ?_|fail)
    exact zw rfl rfl hag'
   ·rw [if_pos hf]
    repeat' (first|refine dq1 ?_|refine dqc ?_|refine dqm ?_|refine dqK rfl (a4) ?_|exact z6 rfl rfl|refine dqT ?_|fail)
  ·rintro l - again
   rw [zd2]
   repeat' (first|refine dq1 ?_|exact z6 rfl rfl|refine dqF ?_|fail)
end
section
open Go.RowKit
open Go.Lib (itoa)
set_option maxRecDepth 100000
set_option maxHeartbeats 4000000
def z0v (k:Book) (t:Tree) (n:Int):List Int × Int:=if zt k≠0 then ([],zt k) else z13 t n
def z0l (k:Book) (t:Tree):List Coin→List Int→List Coin × Int
 | l,[]=>(l,0)
 | l,n::r=>if (z14 k l (zb t n)).2.2≠0 then ([],(z14 k l (zb t n)).2.2) else z0l k t (z14 k l (zb t n)).1 r
def zx (k:Book) (t:Tree) (n:Int):List Coin × Int:=if (z0v k t n).2≠0 then ([],(z0v k t n).2) else z0l k t [] (z0v k t n).1
def z0w (k:Book) (t:Tree) (b:Block):List Undo × Int:=if (zx k t b.parent).2≠0 then ([],(zx k t b.parent).2) else ((z14 k (zx k t b.parent).1 b).2.1,(z14 k (zx k t b.parent).1 b).2.2)
def z27 (t:Tree) (n tip:Int):Int × Int:=if (z13 t tip).2≠0 then (0,(z13 t tip).2) else if idx (z13 t tip).1 n<0 then (0,5) else (((z13 t tip).1.length:Int) - 1 - idx (z13 t tip).1 n,0)
def z0h:List Int→List Int→Nat
 | a::x,b::y=>if a=b then z0h x y+1 else 0
 | _,_=>0
def z2x (k:Book) (t:Tree) (K:List Coin→List Coin × Int):List Coin→List Int→List Coin × Int
 | l,[]=>K l
 | l,n::r=>if (z0w k t (zb t n)).2≠0 then ([],(z0w k t (zb t n)).2) else
  if (z42 k l (zb t n) (z0w k t (zb t n)).1).2≠0 then ([],(z42 k l (zb t n) (z0w k t (zb t n)).1).2) else
  z2x k t K (z42 k l (zb t n) (z0w k t (zb t n)).1).1 r
def zai (k:Book) (t:Tree) (l:List Coin) (x y:List Int):List Coin × Int:=z2x k t (fun l=>z0l k t l (y.drop (z0h x y))) l (x.drop (z0h x y)).reverse
def z7v (k:Book) (t:Tree) (W:List Int→List Int→List Coin × Int) (s:List Int × List Int) (i:Nat):List Int→List Coin × Int
 | []=>W s.1 s.2
 | n::r=>if (z0v k t n).2≠0 then ([],(z0v k t n).2) else z7v k t W (if i=0 then ((z0v k t n).1,s.2) else (s.1,(z0v k t n).1)) (i+1) r
def zcf (k:Book) (t:Tree) (l:List Coin) (a b:Int):List Coin × Int:=z7v k t (zai k t l) ([],[]) 0 [a,b]
theorem zpv (t:Tree) (n:Int):(z13 t n).1.length≤24:=by
 unfold z13
 split
 ·simp
 rename_i h1
 split
 ·simp
 rename_i h2
 exact zha ((z1s _ _).1 (Decidable.not_not.1 h1)) (by by_cases h:n=0;exact .inl h;exact .inr (by omega))
theorem z01d (k:Book) (t:Tree) (n:Int):(z0v k t n).1.length≤24:=by
 unfold z0v
 split
 ·simp
 ·exact zpv t n
theorem zm2 (n:Nat):z2n (List.replicate n ⟨[]⟩):=fun u hu=>by
 rw [(List.mem_replicate.1 hu).2]
 exact zpu
theorem zpw {us:List Undo} (h:z2n us) {s:List Coin} (hs:z1a s) (i:Nat):z2n (us.set i ⟨s⟩):=fun u hu=>by
 rcases List.mem_or_eq_of_mem_set hu with hu|rfl
 ·exact h u hu
 ·exact hs
theorem zje {l:List Coin} {t:Tx} {nm h:Int} (h0:(zk l t nm h).2.2=0):z1a (zk l t nm h).2.1:=(z9d h0).choose_spec.short
theorem zhi (b:Block) (ns:List Int):∀ (r:List Tx) (l:List Coin) (us:List Undo) (most:Int) (i:Nat),z2n us→z2n (z4a b ns l us most i r).2.1
 | [],l,us,most,i,h=>by
  rw [z4a]
  unfold z8m
  split
  ·exact fun u hu=>by cases hu
  split
  ·exact fun u hu=>by cases hu
  ·rename_i h1
   exact zpw h (zje (Decidable.not_not.1 h1)) 0
 | t::r,l,us,most,i,h=>by
  rw [z4a]
  split
  ·exact fun u hu=>by cases hu
  ·rename_i h1
   exact zhi b ns r _ _ _ _ (zpw h (zje (Decidable.not_not.1 h1)) i)
theorem zhj (k:Book) (l:List Coin) (b:Block):z2n (z14 k l b).2.1:=by
 unfold z14
 split
 ·exact fun u hu=>by cases hu
 split
 ·exact fun u hu=>by cases hu
 ·exact zhi _ _ _ _ _ _ _ (zm2 _)
theorem z84 (k:Book) (t:Tree) (b:Block):z2n (z0w k t b).1:=by
 unfold z0w
 split
 ·exact fun u hu=>by cases hu
 ·exact zhj _ _ _
theorem z08j:∀ {x y:List Int} {i:Nat},i<z0h x y→∃ v,x[i]? = some v∧y[i]? = some v
 | a::x,b::y,i,h=>by
  rw [z0h] at h
  by_cases e:a=b
  ·subst e
   rw [if_pos rfl] at h
   cases i with
   | zero=>exact ⟨a,rfl,rfl⟩
   | succ i =>
    obtain ⟨v,h1,h2⟩:=z08j (x:=x) (y:=y) (i:=i) (by omega)
    exact ⟨v,by simpa using h1,by simpa using h2⟩
  ·rw [if_neg e] at h;omega
 | [],_,i,h=>by rw [z0h] at h;omega;simp
 | _::_,[],i,h=>by rw [z0h] at h;omega;simp
theorem z03h:∀ (x y:List Int),z0h x y≤x.length∧z0h x y≤y.length∧(x.length=z0h x y∨y.length=z0h x y∨∃ a b,x[z0h x y]? = some a∧y[z0h x y]? = some b∧a≠b)
 | a::x,b::y=>by
  rw [z0h]
  by_cases e:a=b
  ·obtain ⟨h1,h2,h3⟩:=z03h x y
   rw [if_pos e]
   refine ⟨by simp only [List.length_cons];omega,by simp only [List.length_cons];omega,?_⟩
   rcases h3 with h3|h3|⟨p,q,h3,h4,h5⟩
   ·exact .inl (by simp only [List.length_cons];omega)
   ·exact .inr (.inl (by simp only [List.length_cons];omega))
   ·exact .inr (.inr ⟨p,q,by simpa using h3,by simpa using h4,h5⟩)
  ·rw [if_neg e]
   exact ⟨by omega,by omega,.inr (.inr ⟨a,b,rfl,rfl,e⟩)⟩
 | [],y=>by
  have e:z0h [] y=0:=by unfold z0h;rfl
  rw [e]
  exact ⟨by omega,by omega,.inl rfl⟩
 | a::x,[]=>by
  have e:z0h (a::x) []=0:=by unfold z0h;rfl
  rw [e]
  exact ⟨by omega,by omega,.inr (.inl rfl)⟩
section
variable {α:Type} {f:α→List Dt} {sp:Nat→za} {E:Env}
theorem z8n {sz n:Nat} {a lo:Atom} {l:List α} {m:Int} (ha:a.val E=some (.l sz (l.map f))) (hl:lo.val E=some (I m)) (hm:m=(n:Int)) (h:n≤l.length):denX sp E (.sub sz a (some lo) none)=some (.l sz ((l.drop n).map f)):=by
 subst hm
 have hb:bndI E 0 (some lo)=some (n:Int):=by show asI (lo.val E)=some (n:Int);rw [hl];rfl
 rw [zta (lo:=some lo) (hi:=none) (m:=(n:Int)) (n:=(l.length:Int)) ha hb rfl (by omega) (by omega) (by omega)]
 simp
end
attribute [local irreducible] den denX z1b z1m
attribute [local irreducible] z0y spD z14 z42 zb z13 zt z0h
noncomputable def z7j:za:=spD (fun _:Book × Tree × Int=>True) fun x=>z0v x.1 x.2.1 x.2.2
theorem zfv (k:Book) (t:Tree) (n:Int):z7j [.l 1 (k.texts.map z0f),.l 1 (t.names.map z04),.l 5 (t.blocks.map z0x),I n]=some [.l 1 ((z0v k t n).1.map z04),I (z0v k t n).2]:=zl (f:=fun x:Book × Tree × Int=>z0v x.1 x.2.1 x.2.2) (k,t,n) trivial
noncomputable def z7k:za:=spD (fun _:Book × Tree × List Coin × List Int=>True) fun x=>z0l x.1 x.2.1 x.2.2.1 x.2.2.2
theorem z63 (k:Book) (t:Tree) (l:List Coin) (r:List Int):z7k [.l 1 (k.texts.map z0f),.l 1 (t.names.map z04),.l 5 (t.blocks.map z0x),.l 6 (l.map z9),.l 1 (r.map z04)]=some [.l 6 ((z0l k t l r).1.map z9),I (z0l k t l r).2]:=zl (f:=fun x:Book × Tree × List Coin × List Int=>z0l x.1 x.2.1 x.2.2.1 x.2.2.2) (k,t,l,r) trivial
noncomputable def z1q:za:=spD (fun _:Book × Tree × Int=>True) fun x=>zx x.1 x.2.1 x.2.2
theorem z47 (k:Book) (t:Tree) (n:Int):z1q [.l 1 (k.texts.map z0f),.l 1 (t.names.map z04),.l 5 (t.blocks.map z0x),I n]=some [.l 6 ((zx k t n).1.map z9),I (zx k t n).2]:=zl (f:=fun x:Book × Tree × Int=>zx x.1 x.2.1 x.2.2) (k,t,n) trivial
noncomputable def zbd:za:=spD (fun _:Book × Tree × Block=>True) fun x=>z0w x.1 x.2.1 x.2.2
theorem z85 (k:Book) (t:Tree) (b:Block):zbd [.l 1 (k.texts.map z0f),.l 1 (t.names.map z04),.l 5 (t.blocks.map z0x),I b.parent,I b.height,I b.work,I b.nonce,.l 3 (b.txs.map eTx)]=some [.l 1 ((z0w k t b).1.map z7x),I (z0w k t b).2]:=zl (f:=fun x:Book × Tree × Block=>z0w x.1 x.2.1 x.2.2) (k,t,b) trivial
noncomputable def z52:za:=spD (fun _:Tree × Int × Int=>True) fun x=>z27 x.1 x.2.1 x.2.2
theorem zfw (t:Tree) (n m:Int):z52 [.l 1 (t.names.map z04),.l 5 (t.blocks.map z0x),I n,I m]=some [I (z27 t n m).1,I (z27 t n m).2]:=zl (f:=fun x:Tree × Int × Int=>z27 x.1 x.2.1 x.2.2) (t,n,m) trivial
noncomputable def z3e:za:=spD (fun x:Book × Tree × List Coin × Int × Int=>z1a x.2.2.1) fun x=>zcf x.1 x.2.1 x.2.2.1 x.2.2.2.1 x.2.2.2.2
theorem z6w (k:Book) (t:Tree) (l:List Coin) (a b:Int) (h:z1a l):z3e [.l 1 (k.texts.map z0f),.l 1 (t.names.map z04),.l 5 (t.blocks.map z0x),.l 6 (l.map z9),I a,I b]=some [.l 6 ((zcf k t l a b).1.map z9),I (zcf k t l a b).2]:=zl (p:=fun x:Book × Tree × List Coin × Int × Int=>z1a x.2.2.1) (f:=fun x:Book × Tree × List Coin × Int × Int=>zcf x.1 x.2.1 x.2.2.1 x.2.2.2.1 x.2.2.2.2) (k,t,l,a,b) h
def z01e:T :=
 .lets [.bin .neq (.v 4) (.c (.i .i64 0))] [] (.ite (.v 5) (.ret [.c (.nil 1),.v 4]) (.lets [.call 88 [.v 1,.v 2,.v 3] 0,.call 88 [.v 1,.v 2,.v 3] 1] [] (.ret [.v 6,.v 7])))
def zhk:T :=
 .lets [.call 69 [.v 0] 0] [] z01e
def z01f:T :=
 .lets [.bin .neq (.v 20) (.c (.i .i64 0))] [] (.ite (.v 21) (.ret [.c (.nil 6),.v 20]) (.lets [.bin .add (.v 9) (.c (.i .i64 1))] [] (.again 0 [.v 6,.v 7,.v 18,.v 22])))
def z01g:T :=
 .lets [.call 74 [.v 0,.v 8,.v 12,.v 13,.v 14,.v 15,.v 16] 0,.call 74 [.v 0,.v 8,.v 12,.v 13,.v 14,.v 15,.v 16] 1,.call 74 [.v 0,.v 8,.v 12,.v 13,.v 14,.v 15,.v
 16] 2] [] z01f
def z01h:T :=
 .lets [.call 89 [.v 1,.v 2,.v 11] 0,.call 89 [.v 1,.v 2,.v 11] 1,.call 89 [.v 1,.v 2,.v 11] 2,.call 89 [.v 1,.v 2,.v 11] 3,.call 89 [.v 1,.v 2,.v 11] 4,.call 89 [.v
 1,.v 2,.v 11] 5] [] z01g
def z01i:T :=
 .loop [.c (.nil 6),.c (.i .i64 0),.v 3,.c (.i .i64 0)] (.lets [.bin .lss (.v 9) (.v 5)] [] (.ite (.v 10) (.lets [] [.inr 1 (.v 4) (.v 9)] (.lets [.idx (.v 4) (.v 9) 0] []
 z01h)) (.ret [.v 8,.c (.i .i64 0)])))
def zhl:T :=
 .lets [.len (.v 4)] [] z01i
def z01j:T :=
 .ite (.v 6) (.ret [.c (.nil 6),.v 5]) (.lets [.call 96 [.v 0,.v 1,.v 2,.c (.nil 6),.v 4] 0,.call 96 [.v 0,.v 1,.v 2,.c (.nil 6),.v 4] 1] [] (.ret [.v 7,.v 8]))
def zhm:T :=
 .lets [.call 95 [.v 0,.v 1,.v 2,.v 3] 0,.call 95 [.v 0,.v 1,.v 2,.v 3] 1] [] (.lets [.bin .neq (.v 5) (.c (.i .i64 0))] [] z01j)
def z01k:T :=
 .lets [.call 74 [.v 0,.v 8,.v 3,.v 4,.v 5,.v 6,.v 7] 0,.call 74 [.v 0,.v 8,.v 3,.v 4,.v 5,.v 6,.v 7] 1,.call 74 [.v 0,.v 8,.v 3,.v 4,.v 5,.v 6,.v 7] 2] [] (.ret
 [.v 12,.v 13])
def zhn:T :=
 .lets [.call 97 [.v 0,.v 1,.v 2,.v 3] 0,.call 97 [.v 0,.v 1,.v 2,.v 3] 1] [] (.lets [.bin .neq (.v 9) (.c (.i .i64 0))] [] (.ite (.v 10) (.ret [.c (.nil 1),.v 9])
 z01k))
def z01l:T :=
 .ite (.v 8) (.ret [.c (.i .i64 0),.c (.i .i64 5)]) (.lets [.len (.v 4)] [] (.lets [.bin .sub (.v 9) (.c (.i .i64 1))] [] (.lets [.bin .sub (.v 10) (.v 7)] [] (.ret [.v 11,.c (.i
 .i64 0)]))))
def z01m:T :=
 .lets [.bin .neq (.v 5) (.c (.i .i64 0))] [] (.ite (.v 6) (.ret [.c (.i .i64 0),.v 5]) (.lets [.call 87 [.v 4,.v 2] 0] [] (.lets [.bin .lss (.v 7) (.c (.i .i64 0))] []
 z01l)))
def zho:T :=
 .lets [.call 88 [.v 0,.v 1,.v 3] 0,.call 88 [.v 0,.v 1,.v 3] 1] [] z01m
def z05f:T :=
 .lets [] [.sel [.c (.b true),.c (.b true)] (.v 8)] (.lets [.sel [.v 13,.v 9] (.v 8),.sel [.v 10,.v 13] (.v 8)] [] (.lets [.bin .add (.v 8) (.c (.i .i64 1))] [] (.again 0 [.v 6,
 .v 7,.v 18,.v 16,.v 17])))
def z05g:T :=
 .lets [.call 95 [.v 0,.v 1,.v 2,.v 12] 0,.call 95 [.v 0,.v 1,.v 2,.v 12] 1] [] (.lets [.bin .neq (.v 14) (.c (.i .i64 0))] [] (.ite (.v 15) (.ret [.c (.nil 6),.v 14])
 z05f))
def z05h:T :=
 .lets [.bin .neq (.v 43) (.c (.i .i64 0))] [] (.ite (.v 44) (.ret [.c (.nil 6),.v 43]) (.lets [.bin .add (.v 30) (.c (.i .i64 1))] [] (.again 2 [.v 42,.v 28,.v 29,.v 45])))
def z05i:T :=
 .ite (.v 41) (.ret [.c (.nil 6),.v 40]) (.lets [.call 94 [.v 0,.v 27,.v 33,.v 34,.v 35,.v 36,.v 37,.v 39] 0,.call 94 [.v 0,.v 27,.v 33,.v 34,.v 35,.v 36,.v 37,.v 39]
 1] [] z05h)
def z05j:T :=
 .lets [.call 98 [.v 0,.v 1,.v 2,.v 33,.v 34,.v 35,.v 36,.v 37] 0,.call 98 [.v 0,.v 1,.v 2,.v 33,.v 34,.v 35,.v 36,.v 37] 1] [] (.lets [.bin .neq (.v 40) (.c (.i .i64
 0))] [] z05i)
def z05k:T :=
 .lets [.call 89 [.v 1,.v 2,.v 32] 0,.call 89 [.v 1,.v 2,.v 32] 1,.call 89 [.v 1,.v 2,.v 32] 2,.call 89 [.v 1,.v 2,.v 32] 3,.call 89 [.v 1,.v 2,.v 32] 4,.call 89 [.v
 1,.v 2,.v 32] 5] [] z05j
def z05l:T :=
 .lets [.sub 1 (.v 13) (some (.v 15)) none] [] (.lets [.call 96 [.v 0,.v 1,.v 2,.v 27,.v 32] 0,.call 96 [.v 0,.v 1,.v 2,.v 27,.v 32] 1] [] (.ret [.v 33,.v 34]))
def z05m:T :=
 .loop [.v 14,.v 6,.v 7,.c (.i .i64 0)] (.lets [.bin .lss (.v 30) (.v 26)] [] (.ite (.v 31) (.lets [] [.inr 1 (.v 25) (.v 30)] (.lets [.idx (.v 25) (.v 30) 0] [] z05k))
 z05l))
def z05n:T :=
 .ite (.v 22) (.lets [.bin .add (.v 15) (.c (.i .i64 1))] [] (.again 1 [.v 23])) (.lets [.sub 1 (.v 12) (some (.v 15)) none] [] (.lets [.call 85 [.v 23] 0] [] (.lets [.call 86 [.v
 24] 0] [] (.lets [.len (.v 25)] [] z05m))))
def z05o:T :=
 .lets [] [.inr 1 (.v 12) (.v 15)] (.lets [.idx (.v 12) (.v 15) 0] [] (.lets [] [.inr 1 (.v 13) (.v 15)] (.lets [.idx (.v 13) (.v 15) 0] [] (.lets [.bin .eql (.v 20) (.v 21)] []
 z05n))))
def z01n:T :=
 .lets [.bin .neq (.v 40) (.c (.i .i64 0))] [] (.ite (.v 41) (.ret [.c (.nil 6),.v 40]) (.lets [.bin .add (.v 27) (.c (.i .i64 1))] [] (.again 2 [.v 39,.v 25,.v 26,.v 42])))
def z01o:T :=
 .ite (.v 38) (.ret [.c (.nil 6),.v 37]) (.lets [.call 94 [.v 0,.v 24,.v 30,.v 31,.v 32,.v 33,.v 34,.v 36] 0,.call 94 [.v 0,.v 24,.v 30,.v 31,.v 32,.v 33,.v 34,.v 36]
 1] [] z01n)
def z01p:T :=
 .lets [.call 98 [.v 0,.v 1,.v 2,.v 30,.v 31,.v 32,.v 33,.v 34] 0,.call 98 [.v 0,.v 1,.v 2,.v 30,.v 31,.v 32,.v 33,.v 34] 1] [] (.lets [.bin .neq (.v 37) (.c (.i .i64
 0))] [] z01o)
def z01q:T :=
 .lets [.call 89 [.v 1,.v 2,.v 29] 0,.call 89 [.v 1,.v 2,.v 29] 1,.call 89 [.v 1,.v 2,.v 29] 2,.call 89 [.v 1,.v 2,.v 29] 3,.call 89 [.v 1,.v 2,.v 29] 4,.call 89 [.v
 1,.v 2,.v 29] 5] [] z01p
def z01r:T :=
 .lets [.sub 1 (.v 13) (some (.v 15)) none] [] (.lets [.call 96 [.v 0,.v 1,.v 2,.v 24,.v 29] 0,.call 96 [.v 0,.v 1,.v 2,.v 24,.v 29] 1] [] (.ret [.v 30,.v 31]))
def z01s:T :=
 .loop [.v 14,.v 6,.v 7,.c (.i .i64 0)] (.lets [.bin .lss (.v 27) (.v 23)] [] (.ite (.v 28) (.lets [] [.inr 1 (.v 22) (.v 27)] (.lets [.idx (.v 22) (.v 27) 0] [] z01q))
 z01r))
def z01t:T :=
 .ite (.v 19) z05o (.lets [.sub 1 (.v 12) (some (.v 15)) none] [] (.lets [.call 85 [.v 20] 0] [] (.lets [.call 86 [.v 21] 0] [] (.lets [.len (.v 22)] [] z01s))))
def z01u:T :=
 .lets [.bin .neq (.v 38) (.c (.i .i64 0))] [] (.ite (.v 39) (.ret [.c (.nil 6),.v 38]) (.lets [.bin .add (.v 25) (.c (.i .i64 1))] [] (.again 2 [.v 37,.v 23,.v 24,.v 40])))
def z01v:T :=
 .ite (.v 36) (.ret [.c (.nil 6),.v 35]) (.lets [.call 94 [.v 0,.v 22,.v 28,.v 29,.v 30,.v 31,.v 32,.v 34] 0,.call 94 [.v 0,.v 22,.v 28,.v 29,.v 30,.v 31,.v 32,.v 34]
 1] [] z01u)
def z01w:T :=
 .lets [.call 98 [.v 0,.v 1,.v 2,.v 28,.v 29,.v 30,.v 31,.v 32] 0,.call 98 [.v 0,.v 1,.v 2,.v 28,.v 29,.v 30,.v 31,.v 32] 1] [] (.lets [.bin .neq (.v 35) (.c (.i .i64
 0))] [] z01v)
def z01x:T :=
 .lets [.call 89 [.v 1,.v 2,.v 27] 0,.call 89 [.v 1,.v 2,.v 27] 1,.call 89 [.v 1,.v 2,.v 27] 2,.call 89 [.v 1,.v 2,.v 27] 3,.call 89 [.v 1,.v 2,.v 27] 4,.call 89 [.v
 1,.v 2,.v 27] 5] [] z01w
def z01y:T :=
 .lets [.sub 1 (.v 13) (some (.v 15)) none] [] (.lets [.call 96 [.v 0,.v 1,.v 2,.v 22,.v 27] 0,.call 96 [.v 0,.v 1,.v 2,.v 22,.v 27] 1] [] (.ret [.v 28,.v 29]))
def z01z:T :=
 .loop [.v 14,.v 6,.v 7,.c (.i .i64 0)] (.lets [.bin .lss (.v 25) (.v 21)] [] (.ite (.v 26) (.lets [] [.inr 1 (.v 20) (.v 25)] (.lets [.idx (.v 20) (.v 25) 0] [] z01x))
 z01y))
def z020:T :=
 .ite (.v 17) (.lets [.len (.v 13)] [] (.lets [.bin .lss (.v 15) (.v 18)] [] z01t)) (.lets [.sub 1 (.v 12) (some (.v 15)) none] [] (.lets [.call 85 [.v 18] 0] [] (.lets [.call
 86 [.v 19] 0] [] (.lets [.len (.v 20)] [] z01z))))
def z021:T :=
 .lets [.sel [.v 9,.v 10] (.c (.i .i64 1))] [] (.lets [.call 11 [.v 3] 0] [] (.loop [.c (.i .i64 0)] (.lets [.len (.v 12)] [] (.lets [.bin .lss (.v 15) (.v 16)] [] z020))))
def z022:T :=
 .lets [] [.sel [.c (.b true),.c (.b true)] (.c (.i .i64 0))] (.lets [.sel [.v 9,.v 10] (.c (.i .i64 0))] [] (.lets [] [.sel [.c (.b true),.c (.b true)] (.c (.i .i64 1))]
 z021))
def zk7:T :=
 .loop [.c (.nil 6),.c (.i .i64 0),.c (.i .i64 0),.c (.nil 1),.c (.nil 1)] (.lets [.bin .lss (.v 8) (.c (.i .i64 2))] [] (.ite (.v 11) (.lets [.sel [.v 4,.v 5] (.v 8)] []
 z05g) z022))
attribute [local irreducible] z36 z59
theorem zpx:Meets Tryz.prog z7j 52 ⟨[.agg 1,.agg 2,.one],[(false,[.pure]),(false,[.scal])],false⟩:=by
 refine zi (sp:=(z0m [(69,z36),(88,z59)])) (sigs:=z0t) (cut:=[]) (hints:=[]) (fn:=Tryz.f52) (t:=zhk) (by kernel_rfl) (by kernel_rfl) (by kernel_rfl) ?_ ?_
 ·exact (z0c (L:=[(69,z36),(88,z59)]) ⟨z7 rfl zj9,z7 rfl zlu,trivial⟩)
 ·rintro ds rs - h
  obtain ⟨⟨k,t,n⟩,-,rfl,rfl⟩:=zq h
  clear h
  refine ⟨⟨1,?_⟩,z2v ⟨rfl,trivial⟩⟩
  show den _ _ zhk [.l 1 (k.texts.map z0f),.l 1 (t.names.map z04),.l 5 (t.blocks.map z0x),I n] []=ret (z0v k t n)
  unfold zhk z0v
  repeat' (first|refine dq1 ?_|refine dqk rfl (zd0 k) ?_|refine dqK rfl (ze8 t n) ?_|exact z6 rfl rfl|refine tR (fun h=>?_) fun h=>?_|fail)
attribute [local irreducible] z19 z2h
theorem zpy:Meets Tryz.prog z7k 53 ⟨[.agg 1,.agg 2,.one,.one],[(false,[.pure]),(false,[.scal])],false⟩:=by
 refine zi (sp:=(z0m [(74,z19),(89,z2h)])) (sigs:=z0t) (cut:=[]) (hints:=[⟨2,[.r 8 86 6,.t 9,.t 2,.t 19]⟩]) (fn:=Tryz.f53) (t:=zhl) (by kernel_rfl) (by kernel_rfl) (by kernel_rfl) ?_ ?_
 ·exact (z0c (L:=[(74,z19),(89,z2h)]) ⟨z7 rfl z9f,z7 rfl zdg,trivial⟩)
 ·rintro ds rs hok h
  obtain ⟨⟨k,t,l,r⟩,-,rfl,rfl⟩:=zq h
  clear h
  have hll:=ok_l (hok (.l 1 (r.map z04)) (List.mem_append_right _ (List.mem_append_right _ (List.mem_append_right _ (List.mem_singleton.2 rfl)))))
  refine ⟨⟨r.length+1,?_⟩,z2v ⟨rfl,trivial⟩⟩
  show den _ _ zhl [.l 1 (k.texts.map z0f),.l 1 (t.names.map z04),.l 5 (t.blocks.map z0x),.l 6 (l.map z9),.l 1 (r.map z04)] []=ret (z0l k t l r)
  unfold zhl
  repeat' (first|refine dq1 ?_|fail)
  (refine z0k (fun (l:List Coin) k=>[.l 6 [],I 0,.l 6 (l.map z9),I k]) (fun (l:List Coin) _ (r:List Int)=>z0l k t l r) (fun _ _=>True) l r ?_ ?_ ?_ ?_ ?_;rfl;exact trivial;omega)
  ·rintro l i n r hx hd hk - again hag
   have a1:=z37 t n
   have a2:=z5v k l (zb t n)
   rw [z0l]
   have hag':=hag (z14 k l (zb t n)).1 trivial
   generalize z14 k l (zb t n)=q at *
   obtain ⟨l2,us,e⟩:=q
   generalize zb t n=b at *
   simp only at *
   repeat' (first|refine dq1 ?_|refine dqc ?_|refine dqK rfl (a1) ?_|refine dqK rfl (a2) ?_|exact z6 rfl rfl|refine tR (fun h=>?_) fun h=>?_|refine dqT ?_|fail)
   exact zw rfl rfl hag'
  ·rintro l - again
   rw [z0l]
   repeat' (first|refine dq1 ?_|exact z6 rfl rfl|refine dqF ?_|fail)
theorem zaj:Meets Tryz.prog z1q 17 ⟨[.agg 1,.agg 2,.one],[(false,[.pure]),(false,[.scal])],false⟩:=by
 refine zi (sp:=(z0m [(95,z7j),(96,z7k)])) (sigs:=z0t) (cut:=[]) (hints:=[]) (fn:=Tryz.f17) (t:=zhm) (by kernel_rfl) (by kernel_rfl) (by kernel_rfl) ?_ ?_
 ·exact (z0c (L:=[(95,z7j),(96,z7k)]) ⟨z7 rfl zpx,z7 rfl zpy,trivial⟩)
 ·rintro ds rs - h
  obtain ⟨⟨k,t,n⟩,-,rfl,rfl⟩:=zq h
  clear h
  refine ⟨⟨1,?_⟩,z2v ⟨rfl,trivial⟩⟩
  show den _ _ zhm [.l 1 (k.texts.map z0f),.l 1 (t.names.map z04),.l 5 (t.blocks.map z0x),I n] []=ret (zx k t n)
  have a1:=zfv k t n
  have a2:=z63 k t [] (z0v k t n).1
  unfold zhm zx
  generalize z0v k t n=q at *
  obtain ⟨r,e⟩:=q
  simp only at *
  repeat' (first|refine dq1 ?_|refine dqK rfl (a1) ?_|refine dqK rfl (a2) ?_|exact z6 rfl rfl|refine tR (fun h=>?_) fun h=>?_|fail)
attribute [local irreducible] z1q
theorem z08k:Meets Tryz.prog zbd 62 ⟨[.agg 1,.agg 2,.agg 5],[(false,[.pure]),(false,[.scal])],false⟩:=by
 refine zi (sp:=(z0m [(74,z19),(97,z1q)])) (sigs:=z0t) (cut:=[]) (hints:=[]) (fn:=Tryz.f62) (t:=zhn) (by kernel_rfl) (by kernel_rfl) (by kernel_rfl) ?_ ?_
 ·exact (z0c (L:=[(74,z19),(97,z1q)]) ⟨z7 rfl z9f,z7 rfl zaj,trivial⟩)
 ·rintro ds rs - h
  obtain ⟨⟨k,t,b⟩,-,rfl,rfl⟩:=zq h
  clear h
  refine ⟨⟨1,?_⟩,z2v ⟨rfl,trivial⟩⟩
  show den _ _ zhn [.l 1 (k.texts.map z0f),.l 1 (t.names.map z04),.l 5 (t.blocks.map z0x),I b.parent,I b.height,I b.work,I b.nonce,.l 3 (b.txs.map eTx)] []=ret (z0w k t b)
  have a1:=z47 k t b.parent
  have a2:=z5v k (zx k t b.parent).1 b
  unfold zhn z0w
  generalize zx k t b.parent=q at *
  obtain ⟨l,e⟩:=q
  simp only at *
  repeat' (first|refine dq1 ?_|refine dqK rfl (a1) ?_|refine dqK rfl (a2) ?_|exact z6 rfl rfl|refine tR (fun h=>?_) fun h=>?_|fail)
attribute [local irreducible] zag
theorem zpz:Meets Tryz.prog z52 20 ⟨[.agg 2,.one,.one],[(false,[.scal]),(false,[.scal])],true⟩:=by
 refine zi (sp:=(z0m [(87,zag),(88,z59)])) (sigs:=z0t) (cut:=[]) (hints:=[]) (fn:=Tryz.f20) (t:=zho) (by kernel_rfl) (by kernel_rfl) (by kernel_rfl) ?_ ?_
 ·exact (z0c (L:=[(87,zag),(88,z59)]) ⟨z7 rfl z0am,z7 rfl zlu,trivial⟩)
 ·rintro ds rs - h
  obtain ⟨⟨t,n,m⟩,-,rfl,rfl⟩:=zq h
  clear h
  refine ⟨⟨1,?_⟩,z9p rfl rfl⟩
  show den _ _ zho [.l 1 (t.names.map z04),.l 5 (t.blocks.map z0x),I n,I m] []=ret (z27 t n m)
  have a1:=ze8 t m
  have a2:=zwx (z13 t m).1 n
  have hl:=zpv t m
  have hi:=zgk (z13 t m).1 n
  unfold zho z27
  generalize z13 t m=q at *
  obtain ⟨l,e⟩:=q
  simp only at *
  generalize idx l n=j at *
  repeat' (first|refine dq1 ?_|refine dqK rfl (a1) ?_|refine dqk rfl (a2) ?_|exact z6 rfl rfl|refine tR (fun h=>?_) fun h=>?_|fail)
attribute [local irreducible] z9e zcb zah z3b
theorem zyb:Meets Tryz.prog z3e 21 ⟨[.agg 1,.agg 2,.one,.one,.one],[(false,[.pure]),(false,[.scal])],false⟩:=by
 refine zi (sp:=(z0m [(11,z3b),(85,zcb),(86,zah),(89,z2h),(94,z9e),(95,z7j),(96,z7k),(98,zbd)])) (sigs:=z0bd) (cut:=[]) (hints:=[⟨3,[.r 10 86 6,.t 11,.t 30,.o 12]⟩,⟨13,[.t 19]⟩,⟨18,[.t 2,.r 10 86 6,.t 11,.t 85]⟩]) (fn:=Tryz.f21) (t:=zk7) (by kernel_rfl) (by kernel_rfl) (by kernel_rfl) ?_ ?_
 ·exact (z0c (L:=[(11,z3b),(85,zcb),(86,zah),(89,z2h),(94,z9e),(95,z7j),(96,z7k),(98,zbd)]) ⟨z7 rfl (zgj rfl zf5),z7 rfl z0d6,z7 rfl z0ao,z7 rfl zdg,z7 rfl z08i,z7 rfl zpx,z7 rfl zpy,z7 rfl z08k,trivial⟩)
 ·rintro ds rs hok h
  obtain ⟨⟨k,t,l,a,b⟩,hsl,rfl,rfl⟩:=zq h
  clear h
  simp only at hsl
  refine ⟨⟨100,?_⟩,z2v ⟨rfl,trivial⟩⟩
  show den _ _ zk7 [.l 1 (k.texts.map z0f),.l 1 (t.names.map z04),.l 5 (t.blocks.map z0x),.l 6 (l.map z9),I a,I b] []=ret (z7v k t (zai k t l) ([],[]) 0 [a,b])
  unfold zk7
  (refine z0k (fun (s:List Int × List Int) k=>[.l 6 [],I 0,I k,.l 1 (s.1.map z04),.l 1 (s.2.map z04)]) (fun (s:List Int × List Int) i (r:List Int)=>z7v k t (zai k t l) s i r) (fun s _=>s.1.length≤24∧s.2.length≤24) ([],[]) [a,b] ?_ ?_ ?_ ?_ ?_;rfl;exact ⟨by simp,by simp⟩;simp)
  ·rintro ⟨x,y⟩ i n r hx hd hk ⟨h1,h2⟩ again hag
   simp only at h1 h2
   have a1:=zfv k t n
   have hl:=z01d k t n
   rw [z7v]
   match i,hk,hx with
   | 0,_,hx =>
    obtain rfl:a=n:=Option.some.inj hx
    generalize z0v k t a=q at *
    obtain ⟨p,e⟩:=q
    simp only at *
    have hag':=hag (p,y) ⟨hl,h2⟩
    repeat' (first|refine dq1 ?_|refine dqK rfl (a1) ?_|refine dqs ?_ (z92 rfl rfl (by decide) rfl)|refine z6l (z1h (z92 rfl rfl (by decide) rfl) (z1h (z92 rfl rfl (by decide) rfl) za9)) ?_ rfl|exact z6 rfl rfl|refine tR (fun h=>?_) fun h=>?_|refine dqT ?_|fail)
    exact zw rfl rfl hag'
   | 1,_,hx =>
    obtain rfl:b=n:=Option.some.inj hx
    generalize z0v k t b=q at *
    obtain ⟨p,e⟩:=q
    simp only at *
    have hag':=hag (x,p) ⟨h1,hl⟩
    repeat' (first|refine dq1 ?_|refine dqK rfl (a1) ?_|refine dqs ?_ (z92 rfl rfl (by decide) rfl)|refine z6l (z1h (z92 rfl rfl (by decide) rfl) (z1h (z92 rfl rfl (by decide) rfl) za9)) ?_ rfl|exact z6 rfl rfl|refine tR (fun h=>?_) fun h=>?_|refine dqT ?_|fail)
    exact zw rfl rfl hag'
   | i+2,hk,_=>exact absurd hk (by simp only [List.length_cons,List.length_nil];omega)
  ·rintro ⟨x,y⟩ ⟨hx24,hy24⟩ again
   simp only at hx24 hy24 ⊢
   rw [z7v]
   show _=ret (zai k t l x y)
   unfold zai
   obtain ⟨e1,e2,e3⟩:=z03h x y
   have hcom:=fun i (h:i<z0h x y)=>z08j h
   have c0:=z6t l hsl
   have c1:=z00s (x.drop (z0h x y)) (by rw [List.length_drop];omega)
   have c2:=zwz (x.drop (z0h x y))
   have hrl:(x.drop (z0h x y)).reverse.length≤24:=by rw [List.length_reverse,List.length_drop];omega
   repeat' (first|refine dq1 ?_|refine dqk rfl (c0) ?_|refine dqs ?_ (z92 rfl rfl (by decide) rfl)|refine z2k rfl ?_|fail)
   (refine z06t (st:=fun i=>[I i]) (n:=z0h x y) rfl (by omega) ?_ ?_)
   ·intro i hi again' hag'
    obtain ⟨v,h1,h2⟩:=hcom i hi
    have h1':x[((i:Int)).toNat]? = some v:=by rw [Int.toNat_natCast];exact h1
    have h2':y[((i:Int)).toNat]? = some v:=by rw [Int.toNat_natCast];exact h2
    have hag':again' [I ((i:Int)+1)]=_:=hag'
    repeat' (first|refine dq1 ?_|refine dqc ?_|refine dqT ?_|refine z4c rfl ?_|fail)
    exact zw rfl rfl hag'
   ·intro again'
    rcases e3 with e3|e3|⟨p,q,e3,e4,e5⟩
    ·repeat' (first|refine dq1 ?_|refine dqk rfl (c1) ?_|refine dqk rfl (c2) ?_|refine z8 (z8n (n:=z0h x y) rfl rfl rfl (by omega)) ?_|refine dqF ?_|fail)
     (refine z0k (fun (l:List Coin) k=>[.l 6 (l.map z9),.l 6 [],I 0,I k]) (fun (l:List Coin) _ (r:List Int)=>z2x k t (fun l=>z0l k t l (y.drop (z0h x y))) l r) (fun _ _=>True) l ((x.drop (z0h x y)).reverse) ?_ ?_ ?_ ?_ ?_;rfl;exact trivial;omega)
     ·rintro l i n r hx hd hk - again hag;have a1:=z37 t n;have a2:=z85 k t (zb t n);have a3:=z83 k l (zb t n) (z0w k t (zb t n)).1 (z84 k t (zb t n));rw [z2x];have hag':=hag (z42 k l (zb t n) (z0w k t (zb t n)).1).1 trivial;generalize z42 k l (zb t n) (z0w k t (zb t n)).1=q at *;obtain ⟨l2,f⟩:=q;generalize z0w k t (zb t n)=q at *;obtain ⟨us,e⟩:=q;generalize zb t n=b at *;simp only at *
      repeat' (first|refine dq1 ?_|refine dqc ?_|refine dqK rfl (a1) ?_|refine dqK rfl (a2) ?_|refine dqK rfl (a3) ?_|exact z6 rfl rfl|refine tR (fun h=>?_) fun h=>?_|refine dqT ?_|fail)
      exact zw rfl rfl hag'
     ·rintro l - again;rw [z2x];have a4:=z63 k t l (y.drop (z0h x y))
      repeat' (first|refine dq1 ?_|refine dqK rfl (a4) ?_|refine z8 (z8n (n:=z0h x y) rfl rfl rfl (by omega)) ?_|exact z6 rfl rfl|refine dqF ?_|fail)
    ·by_cases hxl:z0h x y=x.length
     ·repeat' (first|refine dq1 ?_|refine dqk rfl (c1) ?_|refine dqk rfl (c2) ?_|refine z8 (z8n (n:=z0h x y) rfl rfl rfl (by omega)) ?_|refine dqF ?_|fail)
      (refine z0k (fun (l:List Coin) k=>[.l 6 (l.map z9),.l 6 [],I 0,I k]) (fun (l:List Coin) _ (r:List Int)=>z2x k t (fun l=>z0l k t l (y.drop (z0h x y))) l r) (fun _ _=>True) l ((x.drop (z0h x y)).reverse) ?_ ?_ ?_ ?_ ?_;rfl;exact trivial;omega)
      ·rintro l i n r hx hd hk - again hag;have a1:=z37 t n;have a2:=z85 k t (zb t n);have a3:=z83 k l (zb t n) (z0w k t (zb t n)).1 (z84 k t (zb t n));rw [z2x];have hag':=hag (z42 k l (zb t n) (z0w k t (zb t n)).1).1 trivial;generalize z42 k l (zb t n) (z0w k t (zb t n)).1=q at *;obtain ⟨l2,f⟩:=q;generalize z0w k t (zb t n)=q at *;obtain ⟨us,e⟩:=q;generalize zb t n=b at *;simp only at *
       repeat' (first|refine dq1 ?_|refine dqc ?_|refine dqK rfl (a1) ?_|refine dqK rfl (a2) ?_|refine dqK rfl (a3) ?_|exact z6 rfl rfl|refine tR (fun h=>?_) fun h=>?_|refine dqT ?_|fail)
       exact zw rfl rfl hag'
      ·rintro l - again;rw [z2x];have a4:=z63 k t l (y.drop (z0h x y))
       repeat' (first|refine dq1 ?_|refine dqK rfl (a4) ?_|refine z8 (z8n (n:=z0h x y) rfl rfl rfl (by omega)) ?_|exact z6 rfl rfl|refine dqF ?_|fail)
     ·repeat' (first|refine dq1 ?_|refine dqk rfl (c1) ?_|refine dqk rfl (c2) ?_|refine z8 (z8n (n:=z0h x y) rfl rfl rfl (by omega)) ?_|refine dqT ?_|refine dqF ?_|fail)
      (refine z0k (fun (l:List Coin) k=>[.l 6 (l.map z9),.l 6 [],I 0,I k]) (fun (l:List Coin) _ (r:List Int)=>z2x k t (fun l=>z0l k t l (y.drop (z0h x y))) l r) (fun _ _=>True) l ((x.drop (z0h x y)).reverse) ?_ ?_ ?_ ?_ ?_;rfl;exact trivial;omega)
      ·rintro l i n r hx hd hk - again hag;have a1:=z37 t n;have a2:=z85 k t (zb t n);have a3:=z83 k l (zb t n) (z0w k t (zb t n)).1 (z84 k t (zb t n));rw [z2x];have hag':=hag (z42 k l (zb t n) (z0w k t (zb t n)).1).1 trivial;generalize z42 k l (zb t n) (z0w k t (zb t n)).1=q at *;obtain ⟨l2,f⟩:=q;generalize z0w k t (zb t n)=q at *;obtain ⟨us,e⟩:=q;generalize zb t n=b at *;simp only at *
       repeat' (first|refine dq1 ?_|refine dqc ?_|refine dqK rfl (a1) ?_|refine dqK rfl (a2) ?_|refine dqK rfl (a3) ?_|exact z6 rfl rfl|refine tR (fun h=>?_) fun h=>?_|refine dqT ?_|fail)
       exact zw rfl rfl hag'
      ·rintro l - again;rw [z2x];have a4:=z63 k t l (y.drop (z0h x y))
       repeat' (first|refine dq1 ?_|refine dqK rfl (a4) ?_|refine z8 (z8n (n:=z0h x y) rfl rfl rfl (by omega)) ?_|exact z6 rfl rfl|refine dqF ?_|fail)
    ·have h1':x[((z0h x y:Nat):Int).toNat]? = some p:=by rw [Int.toNat_natCast];exact e3
     have h2':y[((z0h x y:Nat):Int).toNat]? = some q:=by rw [Int.toNat_natCast];exact e4
     have hlx:=(List.getElem?_eq_some_iff.1 e3).1
     have hly:=(List.getElem?_eq_some_iff.1 e4).1
     repeat' (first|refine dq1 ?_|refine dqc ?_|refine dqk rfl (c1) ?_|refine dqk rfl (c2) ?_|refine z8 (z8n (n:=z0h x y) rfl rfl rfl (by omega)) ?_|refine dqT ?_|refine dqF ?_|fail)
     (refine z0k (fun (l:List Coin) k=>[.l 6 (l.map z9),.l 6 [],I 0,I k]) (fun (l:List Coin) _ (r:List Int)=>z2x k t (fun l=>z0l k t l (y.drop (z0h x y))) l r) (fun _ _=>True) l ((x.drop (z0h x y)).reverse) ?_ ?_ ?_ ?_ ?_;rfl;exact trivial;omega)
     ·rintro l i n r hx hd hk - again hag;have a1:=z37 t n;have a2:=z85 k t (zb t n);have a3:=z83 k l (zb t n) (z0w k t (zb t n)).1 (z84 k t (zb t n));rw [z2x];have hag':=hag (z42 k l (zb t n) (z0w k t (zb t n)).1).1 trivial;generalize z42 k l (zb t n) (z0w k t (zb t n)).1=q at *;obtain ⟨l2,f⟩:=q;generalize z0w k t (zb t n)=q at *;obtain ⟨us,e⟩:=q;generalize zb t n=b at *;simp only at *
      repeat' (first|refine dq1 ?_|refine dqc ?_|refine dqK rfl (a1) ?_|refine dqK rfl (a2) ?_|refine dqK rfl (a3) ?_|exact z6 rfl rfl|refine tR (fun h=>?_) fun h=>?_|refine dqT ?_|fail)
      exact zw rfl rfl hag'
     ·rintro l - again;rw [z2x];have a4:=z63 k t l (y.drop (z0h x y))
      repeat' (first|refine dq1 ?_|refine dqK rfl (a4) ?_|refine z8 (z8n (n:=z0h x y) rfl rfl rfl (by omega)) ?_|exact z6 rfl rfl|refine dqF ?_|fail)
end
section
open Go.RowKit
open Go.Lib (itoa)
set_option maxRecDepth 100000
set_option maxHeartbeats 4000000
attribute [local irreducible] den denX z1b z1m
attribute [local irreducible] z0y spD
attribute [local irreducible] z6v
deriving instance DecidableEq for Undo
attribute [local irreducible] z0q z03 z14 z57 z1k z19
attribute [local irreducible] z07q
end
section
open Go.RowKit
open Go.Lib (itoa)
set_option maxRecDepth 100000
set_option maxHeartbeats 4000000
def zdi (parent height work n:Int):Block:=⟨parent,height,work,0,[⟨height,[],[⟨n,[]⟩]⟩]⟩
attribute [local irreducible] den denX z1b z1m
noncomputable def z9g:za:=spD (fun _:Int × Int × Int × Int=>True) fun x=>zdi x.1 x.2.1 x.2.2.1 x.2.2.2
theorem zfx (a b c d:Int):z9g [I a,I b,I c,I d]=some [I (zdi a b c d).parent,I (zdi a b c d).height,I (zdi a b c d).work,I (zdi a b c d).nonce,.l 3 ((zdi a b c d).txs.map eTx)]:=zl (f:=fun x:Int × Int × Int × Int=>zdi x.1 x.2.1 x.2.2.1 x.2.2.2) (a,b,c,d) trivial
attribute [local irreducible] z0y spD
def zhp:T :=
 .lets [.mk 2 [[.v 3,.c (.nil 2)]]] [] (.lets [.mk 3 [[.v 1,.c (.nil 3),.v 4]]] [] (.ret [.v 0,.v 1,.v 2,.c (.i .i64 0),.v 5]))
theorem z08l:Meets Tryz.prog z9g 57 ⟨[.one,.one,.one,.one],[(true,[.scal,.scal,.scal,.scal,.pure])],false⟩:=by
 refine zi (sp:=(z0m [])) (sigs:=z0t) (cut:=[]) (hints:=[]) (fn:=Tryz.f57) (t:=zhp) (by kernel_rfl) (by kernel_rfl) (by kernel_rfl) ?_ ?_
 ·exact (z0c (L:=[]) trivial)
 ·rintro ds rs - h
  obtain ⟨⟨a,b,c,d⟩,-,rfl,rfl⟩:=zq h
  clear h
  refine ⟨⟨1,?_⟩,z2v ⟨rfl,rfl,rfl,rfl,trivial⟩⟩
  show den _ _ zhp [I a,I b,I c,I d] []=ret (zdi a b c d)
  unfold zhp
  repeat' (first|refine z8 (z48 rfl rfl (by simp)) ?_|exact z6 rfl rfl|fail)
def ch1:Block:=zdi 0 1 1 5
def ch2:Block:=zdi 2 2 1 7
def chB1:Book:=⟨(z03 ⟨[]⟩ ch1).1⟩
def chB2:Book:=⟨(z03 chB1 ch2).1⟩
theorem ch_n1:(z03 ⟨[]⟩ ch1).2.1=2∧(z03 ⟨[]⟩ ch1).2.2.2=0:=by with_unfolding_all decide +kernel
theorem ch_n2:(z03 chB1 ch2).2.1=4∧(z03 chB1 ch2).2.2.2=0:=by with_unfolding_all decide +kernel
def chT1:Tree:=⟨[2],[ch1]⟩
def zk8:Tree:=⟨[2,4],[ch1,ch2]⟩
theorem ch_t1:z46 ⟨[],[]⟩ 2 ch1=chT1∧z1w ⟨[],[]⟩ 2 ch1=0:=by with_unfolding_all decide +kernel
theorem ch_t2:z46 chT1 4 ch2=zk8∧z1w chT1 4 ch2=0:=by with_unfolding_all decide +kernel
theorem ch_coins:(zx chB2 zk8 4).1.length=2∧(zx chB2 zk8 4).2=0:=by with_unfolding_all decide +kernel
theorem z0ay:z27 zk8 2 4=(1,0):=by with_unfolding_all decide +kernel
noncomputable def z3q:za:=spD (fun _:Unit=>True) fun _=>true
theorem z9t:z3q []=some [.b true]:=zl (f:=fun _:Unit=>true) () trivial
attribute [local irreducible] z0q z03 z14 zx z27 z46 z1w z1k z9c z1q z52
def zyc:T :=
 .lets [.len (.v 34)] [] (.lets [.bin .eql (.v 44) (.c (.i .i64 2))] [] (.ite (.v 45) (.lets [.bin .eql (.v 36) (.c (.i .i64 1))] [] (.ret [.v 46])) (.ret [.c (.b false)])))
def zyd:T :=
 .lets [.bin .eql (.v 35) (.c (.i .i64 0))] [] (.ite (.v 42) (.lets [.bin .eql (.v 37) (.c (.i .i64 0))] [] (.ite (.v 43) zyc (.ret [.c (.b false)]))) (.ret [.c (.b
 false)]))
def zye:T :=
 .lets [.bin .eql (.v 25) (.c (.i .i64 0))] [] (.ite (.v 40) (.lets [.bin .eql (.v 33) (.c (.i .i64 0))] [] (.ite (.v 41) zyd (.ret [.c (.b false)]))) (.ret [.c (.b
 false)]))
def zyf:T :=
 .lets [.bin .eql (.v 8) (.c (.i .i64 0))] [] (.ite (.v 38) (.lets [.bin .eql (.v 17) (.c (.i .i64 0))] [] (.ite (.v 39) zye (.ret [.c (.b false)]))) (.ret [.c (.b false)]))
def zyg:T :=
 .lets [.call 97 [.v 14,.v 31,.v 32,.v 15] 0,.call 97 [.v 14,.v 31,.v 32,.v 15] 1] [] (.lets [.call 100 [.v 31,.v 32,.v 6,.v 15] 0,.call 100 [.v 31,.v 32,.v 6,.v 15] 1]
 [] zyf)
def zyh:T :=
 .lets [.call 90 [.v 23,.v 24,.v 15,.v 26,.v 27,.v 28,.v 29,.v 30] 0,.call 90 [.v 23,.v 24,.v 15,.v 26,.v 27,.v 28,.v 29,.v 30] 1,.call 90 [.v 23,.v 24,.v 15,.v
 26,.v 27,.v 28,.v 29,.v 30] 2] [] zyg
def zyi:T :=
 .lets [.call 105 [.v 6,.c (.i .i64 2),.c (.i .i64 1),.c (.i .i64 7)] 0,.call 105 [.v 6,.c (.i .i64 2),.c (.i .i64 1),.c (.i .i64 7)] 1,.call 105 [.v 6,.c (.i .i64 2),.c
 (.i .i64 1),.c (.i .i64 7)] 2,.call 105 [.v 6,.c (.i .i64 2),.c (.i .i64 1),.c (.i .i64 7)] 3,.call 105 [.v 6,.c (.i .i64 2),.c (.i .i64 1),.c (.i .i64 7)] 4] []
 zyh
def zyj:T :=
 .lets [.call 90 [.c (.nil 1),.c (.nil 5),.v 6,.v 18,.v 19,.v 20,.v 21,.v 22] 0,.call 90 [.c (.nil 1),.c (.nil 5),.v 6,.v 18,.v 19,.v 20,.v 21,.v 22] 1,.call 90 [.c
 (.nil 1),.c (.nil 5),.v 6,.v 18,.v 19,.v 20,.v 21,.v 22] 2] [] zyi
def zyk:T :=
 .lets [.call 105 [.c (.i .i64 0),.c (.i .i64 1),.c (.i .i64 1),.c (.i .i64 5)] 0,.call 105 [.c (.i .i64 0),.c (.i .i64 1),.c (.i .i64 1),.c (.i .i64 5)] 1,.call 105 [.c (.i
 .i64 0),.c (.i .i64 1),.c (.i .i64 1),.c (.i .i64 5)] 2,.call 105 [.c (.i .i64 0),.c (.i .i64 1),.c (.i .i64 1),.c (.i .i64 5)] 3,.call 105 [.c (.i .i64 0),.c (.i .i64 1),
 .c (.i .i64 1),.c (.i .i64 5)] 4] [] zyj
def zyl:T :=
 .lets [.call 72 [.v 5,.v 9,.v 10,.v 11,.v 12,.v 13] 0,.call 72 [.v 5,.v 9,.v 10,.v 11,.v 12,.v 13] 1,.call 72 [.v 5,.v 9,.v 10,.v 11,.v 12,.v 13] 2,.call 72 [.v 5,
 .v 9,.v 10,.v 11,.v 12,.v 13] 3] [] zyk
def zrf:T :=
 .lets [.call 105 [.v 6,.c (.i .i64 2),.c (.i .i64 1),.c (.i .i64 7)] 0,.call 105 [.v 6,.c (.i .i64 2),.c (.i .i64 1),.c (.i .i64 7)] 1,.call 105 [.v 6,.c (.i .i64 2),.c
 (.i .i64 1),.c (.i .i64 7)] 2,.call 105 [.v 6,.c (.i .i64 2),.c (.i .i64 1),.c (.i .i64 7)] 3,.call 105 [.v 6,.c (.i .i64 2),.c (.i .i64 1),.c (.i .i64 7)] 4] []
 zyl
def zrg:T :=
 .lets [.call 72 [.c (.nil 1),.v 0,.v 1,.v 2,.v 3,.v 4] 0,.call 72 [.c (.nil 1),.v 0,.v 1,.v 2,.v 3,.v 4] 1,.call 72 [.c (.nil 1),.v 0,.v 1,.v 2,.v 3,.v 4] 2,.call
 72 [.c (.nil 1),.v 0,.v 1,.v 2,.v 3,.v 4] 3] [] zrf
def zfh:T :=
 .lets [.call 105 [.c (.i .i64 0),.c (.i .i64 1),.c (.i .i64 1),.c (.i .i64 5)] 0,.call 105 [.c (.i .i64 0),.c (.i .i64 1),.c (.i .i64 1),.c (.i .i64 5)] 1,.call 105 [.c (.i
 .i64 0),.c (.i .i64 1),.c (.i .i64 1),.c (.i .i64 5)] 2,.call 105 [.c (.i .i64 0),.c (.i .i64 1),.c (.i .i64 1),.c (.i .i64 5)] 3,.call 105 [.c (.i .i64 0),.c (.i .i64 1),
 .c (.i .i64 1),.c (.i .i64 5)] 4] [] zrg
attribute [local irreducible] z9g
theorem zfi:Meets Tryz.prog z3q 19 ⟨[],[(false,[.scal])],true⟩:=by
 refine zi (sp:=(z0m [(72,z1k),(90,z9c),(97,z1q),(100,z52),(105,z9g)])) (sigs:=z0t) (cut:=[]) (hints:=[]) (fn:=Tryz.f19) (t:=zfh) (by kernel_rfl) (by kernel_rfl) (by kernel_rfl) ?_ ?_
 ·exact (z0c (L:=[(72,z1k),(90,z9c),(97,z1q),(100,z52),(105,z9g)]) ⟨z7 rfl zbc,z7 rfl z086,z7 rfl zaj,z7 rfl zpz,z7 rfl z08l,trivial⟩)
 ·rintro ds rs - h
  obtain ⟨⟨⟩,-,rfl,rfl⟩:=zq h
  clear h
  refine ⟨⟨1,?_⟩,z0o rfl⟩
  show den _ _ zfh [] []=ret true
  have b1:=zfx 0 1 1 5
  have b2:=zfx 2 2 1 7
  have a1:=z5h ⟨[]⟩ ch1
  rw [show (z03 ⟨[]⟩ ch1).1=chB1.texts from rfl,ch_n1.1,ch_n1.2] at a1
  have a2:=z5h chB1 ch2
  rw [show (z03 chB1 ch2).1=chB2.texts from rfl,ch_n2.1,ch_n2.2] at a2
  have a3:=zfs ⟨[],[]⟩ 2 ch1
  rw [ch_t1.1,ch_t1.2] at a3
  have a4:=zfs chT1 4 ch2
  rw [ch_t2.1,ch_t2.2] at a4
  have a5:=z47 chB2 zk8 4
  rw [ch_coins.2] at a5
  have hl:=ch_coins.1
  have a6:=zfw zk8 2 4
  rw [z0ay] at a6
  generalize (zx chB2 zk8 4).1=l at *
  generalize chB2=k2 at *
  generalize chB1=k1 at *
  generalize (z03 ⟨[]⟩ ch1).2.2.1=ns1 at *
  generalize (z03 k1 ch2).2.2.1=ns2 at *
  unfold zfh
  repeat' (first|refine dq1 ?_|refine dqK rfl (b1) ?_|refine dqK rfl (b2) ?_|refine dqK rfl (a1) ?_|refine dqK rfl (a2) ?_|refine dqK rfl (a3) ?_|refine dqK rfl (a4) ?_|refine dqK rfl (a5) ?_|refine dqK rfl (a6) ?_|exact z6 rfl rfl|refine dqT ?_|refine z4c rfl ?_|fail)
end
section
open Go.RowKit
set_option maxRecDepth 100000
theorem Done.total {l:List Coin} {t:Tx} {nm h:Int} {r s m:List Coin} (d:Done l t nm h r s m):zd m=zd l - z15 t s:=by
 have h1:=d.spentAs.total
 have h2:=d.broughtAs.total
 rw [zff]
 omega
theorem Done.most {l:List Coin} {t:Tx} {nm h:Int} {r s m:List Coin} (d:Done l t nm h r s m):zd m≤zd l - z15 t []:=by
 have S:=d.spentAs
 have h1:=S.total
 have h2:=d.broughtAs.total
 have hs:0≤zd s:=z5d fun c hc=>d.ok.good c (S.from hc).1
 rw [zff]
 simp only [zd]
 omega
theorem zfy {α:Type} {l:List α} {i:Nat} {x d:α} (h:i<l.length):(l.set i x).getD i d=x:=by
 rw [List.getD_eq_getElem?_getD,List.getElem?_set_self h]
 rfl
theorem getD_set_ne {α:Type} {l:List α} {i j:Nat} {x d:α} (h:i≠j):(l.set i x).getD j d=l.getD j d:=by
 rw [List.getD_eq_getElem?_getD,List.getElem?_set_ne h,← List.getD_eq_getElem?_getD]
theorem zjf {b:Block} {ns:List Int} {m:List Coin} {us':List Undo}:∀ (r:List Tx) (l:List Coin) (us:List Undo) (most:Int) (j:Nat),z4a b ns l us most (j+1) r=(m,us',0)→b.txs.drop (j+1)=r→us.length=b.txs.length→j+1≤b.txs.length →
  ∃ l1 us1 most1,z8m b ns l1 us1 most1=(m,us',0)∧us1.length=b.txs.length∧(∀ i,i≤j→us1.getD i ⟨[]⟩=us.getD i ⟨[]⟩)∧zd l1=zd l - (most1 - most) ∧
   ∀ U:List Undo,(∀ i,1≤i→U.getD i ⟨[]⟩=us1.getD i ⟨[]⟩)→zd2 b ns U l1 (b.txs.length - 1)=zd2 b ns U l j
 | [],l,us,most,j,h,hd,hu,hj=>by
  rw [z4a] at h
  have hl:=congrArg List.length hd
  rw [List.length_drop,List.length_nil] at hl
  have e:b.txs.length - 1=j:=by omega
  exact ⟨l,us,most,h,hu,fun _ _=>rfl,by omega,fun U _=>by rw [e]⟩
 | t::r,l,us,most,j,h,hd,hu,hj=>by
  rw [z4a] at h
  by_cases he:(zk l t (ns.getD (j+1) 0) b.height).2.2=0
  rotate_left
  ·rw [if_pos he] at h
   exact absurd (congrArg (fun x=>x.2.2) h) he
  rw [if_neg (fun k=>k he)] at h
  obtain ⟨rr,d⟩:=z9d he
  have hl:=congrArg List.length hd
  rw [List.length_drop,List.length_cons] at hl
  have hd2:b.txs.drop (j+1+1)=r:=by rw [← List.drop_drop,hd];rfl
  have ht:b.txs.getD (j+1) zTx=t:=by
   rw [List.getD_eq_getElem?_getD]
   have:(b.txs.drop (j+1))[0]? = some t:=by rw [hd];rfl
   rw [List.getElem?_drop] at this
   rw [show j+1=j+1+0 by omega,this]
   rfl
  obtain ⟨l1,us1,most1,h1,h2,h3,h4,h5⟩:=zjf r _ _ _ (j+1) h hd2 (by rw [List.length_set];exact hu) (by omega)
  refine ⟨l1,us1,most1,h1,h2,fun i hi=>?_,by rw [h4,d.total];omega,fun U hU=>?_⟩
  ·rw [h3 i (by omega),getD_set_ne (by omega)]
  ·rw [h5 U hU,zd2,ht,hU (j+1) (by omega),h3 (j+1) (Nat.le_refl _),zfy (by omega),d.back]
   exact if_neg fun k=>k rfl
theorem zq0 {k:Book} {l m:List Coin} {b:Block} {us:List Undo} (h:z14 k l b=(m,us,0)):z42 k m b us=(l,0)∧CoinsOK l∧CoinsOK m∧zd m≤zd l+z07 b.height∧zg b=0∧z2n us:=by
 have hsh:=zhj k l b
 rw [h] at hsh
 unfold z14 at h
 by_cases hc:zj l=0
 rotate_left
 ·rw [if_pos hc] at h
  exact absurd (congrArg (fun x=>x.2.2) h) hc
 rw [if_neg (fun k=>k hc)] at h
 by_cases he:(z03 k b).2.2.2=0
 rotate_left
 ·rw [if_pos he] at h
  exact absurd (congrArg (fun x=>x.2.2) h) he
 rw [if_neg (fun k=>k he)] at h
 obtain ⟨hb,hn⟩:=zfg he
 have ok:=z4h hb
 obtain ⟨l1,us1,most1,h1,h2,-,h4,h5⟩:=zjf _ _ _ _ 0 h rfl (by simp) ok.some
 unfold z8m at h1
 by_cases hm:most1 < -z15 (b.txs.getD 0 zTx) []
 ·rw [if_pos hm] at h1
  exact absurd (congrArg (fun x=>x.2.2) h1) (by show ¬ (9:Int)=0;decide)
 rw [if_neg hm] at h1
 by_cases ha:(zk l1 (b.txs.getD 0 zTx) ((z03 k b).2.2.1.getD 0 0) b.height).2.2=0
 rotate_left
 ·rw [if_pos ha] at h1
  exact absurd (congrArg (fun x=>x.2.2) h1) ha
 rw [if_neg (fun k=>k ha)] at h1
 obtain ⟨rr,d⟩:=z9d ha
 have e1:(zk l1 (b.txs.getD 0 zTx) ((z03 k b).2.2.1.getD 0 0) b.height).1=m:=congrArg (fun x=>x.1) h1
 have e2:us1.set 0 ⟨(zk l1 (b.txs.getD 0 zTx) ((z03 k b).2.2.1.getD 0 0) b.height).2.1⟩=us:=congrArg (fun x=>x.2.1) h1
 generalize zk l1 (b.txs.getD 0 zTx) ((z03 k b).2.2.1.getD 0 0) b.height=q at *
 obtain ⟨m',sp,f⟩:=q
 simp only at e1 e2 d
 subst e1
 have hl0:=ok.some
 refine ⟨?_,(z0d l).1 hc,d.end_,?_,hb,hsh⟩
 ·unfold z42
  rw [if_neg (by rw [(z0d m').2 d.end_];decide),if_neg (fun k=>k he)]
  have hul:us.length=b.txs.length:=by rw [← e2,List.length_set,h2]
  rw [if_neg (by omega)]
  have hu0:us.getD 0 ⟨[]⟩=⟨sp⟩:=by rw [← e2];exact zfy (by omega)
  rw [hu0,d.back,if_neg (fun k=>k rfl),h5 us fun i hi=>by rw [← e2];exact getD_set_ne (by omega)]
  rfl
 ·have:=d.most
  omega
end
section
open Go.RowKit
set_option maxRecDepth 100000
theorem zfj {k:Book} {t:Tree} {n:Int} (h:(z0v k t n).2=0):zt k=0∧TreeOK t.names t.blocks∧(n=0∨0≤idx t.names n)∧(z0v k t n).1=z1f t.names t.blocks n∧z13 t n=(z1f t.names t.blocks n,0):=by
 unfold z0v at h ⊢
 by_cases hb:zt k=0
 rotate_left
 ·rw [if_pos hb] at h
  exact absurd h hb
 rw [if_neg (fun k=>k hb)] at h ⊢
 unfold z13 at h ⊢
 by_cases ht:z0n t=0
 rotate_left
 ·rw [if_pos ht] at h
  exact absurd h ht
 rw [if_neg (fun k=>k ht)] at h ⊢
 by_cases hn:n≠0∧idx t.names n<0
 ·rw [if_pos hn] at h
  exact absurd h (by show ¬ (5:Int)=0;decide)
 rw [if_neg hn]
 exact ⟨hb,(z1s _ _).1 ht,by omega,rfl,rfl⟩
theorem zjg {k:Book} {t:Tree} {n:Int} (hb:zt k=0) (ok:TreeOK t.names t.blocks) (hn:n=0∨0≤idx t.names n):z0v k t n=(z1f t.names t.blocks n,0):=by
 unfold z0v z13
 rw [if_neg (fun k=>k hb),if_neg (fun k=>k ((z1s _ _).2 ok)),if_neg (by omega)]
theorem z7l {k:Book} {t:Tree} {n:Int} {l:List Coin} (h:zx k t n=(l,0)):zt k=0∧TreeOK t.names t.blocks∧(n=0∨0≤idx t.names n)∧z0v k t n=(z1f t.names t.blocks n,0)∧z0l k t [] (z1f t.names t.blocks n)=(l,0):=by
 unfold zx at h
 by_cases he:(z0v k t n).2=0
 ·rw [if_neg (fun k=>k he)] at h
  obtain ⟨h1,h2,h3,h4,h5⟩:=zfj he
  rw [h4] at h
  exact ⟨h1,h2,h3,zjg h1 h2 h3,h⟩
 ·rw [if_pos he] at h
  exact absurd (congrArg (fun x=>x.2) h) he
theorem zjh {k:Book} {t:Tree} {n:Int} (hb:zt k=0) (ok:TreeOK t.names t.blocks) (hn:n=0∨0≤idx t.names n):zx k t n=z0l k t [] (z1f t.names t.blocks n):=by
 unfold zx
 rw [zjg hb ok hn]
 exact if_neg fun k=>k rfl
theorem zcg (k:Book) (t:Tree):∀ (p:List Int) (l m:List Coin) (r:List Int),z0l k t l p=(m,0)→z0l k t l (p++r)=z0l k t m r
 | [],l,m,r,h=>by
  rw [z0l] at h
  obtain rfl:l=m:=congrArg (fun x=>x.1) h
  rfl
 | n::p,l,m,r,h=>by
  rw [z0l] at h
  rw [List.cons_append,z0l]
  by_cases he:(z14 k l (zb t n)).2.2=0
  ·rw [if_neg (fun k=>k he)] at h ⊢
   exact zcg k t p _ m r h
  ·rw [if_pos he] at h
   exact absurd (congrArg (fun x=>x.2) h) he
theorem zbe (k:Book) (t:Tree):∀ (p:List Int) (l m:List Coin) (r:List Int),z0l k t l (p++r)=(m,0)→∃ q,z0l k t l p=(q,0)∧z0l k t q r=(m,0)
 | [],l,m,r,h=>⟨l,rfl,h⟩
 | n::p,l,m,r,h=>by
  rw [List.cons_append,z0l] at h
  rw [z0l]
  by_cases he:(z14 k l (zb t n)).2.2=0
  ·rw [if_neg (fun k=>k he)] at h ⊢
   exact zbe k t p _ m r h
  ·rw [if_pos he] at h
   exact absurd (congrArg (fun x=>x.2) h) he
theorem zq1 {k:Book} {t:Tree} {l m:List Coin} {n:Int} (h:z0l k t l [n]=(m,0)):∃ us,z14 k l (zb t n)=(m,us,0):=by
 rw [z0l,z0l] at h
 by_cases he:(z14 k l (zb t n)).2.2=0
 ·rw [if_neg (fun k=>k he)] at h
  generalize z14 k l (zb t n)=q at *
  obtain ⟨a,b,c⟩:=q
  simp only [Prod.mk.injEq,and_true] at h he
  subst h he
  exact ⟨_,rfl⟩
 ·rw [if_pos he] at h
  exact absurd (congrArg (fun x=>x.2) h) he
theorem z86 {t:Tree} {n:Int} (ok:TreeOK t.names t.blocks) (hn:0≤idx t.names n):(zb t n).parent=z16 t.names t.blocks n∧z1g t n=0∧zb t n=z2m t.blocks (idx t.names n):=by
 have e:z1g t n=0:=by
  unfold z1g
  rw [if_neg (fun k=>k ((z1s _ _).2 ok)),if_neg (by omega)]
 have e2:zb t n=z2m t.blocks (idx t.names n):=by unfold zb;rw [if_pos e]
 exact ⟨by rw [e2];rfl,e,e2⟩
theorem zm3 {k:Book} {t:Tree} {n:Int} {l:List Coin} (h:zx k t n=(l,0)) (hn:0≤idx t.names n):∃ q us,zx k t (zb t n).parent=(q,0)∧z14 k q (zb t n)=(l,us,0):=by
 obtain ⟨h1,h2,-,-,h5⟩:=z7l h
 obtain ⟨e1,-,-⟩:=z86 h2 hn
 obtain ⟨s1,s2,-⟩:=z50 h2 hn
 rw [s1] at h5
 obtain ⟨q,q1,q2⟩:=zbe k t _ _ _ _ h5
 obtain ⟨us,q3⟩:=zq1 q2
 exact ⟨q,us,by rw [e1,zjh h1 h2 s2,q1],q3⟩
theorem z08m {k:Book} {t:Tree} (hb:zt k=0) (ok:TreeOK t.names t.blocks) (K:List Coin→List Coin × Int) {p:List Int} {P:List Coin} (hp:z0l k t [] p=(P,0)):∀ (r:List Int) (n:Int) (A:List Coin),z1f t.names t.blocks n=p++r→(n=0∨0≤idx t.names n)→z0l k t P r=(A,0)→z2x k t K A r.reverse=K P:=by
 intro r
 generalize hs:r.reverse=s
 induction s generalizing r with
 | nil =>
  intro n A hr hn h
  obtain rfl:r=[]:=by simpa using hs
  rw [z0l] at h
  obtain rfl:P=A:=congrArg (fun x=>x.1) h
  rw [z2x]
 | cons v s ih =>
  intro n A hr hn h
  obtain rfl:r=s.reverse++[v]:=by
   have:=congrArg List.reverse hs
   simpa using this
  rcases hn with hn|hn
  ·rw [hn,z5u] at hr
   exact absurd (congrArg List.length hr) (by simp)
  obtain ⟨s1,s2,-⟩:=z50 ok hn
  rw [s1,← List.append_assoc] at hr
  obtain ⟨e1,e2⟩:=List.append_inj' hr rfl
  obtain rfl:n=v:=by simpa using e2
  obtain ⟨q,q1,q2⟩:=zbe k t _ _ _ _ h
  obtain ⟨us,q3⟩:=zq1 q2
  have hq:zx k t (zb t n).parent=(q,0):=by
   rw [(z86 ok hn).1,zjh hb ok s2,e1,zcg k t p [] P _ hp,q1]
  have hu:z0w k t (zb t n)=(us,0):=by
   unfold z0w
   rw [hq,q3]
   exact if_neg fun k=>k rfl
  rw [z2x,hu,(zq0 q3).1]
  simp only [ne_eq,not_true_eq_false,if_false]
  exact ih s.reverse (by simp) _ q e1 s2 q1
theorem z0az (x y:List Int):x.take (z0h x y)=y.take (z0h x y):=by
 induction x generalizing y with
 | nil=>unfold z0h;simp
 | cons a x ih =>
  cases y with
  | nil=>unfold z0h;simp
  | cons b y =>
   rw [z0h]
   by_cases e:a=b
   ·subst e
    rw [if_pos rfl,List.take_succ_cons,List.take_succ_cons,ih]
   ·rw [if_neg e];rfl
theorem zbf {k:Book} {t:Tree} {a b:Int} {A:List Coin} (h:zx k t a=(A,0)):zcf k t A a b=zx k t b:=by
 obtain ⟨h1,h2,h3,h4,h5⟩:=z7l h
 unfold zcf
 rw [z7v,h4,if_neg (fun k=>k rfl),z7v]
 show (if (z0v k t b).2≠0 then ([],(z0v k t b).2) else z7v k t (zai k t A) (z1f t.names t.blocks a,(z0v k t b).1) 2 [])=_
 unfold zx
 by_cases he:(z0v k t b).2=0
 rotate_left
 ·rw [if_pos he,if_pos he]
 rw [if_neg (fun k=>k he),if_neg (fun k=>k he)]
 obtain ⟨-,-,b3,b4,-⟩:=zfj he
 rw [z7v,b4]
 show zai k t A (z1f t.names t.blocks a) (z1f t.names t.blocks b)=_
 unfold zai
 generalize hx:z1f t.names t.blocks a=x at *
 generalize hy:z1f t.names t.blocks b=y at *
 have ht:=z0az x y
 generalize z0h x y=c at *
 rw [← List.take_append_drop c x] at h5
 obtain ⟨P,p1,p2⟩:=zbe k t _ _ _ _ h5
 rw [z08m h1 h2 _ p1 (x.drop c) a A (by rw [List.take_append_drop];exact hx) h3 p2]
 conv=>rhs;rw [← List.take_append_drop c y,← ht]
 exact (zcg k t _ _ _ _ p1).symm
theorem zji {t:Tree} (ok:TreeOK t.names t.blocks) (r:Nat):∀ n:Int,z5g t.names n≤r→0≤idx t.names n→(z2m t.blocks (idx t.names n)).height=((z1f t.names t.blocks n).length:Int):=by
 induction r with
 | zero =>
  intro n hr hn
  have:=(z50 ok hn).2.2
  omega
 | succ r ih =>
  intro n hr hn
  obtain ⟨s1,s2,s3⟩:=z50 ok hn
  obtain ⟨j,hj,hjs⟩:=zc9 hn
  have hlt:=(List.getElem?_eq_some_iff.1 hjs).1
  obtain ⟨-,-,-,e⟩:=zdf (ok.step j hlt)
  rw [s1,List.length_append,List.length_singleton]
  rw [show z16 t.names t.blocks n=(z2m t.blocks (idx t.names n)).parent from rfl] at *
  rw [hj] at s1 s2 s3 ⊢
  rcases zls e with ⟨e1,e2⟩|⟨e1,i,e2,e3,e4,e5⟩
  ·rw [e1,z5u,e2];rfl
  ·have:=ih (z2m t.blocks j).parent (by omega) (by omega)
   rw [e3] at this
   rw [e5,this]
   omega
theorem zym {t:Tree} {n m d:Int} (hm:0≤idx t.names m) (h:z27 t n m=(d,0)):z1g t n=0∧d=(zb t m).height - (zb t n).height∧(0≤(zb t m).height∧(zb t m).height≤24)∧0≤(zb t n).height∧(zb t n).height≤24:=by
 unfold z27 at h
 by_cases hp:(z13 t m).2=0
 rotate_left
 ·rw [if_pos hp] at h
  exact absurd (congrArg (fun x=>x.2) h) hp
 rw [if_neg (fun k=>k hp)] at h
 by_cases hi:idx (z13 t m).1 n<0
 ·rw [if_pos hi] at h
  exact absurd (congrArg (fun x=>x.2) h) (by show ¬ (5:Int)=0;decide)
 rw [if_neg hi] at h
 have hpp:z0n t=0:=by
  apply Classical.byContradiction
  intro h'
  unfold z13 at hp
  rw [if_pos h'] at hp
  exact h' hp
 have ok:=(z1s _ _).1 hpp
 have hpe:z13 t m=(z1f t.names t.blocks m,0):=by
  unfold z13
  rw [if_neg (fun k=>k hpp),if_neg (by omega)]
 rw [hpe] at h hi
 simp only [Prod.mk.injEq,and_true] at h
 obtain ⟨j,hj,hjs⟩:=zc9 (show 0≤idx (z1f t.names t.blocks m) n by simp only at hi;omega)
 obtain ⟨t1,t2⟩:=z059 ok _ (Nat.le_refl _) (.inr hm) hjs
 obtain ⟨-,b2,b3⟩:=z86 ok t2
 obtain ⟨-,-,c3⟩:=z86 ok hm
 refine ⟨b2,?_⟩
 have hl:=congrArg List.length t1
 rw [List.length_take] at hl
 have hlt:=(List.getElem?_eq_some_iff.1 hjs).1
 have g1:=zji ok _ n (Nat.le_refl _) t2
 have g2:=zji ok _ m (Nat.le_refl _) hm
 have l1:=zha ok (.inr t2)
 have l2:=zha ok (.inr hm)
 rw [b3,c3,g1,g2]
 exact ⟨by omega,by omega,by omega⟩
theorem z08n {t:Tree} {n m:Int} (h:(z13 t m).2=0):(z27 t n m).2=5∨(z27 t n m).2=0:=by
 unfold z27
 rw [if_neg (fun k=>k h)]
 split
 ·exact .inl rfl
 ·exact .inr rfl
end
end Go.Proofs.YtnklncinjahckaaGreatDoor
