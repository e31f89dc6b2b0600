/- Own texts, put together by wip/bundle.py: Copy, Copy2, Add, Work, PathR, Grown. -/
import Derived.Outline
import Derived.Deep.DeepCutAuto
import Derived.Test.YtnklncinjahckaaGreatDoorCPOwnB
set_option linter.unusedVariables false
set_option linter.unusedSimpArgs false
namespace Go.Proofs.YtnklncinjahckaaGreatDoor
section
open Go.RowKit
set_option maxRecDepth 100000
theorem Sep.cloned {P:Program} {w0 W:World} {F0:Nat→Prop} {Γ:List Res} (h:Sep w0 F0 Γ W) {α:Type} {S:Sh α} {xs:List α} {e n:Nat} {f:FuncId} {args:Array Value} (hn:xs.length=n) (hc:Calls P f args W (z7r S e W (Free w0.heap.size F0 Γ W) xs n)):Calls P f args W (RO w0 F0 Γ S e xs):=by
 refine hc.mono ?_
 rintro r W' ⟨v,zs,rfl,h1,h2,h3,h4⟩
 exact ⟨v,rfl,h.addRow (zdu h4) h1 (by rw [hn];exact h3) h2⟩
structure TxSmall (t:Tx):Prop where
 ins:t.ins.length≤1000
 outs:t.outs.length≤1000
 key:∀ x ∈ t.ins,x.key.length≤1000000
 lock:∀ x ∈ t.outs,x.lock.length≤1000000
structure BlockSmall (b:Block):Prop where
 txs:b.txs.length≤1000
 each:∀ t ∈ b.txs,TxSmall t
structure TreeSmall (t:Tree):Prop where
 names:t.names.length≤1000
 blocks:t.blocks.length≤1000
 each:∀ b ∈ t.blocks,BlockSmall b
theorem zf8 {α:Type} {l:List α} {k:Nat} {z:α} (h:l[k]? = some z):l.set k z=l:=by
 obtain ⟨h1,rfl⟩:=List.getElem?_eq_some_iff.1 h
 exact List.set_getElem_self h1
set_option maxHeartbeats 1000000 in
theorem zwo (t:Tx) (cs:List Value) {w0 W:World} {F0:Nat→Prop} {Γ:List Res} (hS:Sep w0 F0 Γ W) (ht:At Γ (rep t cs shTx)) (hb:TxSmall t) :
  Calls Tryz.prog 42 #[.agg cs.toArray] W (RS w0 F0 Γ shTx t):=by
 (have hO:=hS.open_tx (by repeat (exact ht));clear hS;obtain ⟨A,n,c,A2,n2,c2,rfl,i1,hS⟩:=hO)
 obtain ⟨th,ins,outs⟩:=t
 obtain ⟨hb1,hb2,hb3,hb4⟩:=hb
 simp only at hb1 hb2 hb3 hb4
 go_enter Tryz.func42,Tryz.ntmps42
 (go_wp2_with ((refine Sep.wbox hS (by rfl) rfl rfl ?_;clear hS;intro gt W hS;refine Stop.go ?_));refine Stop.mk ?_)
 (go_wp2_with ((refine Sep.walloc hS (by rfl) rfl (by exact z_tx) ?_;clear hS;intro gr W hS;refine Stop.go ?_));refine Stop.mk ?_)
 go_wp2_with fail
 (refine Sep.regionT hS [7,9] (by kernel_rfl) ?_;clear hS;intro W hS)
 (refine zy 0 rfl rfl (by ((apply Yl.pure;intro W;go_simp;with_reducible rfl))) (hS.sub (by repeat (with_reducible exact Sub.refl))) (by kernel_rfl) (fun _ _ _ h=>h) ?_;simp only [Act.put,List.setIfInBounds_toArray,List.set_cons_zero,List.set_cons_succ])
 (refine zy 1 rfl rfl (by (exact Yl.load1b rfl rfl (z08 rfl) (by repeat (first|with_reducible exact At.z|apply At.s)) rfl)) (hS.sub (by repeat (with_reducible exact Sub.refl))) (by kernel_rfl) (fun _ _ _ h=>h) ?_;simp only [Act.put,List.setIfInBounds_toArray,List.set_cons_zero,List.set_cons_succ])
 (refine zy 3 rfl rfl (by ((apply Yl.pure;intro W;go_simp;with_reducible rfl))) (hS.sub (by repeat (with_reducible exact Sub.refl))) (by kernel_rfl) (fun _ _ _ h=>h) ?_;simp only [Act.put,List.setIfInBounds_toArray,List.set_cons_zero,List.set_cons_succ])
 (refine zy 4 rfl rfl (by (exact Yl.load1b rfl rfl (z08 rfl) (by repeat (first|with_reducible exact At.z|apply At.s)) rfl)) (hS.sub (by repeat (with_reducible exact Sub.refl))) (by kernel_rfl) (fun _ _ _ h=>h) ?_;simp only [Act.put,List.setIfInBounds_toArray,List.set_cons_zero,List.set_cons_succ])
 refine z26 2 (by kernel_rfl) rfl ?_
 go_wp2_with fail
 refine (hS.cloned (hS.len (by repeat (first|with_reducible exact At.z|apply At.s))).1 (z09j _ _ _ _ _ _ (hS.getRds (by repeat (first|with_reducible exact At.z|apply At.s))) (fun b hb=>Free.lt hS hb) (by have:=hS.len (xs:=ins) (A:=A) (by repeat (first|with_reducible exact At.z|apply At.s));omega))).mono ?_
 clear hS;rintro e W ⟨v1,rfl,hS⟩
 go_wp2_with fail
 (refine ⟨fun _=>hS.sub (by repeat (first|with_reducible exact Sub.refl|refine Sub.take (by repeat (first|with_reducible exact Del.z|apply Del.s)) ?_|apply Sub.skip)),?_⟩;try simp only [Act.put,List.setIfInBounds_toArray,List.set_cons_zero,List.set_cons_succ])
 (refine zy 6 rfl rfl (by ((apply Yl.pure;intro W;go_simp;with_reducible rfl))) (hS.sub (by repeat (first|with_reducible exact Sub.refl|refine Sub.take (by repeat (first|with_reducible exact Del.z|apply Del.s)) ?_|apply Sub.skip))) (by kernel_rfl) (fun _ _ _ h=>h) ?_;simp only [Act.put,List.setIfInBounds_toArray,List.set_cons_zero,List.set_cons_succ])
 refine z26 5 (by kernel_rfl) rfl ?_
 go_wp2_with fail
 refine (hS.cloned (hS.len (by repeat (first|with_reducible exact At.z|apply At.s))).1 (z06r _ _ _ _ _ _ (hS.getRds (by repeat (first|with_reducible exact At.z|apply At.s))) (fun b hb=>Free.lt hS hb) (by have:=hS.len (xs:=outs) (A:=A2) (by repeat (first|with_reducible exact At.z|apply At.s));omega))).mono ?_
 clear hS;rintro e W ⟨v2,rfl,hS⟩
 go_wp2_with fail
 (refine ⟨fun _=>hS.sub (by repeat (first|with_reducible exact Sub.refl|refine Sub.take (by repeat (first|with_reducible exact Del.z|apply Del.s)) ?_|apply Sub.skip)),?_⟩;try simp only [Act.put,List.setIfInBounds_toArray,List.set_cons_zero,List.set_cons_succ])
 obtain ⟨A3,c3,rfl,_,_⟩:=hS.rowSlice (S:=shIn) (v:=v1) (by repeat (first|with_reducible exact At.z|apply At.s))
 obtain ⟨A4,c4,rfl,_,_⟩:=hS.rowSlice (S:=shOut) (v:=v2) (by repeat (with_reducible exact At.z))
 refine z26 7 (by kernel_rfl) rfl ?_
 go_wp2_with (((refine Sep.wstore1b hS rfl rfl rfl rfl (z08 rfl) rfl (by repeat (first|with_reducible exact At.z|apply At.s)) rfl rfl (by repeat (first|with_reducible exact Put.z|apply Put.s)) ?_;clear hS;intro W hS;simp only [Act.eval,Array.getD_eq_getD_getElem?,List.getElem?_toArray,List.getElem?_cons_succ,List.getElem?_cons_zero,Option.getD_some,List.set_cons_zero,List.set_cons_succ] at hS)))
 (refine ⟨fun h=>z3l (by kernel_rfl) h,?_⟩;try simp only [Act.put,List.setIfInBounds_toArray,List.set_cons_zero,List.set_cons_succ])
 refine z26 8 (by kernel_rfl) rfl ?_
 go_wp2_with ((first|(refine Sep.wbox hS rfl rfl rfl ?_;clear hS;intro g W hS)|(refine Sep.walloc hS rfl rfl (by exact zda) ?_;clear hS;intro g W hS)|(refine Sep.wload1b hS rfl rfl rfl (z08 rfl) (by repeat (first|with_reducible exact At.z|apply At.s)) rfl ?_)|(refine Sep.wloadNb hS rfl rfl rfl (by repeat (first|with_reducible exact At.z|apply At.s)) (zr rfl) ?_)|(refine Sep.wload1z hS rfl rfl rfl (z08 rfl) (by repeat (apply At.s)) rfl ?_)|(refine Sep.wload1c hS rfl rfl rfl (z08 rfl) (by repeat (apply At.s)) rfl ?_)|(refine Sep.wloadNz hS rfl rfl rfl (by repeat (apply At.s)) (zr rfl) ?_)|(refine Sep.wstore1b hS rfl rfl rfl rfl (z08 rfl) rfl (by repeat (first|with_reducible exact At.z|apply At.s)) rfl rfl (by repeat (first|with_reducible exact Put.z|apply Put.s)) ?_;clear hS;intro W hS;simp only [Act.eval,Array.getD_eq_getD_getElem?,List.getElem?_toArray,List.getElem?_cons_succ,List.getElem?_cons_zero,Option.getD_some,List.set_cons_zero,List.set_cons_succ] at hS)|(refine Sep.wstoreNb hS rfl rfl rfl rfl (zr rfl) (by simp [z3u,Value.oneCell']) (by repeat (first|with_reducible exact At.z|apply At.s)) (by rfl) (by repeat (first|with_reducible exact Put.z|apply Put.s)) ?_;clear hS;intro W hS)|(refine Sep.wloadNr hS rfl rfl rfl (by repeat (apply At.s)) (zr rfl) (by omega) ?_;clear hS;intro z cs hz hS;(first|(have hO:=hS.open_int (by first|with_reducible exact At.z|exact At.s At.z);obtain ⟨rfl,hI⟩:=hO)|(have hO:=hS.open_str (by first|with_reducible exact At.z|exact At.s At.z);obtain ⟨rfl,hI⟩:=hO)|(have hO:=hS.open_op (by first|with_reducible exact At.z|exact At.s At.z);obtain ⟨rfl,hI,hJ⟩:=hO)|(have hO:=hS.open_point (by first|with_reducible exact At.z|exact At.s At.z);obtain ⟨rfl,hI,hJ⟩:=hO)|(have hO:=hS.open_in (by first|with_reducible exact At.z|exact At.s At.z);clear hS;obtain ⟨A',n',c',rfl,hI,hJ,hS⟩:=hO)|(have hO:=hS.open_out (by first|with_reducible exact At.z|exact At.s At.z);clear hS;obtain ⟨A',n',c',rfl,hI,hS⟩:=hO)|(have hO:=hS.open_tx (by first|with_reducible exact At.z|exact At.s At.z);clear hS;obtain ⟨A',n',c',A2',n2',c2',rfl,hI,hS⟩:=hO)|(have hO:=hS.open_book (by first|with_reducible exact At.z|exact At.s At.z);clear hS;obtain ⟨A',n',c',rfl,hS⟩:=hO)|(have hO:=hS.open_undo (by first|with_reducible exact At.z|exact At.s At.z);clear hS;obtain ⟨A',n',c',rfl,hS⟩:=hO)|(have hO:=hS.open_coin (by first|with_reducible exact At.z|exact At.s At.z);clear hS;obtain ⟨A',n',c',rfl,hI,hJ,hK,hL,hS⟩:=hO)|(have hO:=hS.open_block (by first|with_reducible exact At.z|exact At.s At.z);clear hS;obtain ⟨A',n',c',rfl,hI,hJ,hK,hL,hS⟩:=hO)|(have hO:=hS.open_tree (by first|with_reducible exact At.z|exact At.s At.z);clear hS;obtain ⟨A',n',c',A2',n2',c2',rfl,hS⟩:=hO)|(have hO:=hS.open_node (by first|with_reducible exact At.z|exact At.s At.z);clear hS;obtain ⟨A',n',c',A2',n2',c2',A3',n3',c3',rfl,hI,hS⟩:=hO)))|((first|refine Sep.windexN hS rfl rfl rfl rfl (by repeat (first|with_reducible exact At.z|apply At.s)) (by exact zlp) (by omega) ?_|refine Sep.windex hS rfl rfl rfl rfl (by repeat (first|with_reducible exact At.z|apply At.s)) (by exact zlp) (by omega) (by omega) ?_);clear hS;intro b q z cs hz hS;(first|(have hO:=hS.open_int (At.s At.z);obtain ⟨rfl,hI⟩:=hO)|(have hO:=hS.open_str (At.s At.z);obtain ⟨rfl,hI⟩:=hO)|(have hO:=hS.open_op (At.s At.z);obtain ⟨rfl,hI,hJ⟩:=hO)|(have hO:=hS.open_point (At.s At.z);obtain ⟨rfl,hI,hJ⟩:=hO)|(have hO:=hS.open_in (At.s At.z);clear hS;obtain ⟨A',n',c',rfl,hI,hJ,hS⟩:=hO)|(have hO:=hS.open_out (At.s At.z);clear hS;obtain ⟨A',n',c',rfl,hI,hS⟩:=hO)|(have hO:=hS.open_tx (At.s At.z);clear hS;obtain ⟨A',n',c',A2',n2',c2',rfl,hI,hS⟩:=hO)|(have hO:=hS.open_book (At.s At.z);clear hS;obtain ⟨A',n',c',rfl,hS⟩:=hO)|(have hO:=hS.open_undo (At.s At.z);clear hS;obtain ⟨A',n',c',rfl,hS⟩:=hO)|(have hO:=hS.open_coin (At.s At.z);clear hS;obtain ⟨A',n',c',rfl,hI,hJ,hK,hL,hS⟩:=hO)|(have hO:=hS.open_block (At.s At.z);clear hS;obtain ⟨A',n',c',rfl,hI,hJ,hK,hL,hS⟩:=hO)|(have hO:=hS.open_tree (At.s At.z);clear hS;obtain ⟨A',n',c',A2',n2',c2',rfl,hS⟩:=hO)|(have hO:=hS.open_node (At.s At.z);clear hS;obtain ⟨A',n',c',A2',n2',c2',A3',n3',c3',rfl,hI,hS⟩:=hO)))))
 (refine ⟨fun h=>z3l (by kernel_rfl) h,?_⟩;try simp only [Act.put,List.setIfInBounds_toArray,List.set_cons_zero,List.set_cons_succ])
 refine z26 9 (by kernel_rfl) rfl ?_
 go_wp2_with (((refine Sep.wstore1b hS rfl rfl rfl rfl (z08 rfl) rfl (by repeat (first|with_reducible exact At.z|apply At.s)) rfl rfl (by repeat (first|with_reducible exact Put.z|apply Put.s)) ?_;clear hS;intro W hS;simp only [Act.eval,Array.getD_eq_getD_getElem?,List.getElem?_toArray,List.getElem?_cons_succ,List.getElem?_cons_zero,Option.getD_some,List.set_cons_zero,List.set_cons_succ] at hS)))
 (refine ⟨fun h=>z3l (by kernel_rfl) h,?_⟩;try simp only [Act.put,List.setIfInBounds_toArray,List.set_cons_zero,List.set_cons_succ])
 refine z3o (by kernel_rfl) ?_
 go_wp2_with (((refine Sep.wload1b hS (by rfl) rfl rfl (z08 rfl) (by repeat (first|with_reducible exact At.z|apply At.s)) rfl ?_)))
 go_loopw [3,4,18] (fun _ _ i wr=>∃ k:Nat,k≤ins.length∧i = .int .i64 k∧Sep w0 F0 (row 84 (.slice A4 outs.length c4) outs shOut::row 90 (.slice A3 ins.length c3) ins shIn::box gr [.int .i64 0,.slice none 0 0,.slice none 0 0] 59::box gt [.int .i64 th,.slice A3 ins.length c3,.slice A4 outs.length c4] 59::Γ) wr) (fun _ _ i _=>ins.length - (intOf i).toNat)
 case atStart=>exact ⟨0,by omega,rfl,hS.sub (by repeat (first|with_reducible exact Sub.refl|refine Sub.take (by repeat (first|with_reducible exact Del.z|apply Del.s)) ?_|apply Sub.skip))⟩
 case round =>
  clear hS
  obtain ⟨k,hk,rfl,hS⟩:=hrel
  rcases Classical.em (k<ins.length) with hlt|hlt
  ·obtain ⟨g,rfl,_,_,_⟩:=hS.rowSome (S:=shIn) (k:=k) (by repeat (first|with_reducible exact At.z|apply At.s)) hlt
   have i1:(0:Int)≤(k:Int):=by omega
   have i2:(k:Int)<(ins.length:Int):=by omega
   (go_wp2_with (first|(refine Sep.wbox hS rfl rfl rfl ?_;clear hS;intro gx W hS;refine Stop.go ?_)|(refine Sep.walloc hS rfl rfl (by first|exact zda|exact z_in) ?_;clear hS;intro gx W hS;refine Stop.go ?_)|((refine Sep.wloadNr hS rfl rfl rfl (by repeat (first|with_reducible exact At.z|apply At.s)) (zr rfl) (by omega) ?_;clear hS;intro z cs hz hS;((have hO:=hS.open_in (by with_reducible exact At.z);clear hS;obtain ⟨A',n',c',rfl,hI,hJ,hS⟩:=hO)))));refine Stop.mk ?_)
   go_wp2_with (((refine Sep.wstoreNb hS (by rfl) rfl rfl rfl (zr rfl) (by simp [z3u,Value.oneCell']) (by repeat (with_reducible exact At.z)) (by rfl) (by repeat (with_reducible exact Put.z)) ?_;clear hS;intro W hS)))
   (refine Sep.regionT hS [8] (by kernel_rfl) ?_;clear hS;intro W hS)
   (refine zy 0 rfl rfl (by ((apply Yl.pure;intro W;go_simp;with_reducible rfl))) (hS.sub (by repeat (with_reducible exact Sub.refl))) (by kernel_rfl) (fun _ _ _ h=>h) ?_;simp only [Act.put,List.setIfInBounds_toArray,List.set_cons_zero,List.set_cons_succ])
   (refine zy 1 rfl rfl (by (exact Yl.load1b rfl rfl (z08 rfl) (by repeat (first|with_reducible exact At.z|apply At.s)) rfl)) (hS.sub (by repeat (with_reducible exact Sub.refl))) (by kernel_rfl) (fun _ _ _ h=>h) ?_;simp only [Act.put,List.setIfInBounds_toArray,List.set_cons_zero,List.set_cons_succ])
   (refine zy 2 rfl rfl (by (exact Yl.move rfl)) (hS.sub (by repeat (with_reducible exact Sub.refl))) (by kernel_rfl) (fun _ _ _ h=>h) ?_;simp only [Act.put,List.setIfInBounds_toArray,List.set_cons_zero,List.set_cons_succ])
   (refine zy 3 rfl rfl (by ((apply Yl.pure;intro W;go_simp;with_reducible rfl))) (hS.sub (by repeat (with_reducible exact Sub.refl))) (by kernel_rfl) (fun _ _ _ h=>h) ?_;simp only [Act.put,List.setIfInBounds_toArray,List.set_cons_zero,List.set_cons_succ])
   (refine zy 4 rfl rfl (by (exact Yl.load1b rfl rfl (z08 rfl) (by repeat (with_reducible exact At.z)) rfl)) (hS.sub (by repeat (with_reducible exact Sub.refl))) (by kernel_rfl) (fun _ _ _ h=>h) ?_;simp only [Act.put,List.setIfInBounds_toArray,List.set_cons_zero,List.set_cons_succ])
   refine z26 5 (by kernel_rfl) rfl ?_
   go_wp2_with fail
   refine (hS.cloned (hS.len (by repeat (first|with_reducible exact At.z|apply At.s))).1 (zjv _ _ _ _ _ _ (hS.getRds (by repeat (first|with_reducible exact At.z|apply At.s))) (fun b hb=>Free.lt hS hb) (by have:=hS.len (xs:=z.key) (A:=A') (by repeat (first|with_reducible exact At.z|apply At.s));have:=hb3 z (List.mem_of_getElem? hz.out);omega))).mono ?_
   clear hS;rintro e W ⟨v3,rfl,hS⟩
   go_wp2_with fail
   (refine ⟨fun _=>hS.sub (by repeat (first|with_reducible exact Sub.refl|refine Sub.take (by repeat (first|with_reducible exact Del.z|apply Del.s)) ?_|apply Sub.skip)),?_⟩;try simp only [Act.put,List.setIfInBounds_toArray,List.set_cons_zero,List.set_cons_succ])
   obtain ⟨A5,n5,c5,rfl,-,hS⟩:=hS.freezeRow (S:=shOp) (v:=v3) (by repeat (with_reducible exact Del.z))
   (refine zy 6 rfl rfl (by ((apply Yl.pure;intro W;go_simp;with_reducible rfl))) (hS.sub (by repeat (first|with_reducible exact Sub.refl|refine Sub.take (by repeat (first|with_reducible exact Del.z|apply Del.s)) ?_|apply Sub.skip))) (by kernel_rfl) (fun _ _ _ h=>h) ?_;simp only [Act.put,List.setIfInBounds_toArray,List.set_cons_zero,List.set_cons_succ])
   (refine zy 7 rfl rfl (by ((apply Yl.pure;intro W;go_simp;with_reducible rfl))) (hS.sub (by repeat (first|with_reducible exact Sub.refl|refine Sub.take (by repeat (first|with_reducible exact Del.z|apply Del.s)) ?_|apply Sub.skip))) (by kernel_rfl) (fun _ _ _ h=>h) ?_;simp only [Act.put,List.setIfInBounds_toArray,List.set_cons_zero,List.set_cons_succ])
   refine z26 8 (by kernel_rfl) rfl ?_
   refine Sep.wstore1r hS rfl rfl (S:=shIn) (z':=z) (k:=k) (j:=2) rfl rfl (z08 rfl) rfl (by repeat (first|with_reducible exact Del.z|apply Del.s)) hz.out (by decide) ?_ ?_
   ·intro cs hr
    obtain ⟨A6,n6,c6,rfl,h1,h2,h3⟩:=zsp hr
    exact z0fe h1 h2 ((hS.front (by repeat (first|with_reducible exact Del.z|apply Del.s))).getRds (by repeat (first|with_reducible exact At.z|apply At.s)))
   clear hS;intro W hS
   go_wp2_with fail
   (refine ⟨fun h=>z3l (by kernel_rfl) h,?_⟩;try simp only [Act.put,List.setIfInBounds_toArray,List.set_cons_zero,List.set_cons_succ])
   refine z3o (by kernel_rfl) ?_
   go_wp2_with fail
   rw [zf8 hz.out] at hS
   go_roundw
   case measure=>simp [intOf];omega
   case rel=>exact ⟨k+1,by omega,by go_num,hS.sub (by repeat (first|with_reducible exact Sub.refl|refine Sub.take (by repeat (first|with_reducible exact Del.z|apply Del.s)) ?_|apply Sub.skip))⟩
  ·obtain rfl:k=ins.length:=by omega
   go_wp2_with (((refine Sep.wload1b hS (by rfl) rfl rfl (z08 rfl) (by repeat (first|with_reducible exact At.z|apply At.s)) rfl ?_)))
   go_loopw [5,6,35] (fun _ _ i wr=>∃ k:Nat,k≤outs.length∧i = .int .i64 k∧Sep w0 F0 (row 84 (.slice A4 outs.length c4) outs shOut::row 90 (.slice A3 ins.length c3) ins shIn::box gr [.int .i64 0,.slice none 0 0,.slice none 0 0] 59::box gt [.int .i64 th,.slice A3 ins.length c3,.slice A4 outs.length c4] 59::Γ) wr) (fun _ _ i _=>outs.length - (intOf i).toNat)
   case atStart=>exact ⟨0,by omega,rfl,hS.sub (by repeat (with_reducible exact Sub.refl))⟩
   case round =>
    clear hS
    obtain ⟨k,hk,rfl,hS⟩:=hrel
    rcases Classical.em (k<outs.length) with hlt|hlt
    ·obtain ⟨g,rfl,_,_,_⟩:=hS.rowSome (S:=shOut) (k:=k) (by repeat (with_reducible exact At.z)) hlt
     have i1:(0:Int)≤(k:Int):=by omega
     have i2:(k:Int)<(outs.length:Int):=by omega
     (go_wp2_with (first|(refine Sep.wbox hS rfl rfl rfl ?_;clear hS;intro gx W hS;refine Stop.go ?_)|(refine Sep.walloc hS rfl rfl (by first|exact zda|exact z0be) ?_;clear hS;intro gx W hS;refine Stop.go ?_)|((refine Sep.wloadNr hS rfl rfl rfl (by repeat (first|with_reducible exact At.z|apply At.s)) (zr rfl) (by omega) ?_;clear hS;intro z cs hz hS;((have hO:=hS.open_out (by with_reducible exact At.z);clear hS;obtain ⟨A',n',c',rfl,hI,hS⟩:=hO)))));refine Stop.mk ?_)
     go_wp2_with (((refine Sep.wstoreNb hS (by rfl) rfl rfl rfl (zr rfl) (by simp [z3u,Value.oneCell']) (by repeat (with_reducible exact At.z)) (by rfl) (by repeat (with_reducible exact Put.z)) ?_;clear hS;intro W hS)))
     (refine Sep.regionT hS [8] (by kernel_rfl) ?_;clear hS;intro W hS)
     (refine zy 0 rfl rfl (by ((apply Yl.pure;intro W;go_simp;with_reducible rfl))) (hS.sub (by repeat (with_reducible exact Sub.refl))) (by kernel_rfl) (fun _ _ _ h=>h) ?_;simp only [Act.put,List.setIfInBounds_toArray,List.set_cons_zero,List.set_cons_succ])
     (refine zy 1 rfl rfl (by (exact Yl.load1b rfl rfl (z08 rfl) (by repeat (first|with_reducible exact At.z|apply At.s)) rfl)) (hS.sub (by repeat (with_reducible exact Sub.refl))) (by kernel_rfl) (fun _ _ _ h=>h) ?_;simp only [Act.put,List.setIfInBounds_toArray,List.set_cons_zero,List.set_cons_succ])
     (refine zy 2 rfl rfl (by (exact Yl.move rfl)) (hS.sub (by repeat (with_reducible exact Sub.refl))) (by kernel_rfl) (fun _ _ _ h=>h) ?_;simp only [Act.put,List.setIfInBounds_toArray,List.set_cons_zero,List.set_cons_succ])
     (refine zy 3 rfl rfl (by ((apply Yl.pure;intro W;go_simp;with_reducible rfl))) (hS.sub (by repeat (with_reducible exact Sub.refl))) (by kernel_rfl) (fun _ _ _ h=>h) ?_;simp only [Act.put,List.setIfInBounds_toArray,List.set_cons_zero,List.set_cons_succ])
     (refine zy 4 rfl rfl (by (exact Yl.load1b rfl rfl (z08 rfl) (by repeat (with_reducible exact At.z)) rfl)) (hS.sub (by repeat (with_reducible exact Sub.refl))) (by kernel_rfl) (fun _ _ _ h=>h) ?_;simp only [Act.put,List.setIfInBounds_toArray,List.set_cons_zero,List.set_cons_succ])
     refine z26 5 (by kernel_rfl) rfl ?_
     go_wp2_with fail
     refine (hS.cloned (hS.len (by repeat (first|with_reducible exact At.z|apply At.s))).1 (zjv _ _ _ _ _ _ (hS.getRds (by repeat (first|with_reducible exact At.z|apply At.s))) (fun b hb=>Free.lt hS hb) (by have:=hS.len (xs:=z.lock) (A:=A') (by repeat (first|with_reducible exact At.z|apply At.s));have:=hb4 z (List.mem_of_getElem? hz.out);omega))).mono ?_
     clear hS;rintro e W ⟨v3,rfl,hS⟩
     go_wp2_with fail
     (refine ⟨fun _=>hS.sub (by repeat (first|with_reducible exact Sub.refl|refine Sub.take (by repeat (first|with_reducible exact Del.z|apply Del.s)) ?_|apply Sub.skip)),?_⟩;try simp only [Act.put,List.setIfInBounds_toArray,List.set_cons_zero,List.set_cons_succ])
     obtain ⟨A5,n5,c5,rfl,-,hS⟩:=hS.freezeRow (S:=shOp) (v:=v3) (by repeat (with_reducible exact Del.z))
     (refine zy 6 rfl rfl (by ((apply Yl.pure;intro W;go_simp;with_reducible rfl))) (hS.sub (by repeat (first|with_reducible exact Sub.refl|refine Sub.take (by repeat (first|with_reducible exact Del.z|apply Del.s)) ?_|apply Sub.skip))) (by kernel_rfl) (fun _ _ _ h=>h) ?_;simp only [Act.put,List.setIfInBounds_toArray,List.set_cons_zero,List.set_cons_succ])
     (refine zy 7 rfl rfl (by ((apply Yl.pure;intro W;go_simp;with_reducible rfl))) (hS.sub (by repeat (first|with_reducible exact Sub.refl|refine Sub.take (by repeat (first|with_reducible exact Del.z|apply Del.s)) ?_|apply Sub.skip))) (by kernel_rfl) (fun _ _ _ h=>h) ?_;simp only [Act.put,List.setIfInBounds_toArray,List.set_cons_zero,List.set_cons_succ])
     refine z26 8 (by kernel_rfl) rfl ?_
     refine Sep.wstore1r hS rfl rfl (S:=shOut) (z':=z) (k:=k) (j:=1) rfl rfl (z08 rfl) rfl (by repeat (first|with_reducible exact Del.z|apply Del.s)) hz.out (by decide) ?_ ?_
     ·intro cs hr
      obtain ⟨A6,n6,c6,rfl,h1,h2⟩:=zi7 hr
      exact z0e0 h1 ((hS.front (by repeat (first|with_reducible exact Del.z|apply Del.s))).getRds (by repeat (first|with_reducible exact At.z|apply At.s)))
     clear hS;intro W hS
     go_wp2_with fail
     (refine ⟨fun h=>z3l (by kernel_rfl) h,?_⟩;try simp only [Act.put,List.setIfInBounds_toArray,List.set_cons_zero,List.set_cons_succ])
     refine z3o (by kernel_rfl) ?_
     go_wp2_with fail
     rw [zf8 hz.out] at hS
     go_roundw
     case measure=>simp [intOf];omega
     case rel=>exact ⟨k+1,by omega,by go_num,hS.sub (by repeat (first|with_reducible exact Sub.refl|refine Sub.take (by repeat (first|with_reducible exact Del.z|apply Del.s)) ?_|apply Sub.skip))⟩
    ·obtain rfl:k=outs.length:=by omega
     go_wp2_with ((first|(refine Sep.wloadNb hS (by rfl) rfl rfl (by repeat (first|with_reducible exact At.z|apply At.s)) (zr rfl) ?_)|(refine Sep.wstoreNb hS (by rfl) rfl rfl rfl (zr rfl) (by simp [z3u,Value.oneCell']) (by repeat (first|with_reducible exact At.z|apply At.s)) (by rfl) (by repeat (first|with_reducible exact Put.z|apply Put.s)) ?_;clear hS;intro W hS)))
     refine bodyPost_ret (zk0 rfl (by exact Got.boxN hS rfl (by repeat (first|with_reducible exact At.z|apply At.s)) (zr rfl))) rfl ?_
     obtain ⟨A7,n7,c7,e7,-,hS⟩:=hS.freezeRow (S:=shIn) (xs:=ins) (e:=90) (by repeat (first|with_reducible exact Del.z|apply Del.s))
     obtain ⟨A8,n8,c8,e8,-,hS⟩:=hS.freezeRow (S:=shOut) (xs:=outs) (e:=84) (by repeat (first|with_reducible exact Del.z|apply Del.s))
     simp only [Value.slice.injEq] at e7 e8
     obtain ⟨rfl,rfl,rfl⟩:=e7
     obtain ⟨rfl,rfl,rfl⟩:=e8
     have hS:=hS.mk_tx (k:=th) (ins:=ins) (outs:=outs) (by repeat (first|with_reducible exact At.z|apply At.s)) (by repeat (with_reducible exact At.z)) i1
     exact ⟨_,rfl,hS.sub (by repeat (first|with_reducible exact Sub.refl|refine Sub.take (by repeat (first|with_reducible exact Del.z|apply Del.s)) ?_|apply Sub.skip))⟩
end
section
open Go.RowKit
set_option maxRecDepth 100000
set_option maxHeartbeats 1000000 in
theorem zde (b:Block) (cs:List Value) {w0 W:World} {F0:Nat→Prop} {Γ:List Res} (hS:Sep w0 F0 Γ W) (ht:At Γ (rep b cs shBlock)) (hb:BlockSmall b) :
  Calls Tryz.prog 56 #[.agg cs.toArray] W (RS w0 F0 Γ shBlock b):=by
 (have hO:=hS.open_block (by repeat (exact ht));clear hS;obtain ⟨A,n,c,rfl,i1,i2,i3,i4,hS⟩:=hO)
 obtain ⟨bp,bh,bw,bn,txs⟩:=b
 obtain ⟨hb1,hb2⟩:=hb
 simp only at hb1 hb2 i1 i2 i3 i4
 go_enter Tryz.func56,Tryz.ntmps56
 (go_wp2_with ((refine Sep.wbox hS (by rfl) rfl rfl ?_;clear hS;intro gt W hS;refine Stop.go ?_));refine Stop.mk ?_)
 (go_wp2_with ((refine Sep.walloc hS (by rfl) rfl (by exact zn7) ?_;clear hS;intro gr W hS;refine Stop.go ?_));refine Stop.mk ?_)
 go_wp2_with (((refine Sep.wload1b hS (by rfl) rfl rfl (z08 rfl) (by repeat (first|with_reducible exact At.z|apply At.s)) rfl ?_)))
 refine (hS.cloned (hS.len (by repeat (first|with_reducible exact At.z|apply At.s))).1 (z09k _ _ _ _ _ _ (hS.getRds (by repeat (first|with_reducible exact At.z|apply At.s))) (fun b hb=>Free.lt hS hb) (by have:=hS.len (xs:=txs) (A:=A) (by repeat (first|with_reducible exact At.z|apply At.s));omega))).mono ?_
 clear hS;rintro e W ⟨v1,rfl,hS⟩
 obtain ⟨A3,c3,rfl,_,_⟩:=hS.rowSlice (S:=shTx) (v:=v1) (by repeat (with_reducible exact At.z))
 go_wp2_with ((first|(refine Sep.wload1b hS rfl rfl rfl (z08 rfl) (by repeat (first|with_reducible exact At.z|apply At.s)) rfl ?_)|(refine Sep.wstore1b hS rfl rfl rfl rfl (z08 rfl) rfl (by repeat (first|with_reducible exact At.z|apply At.s)) rfl rfl (by repeat (first|with_reducible exact Put.z|apply Put.s)) ?_;clear hS;intro W hS;simp only [Act.eval,Array.getD_eq_getD_getElem?,List.getElem?_toArray,List.getElem?_cons_succ,List.getElem?_cons_zero,Option.getD_some,List.set_cons_zero,List.set_cons_succ] at hS)))
 go_loopw [3,4,12] (fun _ _ i wr=>∃ k:Nat,k≤txs.length∧i = .int .i64 k∧Sep w0 F0 (row 59 (.slice A3 txs.length c3) txs shTx::box gr [.int .i64 0,.int .i64 0,.int .i64 0,.int .i64 0,.slice none 0 0] 36::box gt [.int .i64 bp,.int .i64 bh,.int .i64 bw,.int .i64 bn,.slice A3 txs.length c3] 36::Γ) wr) (fun _ _ i _=>txs.length - (intOf i).toNat)
 case atStart=>exact ⟨0,by omega,rfl,hS.sub (by repeat (first|with_reducible exact Sub.refl|refine Sub.take (by repeat (first|with_reducible exact Del.z|apply Del.s)) ?_|apply Sub.skip))⟩
 case round =>
  clear hS
  obtain ⟨k,hk,rfl,hS⟩:=hrel
  rcases Classical.em (k<txs.length) with hlt|hlt
  ·obtain ⟨g,rfl,_,_,_⟩:=hS.rowSome (S:=shTx) (k:=k) (by repeat (with_reducible exact At.z)) hlt
   have j1:(0:Int)≤(k:Int):=by omega
   have j2:(k:Int)<(txs.length:Int):=by omega
   (go_wp2_with (first|(refine Sep.wbox hS rfl rfl rfl ?_;clear hS;intro gx W hS;refine Stop.go ?_)|(refine Sep.walloc hS rfl rfl (by first|exact zda|exact z_tx) ?_;clear hS;intro gx W hS;refine Stop.go ?_)|((refine Sep.wloadNr hS rfl rfl rfl (by repeat (first|with_reducible exact At.z|apply At.s)) (zr rfl) (by omega) ?_;clear hS;intro z cs hz hS;((have hO:=hS.open_tx (by with_reducible exact At.z);clear hS;obtain ⟨A',n',c',A2',n2',c2',rfl,hI,hS⟩:=hO)))));refine Stop.mk ?_)
   go_wp2_with (((refine Sep.wstoreNb hS (by rfl) rfl rfl rfl (zr rfl) (by simp [z3u,Value.oneCell']) (by repeat (with_reducible exact At.z)) (by rfl) (by repeat (with_reducible exact Put.z)) ?_;clear hS;intro W hS)))
   (refine Sep.regionT hS [6] (by kernel_rfl) ?_;clear hS;intro W hS)
   (refine zy 0 rfl rfl (by ((apply Yl.pure;intro W;go_simp;with_reducible rfl))) (hS.sub (by repeat (with_reducible exact Sub.refl))) (by kernel_rfl) (fun _ _ _ h=>h) ?_;simp only [Act.put,List.setIfInBounds_toArray,List.set_cons_zero,List.set_cons_succ])
   (refine zy 1 rfl rfl (by (exact Yl.load1b rfl rfl (z08 rfl) (by repeat (first|with_reducible exact At.z|apply At.s)) rfl)) (hS.sub (by repeat (with_reducible exact Sub.refl))) (by kernel_rfl) (fun _ _ _ h=>h) ?_;simp only [Act.put,List.setIfInBounds_toArray,List.set_cons_zero,List.set_cons_succ])
   (refine zy 2 rfl rfl (by (exact Yl.move rfl)) (hS.sub (by repeat (with_reducible exact Sub.refl))) (by kernel_rfl) (fun _ _ _ h=>h) ?_;simp only [Act.put,List.setIfInBounds_toArray,List.set_cons_zero,List.set_cons_succ])
   (refine zy 3 rfl rfl (by (exact Yl.loadNb rfl rfl (by repeat (with_reducible exact At.z)) (zr rfl))) (hS.sub (by repeat (with_reducible exact Sub.refl))) (by kernel_rfl) (fun _ _ _ h=>h) ?_;simp only [Act.put,List.setIfInBounds_toArray,List.set_cons_zero,List.set_cons_succ])
   refine z26 4 (by kernel_rfl) rfl ?_
   go_wp2_with fail
   refine (zwo z [_,_,_] hS (by repeat (first|with_reducible exact At.z|apply At.s)) (hb2 z (List.mem_of_getElem? hz.out))).mono ?_
   clear hS;rintro e W ⟨cs,rfl,hS⟩
   go_wp2_with fail
   (refine ⟨fun _=>hS.sub (by repeat (first|with_reducible exact Sub.refl|refine Sub.take (by repeat (first|with_reducible exact Del.z|apply Del.s)) ?_|apply Sub.skip)),?_⟩;try simp only [Act.put,List.setIfInBounds_toArray,List.set_cons_zero,List.set_cons_succ])
   (refine zy 5 rfl rfl (by ((apply Yl.pure;intro W;go_simp;with_reducible rfl))) (hS.sub (by repeat (first|with_reducible exact Sub.refl|refine Sub.take (by repeat (first|with_reducible exact Del.z|apply Del.s)) ?_|apply Sub.skip))) (by kernel_rfl) (fun _ _ _ h=>h) ?_;simp only [Act.put,List.setIfInBounds_toArray,List.set_cons_zero,List.set_cons_succ])
   refine z26 6 (by kernel_rfl) rfl ?_
   refine Sep.wstoreNr hS rfl rfl z031 (z':=z) (k:=k) rfl rfl (zr rfl) (by repeat (first|with_reducible exact Del.z|apply Del.s)) hz.out (by repeat (with_reducible exact At.z)) ?_
   clear hS;intro W hS
   go_wp2_with fail
   (refine ⟨fun h=>z3l (by kernel_rfl) h,?_⟩;try simp only [Act.put,List.setIfInBounds_toArray,List.set_cons_zero,List.set_cons_succ])
   refine z3o (by kernel_rfl) ?_
   go_wp2_with fail
   rw [zf8 hz.out] at hS
   go_roundw
   case measure=>simp [intOf];omega
   case rel=>exact ⟨k+1,by omega,by go_num,hS.sub (by repeat (first|with_reducible exact Sub.refl|refine Sub.take (by repeat (first|with_reducible exact Del.z|apply Del.s)) ?_|apply Sub.skip))⟩
  ·obtain rfl:k=txs.length:=by omega
   go_wp2_with ((first|(refine Sep.wloadNb hS (by rfl) rfl rfl (by repeat (first|with_reducible exact At.z|apply At.s)) (zr rfl) ?_)|(refine Sep.wstoreNb hS (by rfl) rfl rfl rfl (zr rfl) (by simp [z3u,Value.oneCell']) (by repeat (first|with_reducible exact At.z|apply At.s)) (by rfl) (by repeat (first|with_reducible exact Put.z|apply Put.s)) ?_;clear hS;intro W hS)))
   refine bodyPost_ret (zk0 rfl (by exact Got.boxN hS rfl (by repeat (first|with_reducible exact At.z|apply At.s)) (zr rfl))) rfl ?_
   obtain ⟨A7,n7,c7,e7,-,hS⟩:=hS.freezeRow (S:=shTx) (xs:=txs) (e:=59) (by repeat (with_reducible exact Del.z))
   simp only [Value.slice.injEq] at e7
   obtain ⟨rfl,rfl,rfl⟩:=e7
   have hS:=hS.mk_block (txs:=txs) (by repeat (with_reducible exact At.z)) i1 i2 i3 i4
   exact ⟨_,rfl,hS.sub (by repeat (first|with_reducible exact Sub.refl|refine Sub.take (by repeat (first|with_reducible exact Del.z|apply Del.s)) ?_|apply Sub.skip))⟩
def z0fx (w0:World) (F0:Nat→Prop) (Γ:List Res) (ti tb:Nat) (ns:List Int) (bs:List Block) (e:Ending) (W:World):Prop:=∃ A n c A' n' c',e = .returned (.agg #[.slice A n c,.slice A' n' c'])∧Sep w0 F0 (row ti (.slice A n c) ns shInt::row tb (.slice A' n' c') bs shBlock::Γ) W
set_option maxHeartbeats 1000000 in
theorem z054 (t:Tree) (cs:List Value) {w0 W:World} {F0:Nat→Prop} {Γ:List Res} (hS:Sep w0 F0 Γ W) (ht:At Γ (rep t cs shTree)) (hb:TreeSmall t) :
  Calls Tryz.prog 111 #[.agg cs.toArray] W (z0fx w0 F0 Γ 3 36 t.names t.blocks):=by
 (have hO:=hS.open_tree (by repeat (exact ht));clear hS;obtain ⟨A,n,c,A2,n2,c2,rfl,hS⟩:=hO)
 obtain ⟨ns,bs⟩:=t
 obtain ⟨hb1,hb2,hb3⟩:=hb
 simp only at hb1 hb2 hb3
 go_enter Tryz.func111,Tryz.ntmps111
 (go_wp2_with ((refine Sep.wbox hS (by rfl) rfl rfl ?_;clear hS;intro gt W hS;refine Stop.go ?_));refine Stop.mk ?_)
 (go_wp2_with ((refine Sep.walloc hS (by rfl) rfl (by exact z07e) ?_;clear hS;intro gr W hS;refine Stop.go ?_));refine Stop.mk ?_)
 go_wp2_with fail
 (refine Sep.regionT hS [7,9] (by kernel_rfl) ?_;clear hS;intro W hS)
 (refine zy 0 rfl rfl (by ((apply Yl.pure;intro W;go_simp;with_reducible rfl))) (hS.sub (by repeat (with_reducible exact Sub.refl))) (by kernel_rfl) (fun _ _ _ h=>h) ?_;simp only [Act.put,List.setIfInBounds_toArray,List.set_cons_zero,List.set_cons_succ])
 (refine zy 1 rfl rfl (by (exact Yl.load1b rfl rfl (z08 rfl) (by repeat (first|with_reducible exact At.z|apply At.s)) rfl)) (hS.sub (by repeat (with_reducible exact Sub.refl))) (by kernel_rfl) (fun _ _ _ h=>h) ?_;simp only [Act.put,List.setIfInBounds_toArray,List.set_cons_zero,List.set_cons_succ])
 (refine zy 3 rfl rfl (by ((apply Yl.pure;intro W;go_simp;with_reducible rfl))) (hS.sub (by repeat (with_reducible exact Sub.refl))) (by kernel_rfl) (fun _ _ _ h=>h) ?_;simp only [Act.put,List.setIfInBounds_toArray,List.set_cons_zero,List.set_cons_succ])
 (refine zy 4 rfl rfl (by (exact Yl.load1b rfl rfl (z08 rfl) (by repeat (first|with_reducible exact At.z|apply At.s)) rfl)) (hS.sub (by repeat (with_reducible exact Sub.refl))) (by kernel_rfl) (fun _ _ _ h=>h) ?_;simp only [Act.put,List.setIfInBounds_toArray,List.set_cons_zero,List.set_cons_succ])
 refine z26 2 (by kernel_rfl) rfl ?_
 go_wp2_with fail
 refine (hS.cloned (hS.len (by repeat (first|with_reducible exact At.z|apply At.s))).1 (zp0 _ _ _ _ _ _ (hS.getRds (by repeat (first|with_reducible exact At.z|apply At.s))) (fun b hb=>Free.lt hS hb) (by have:=hS.len (xs:=ns) (A:=A) (by repeat (first|with_reducible exact At.z|apply At.s));omega))).mono ?_
 clear hS;rintro e W ⟨v1,rfl,hS⟩
 go_wp2_with fail
 (refine ⟨fun _=>hS.sub (by repeat (first|with_reducible exact Sub.refl|refine Sub.take (by repeat (first|with_reducible exact Del.z|apply Del.s)) ?_|apply Sub.skip)),?_⟩;try simp only [Act.put,List.setIfInBounds_toArray,List.set_cons_zero,List.set_cons_succ])
 (refine zy 6 rfl rfl (by ((apply Yl.pure;intro W;go_simp;with_reducible rfl))) (hS.sub (by repeat (first|with_reducible exact Sub.refl|refine Sub.take (by repeat (first|with_reducible exact Del.z|apply Del.s)) ?_|apply Sub.skip))) (by kernel_rfl) (fun _ _ _ h=>h) ?_;simp only [Act.put,List.setIfInBounds_toArray,List.set_cons_zero,List.set_cons_succ])
 refine z26 5 (by kernel_rfl) rfl ?_
 go_wp2_with fail
 refine (hS.cloned (hS.len (by repeat (first|with_reducible exact At.z|apply At.s))).1 (zza _ _ _ _ _ _ (hS.getRds (by repeat (first|with_reducible exact At.z|apply At.s))) (fun b hb=>Free.lt hS hb) (by have:=hS.len (xs:=bs) (A:=A2) (by repeat (first|with_reducible exact At.z|apply At.s));omega))).mono ?_
 clear hS;rintro e W ⟨v2,rfl,hS⟩
 go_wp2_with fail
 (refine ⟨fun _=>hS.sub (by repeat (first|with_reducible exact Sub.refl|refine Sub.take (by repeat (first|with_reducible exact Del.z|apply Del.s)) ?_|apply Sub.skip)),?_⟩;try simp only [Act.put,List.setIfInBounds_toArray,List.set_cons_zero,List.set_cons_succ])
 obtain ⟨A3,c3,rfl,_,_⟩:=hS.rowSlice (S:=shInt) (v:=v1) (by repeat (first|with_reducible exact At.z|apply At.s))
 obtain ⟨A4,c4,rfl,_,_⟩:=hS.rowSlice (S:=shBlock) (v:=v2) (by repeat (with_reducible exact At.z))
 refine z26 7 (by kernel_rfl) rfl ?_
 go_wp2_with (((refine Sep.wstore1b hS rfl rfl rfl rfl (z08 rfl) rfl (by repeat (first|with_reducible exact At.z|apply At.s)) rfl rfl (by repeat (first|with_reducible exact Put.z|apply Put.s)) ?_;clear hS;intro W hS;simp only [Act.eval,Array.getD_eq_getD_getElem?,List.getElem?_toArray,List.getElem?_cons_succ,List.getElem?_cons_zero,Option.getD_some,List.set_cons_zero,List.set_cons_succ] at hS)))
 (refine ⟨fun h=>z3l (by kernel_rfl) h,?_⟩;try simp only [Act.put,List.setIfInBounds_toArray,List.set_cons_zero,List.set_cons_succ])
 refine z26 8 (by kernel_rfl) rfl ?_
 go_wp2_with ((first|(refine Sep.wbox hS rfl rfl rfl ?_;clear hS;intro g W hS)|(refine Sep.walloc hS rfl rfl (by exact zda) ?_;clear hS;intro g W hS)|(refine Sep.wload1b hS rfl rfl rfl (z08 rfl) (by repeat (first|with_reducible exact At.z|apply At.s)) rfl ?_)|(refine Sep.wloadNb hS rfl rfl rfl (by repeat (first|with_reducible exact At.z|apply At.s)) (zr rfl) ?_)|(refine Sep.wload1z hS rfl rfl rfl (z08 rfl) (by repeat (apply At.s)) rfl ?_)|(refine Sep.wload1c hS rfl rfl rfl (z08 rfl) (by repeat (apply At.s)) rfl ?_)|(refine Sep.wloadNz hS rfl rfl rfl (by repeat (apply At.s)) (zr rfl) ?_)|(refine Sep.wstore1b hS rfl rfl rfl rfl (z08 rfl) rfl (by repeat (first|with_reducible exact At.z|apply At.s)) rfl rfl (by repeat (first|with_reducible exact Put.z|apply Put.s)) ?_;clear hS;intro W hS;simp only [Act.eval,Array.getD_eq_getD_getElem?,List.getElem?_toArray,List.getElem?_cons_succ,List.getElem?_cons_zero,Option.getD_some,List.set_cons_zero,List.set_cons_succ] at hS)|(refine Sep.wstoreNb hS rfl rfl rfl rfl (zr rfl) (by simp [z3u,Value.oneCell']) (by repeat (first|with_reducible exact At.z|apply At.s)) (by rfl) (by repeat (first|with_reducible exact Put.z|apply Put.s)) ?_;clear hS;intro W hS)|(refine Sep.wloadNr hS rfl rfl rfl (by repeat (apply At.s)) (zr rfl) (by omega) ?_;clear hS;intro z cs hz hS;(first|(have hO:=hS.open_int (by first|with_reducible exact At.z|exact At.s At.z);obtain ⟨rfl,hI⟩:=hO)|(have hO:=hS.open_str (by first|with_reducible exact At.z|exact At.s At.z);obtain ⟨rfl,hI⟩:=hO)|(have hO:=hS.open_op (by first|with_reducible exact At.z|exact At.s At.z);obtain ⟨rfl,hI,hJ⟩:=hO)|(have hO:=hS.open_point (by first|with_reducible exact At.z|exact At.s At.z);obtain ⟨rfl,hI,hJ⟩:=hO)|(have hO:=hS.open_in (by first|with_reducible exact At.z|exact At.s At.z);clear hS;obtain ⟨A',n',c',rfl,hI,hJ,hS⟩:=hO)|(have hO:=hS.open_out (by first|with_reducible exact At.z|exact At.s At.z);clear hS;obtain ⟨A',n',c',rfl,hI,hS⟩:=hO)|(have hO:=hS.open_tx (by first|with_reducible exact At.z|exact At.s At.z);clear hS;obtain ⟨A',n',c',A2',n2',c2',rfl,hI,hS⟩:=hO)|(have hO:=hS.open_book (by first|with_reducible exact At.z|exact At.s At.z);clear hS;obtain ⟨A',n',c',rfl,hS⟩:=hO)|(have hO:=hS.open_undo (by first|with_reducible exact At.z|exact At.s At.z);clear hS;obtain ⟨A',n',c',rfl,hS⟩:=hO)|(have hO:=hS.open_coin (by first|with_reducible exact At.z|exact At.s At.z);clear hS;obtain ⟨A',n',c',rfl,hI,hJ,hK,hL,hS⟩:=hO)|(have hO:=hS.open_block (by first|with_reducible exact At.z|exact At.s At.z);clear hS;obtain ⟨A',n',c',rfl,hI,hJ,hK,hL,hS⟩:=hO)|(have hO:=hS.open_tree (by first|with_reducible exact At.z|exact At.s At.z);clear hS;obtain ⟨A',n',c',A2',n2',c2',rfl,hS⟩:=hO)|(have hO:=hS.open_node (by first|with_reducible exact At.z|exact At.s At.z);clear hS;obtain ⟨A',n',c',A2',n2',c2',A3',n3',c3',rfl,hI,hS⟩:=hO)))|((first|refine Sep.windexN hS rfl rfl rfl rfl (by repeat (first|with_reducible exact At.z|apply At.s)) (by exact zn9) (by omega) ?_|refine Sep.windex hS rfl rfl rfl rfl (by repeat (first|with_reducible exact At.z|apply At.s)) (by exact zn9) (by omega) (by omega) ?_);clear hS;intro b q z cs hz hS;(first|(have hO:=hS.open_int (At.s At.z);obtain ⟨rfl,hI⟩:=hO)|(have hO:=hS.open_str (At.s At.z);obtain ⟨rfl,hI⟩:=hO)|(have hO:=hS.open_op (At.s At.z);obtain ⟨rfl,hI,hJ⟩:=hO)|(have hO:=hS.open_point (At.s At.z);obtain ⟨rfl,hI,hJ⟩:=hO)|(have hO:=hS.open_in (At.s At.z);clear hS;obtain ⟨A',n',c',rfl,hI,hJ,hS⟩:=hO)|(have hO:=hS.open_out (At.s At.z);clear hS;obtain ⟨A',n',c',rfl,hI,hS⟩:=hO)|(have hO:=hS.open_tx (At.s At.z);clear hS;obtain ⟨A',n',c',A2',n2',c2',rfl,hI,hS⟩:=hO)|(have hO:=hS.open_book (At.s At.z);clear hS;obtain ⟨A',n',c',rfl,hS⟩:=hO)|(have hO:=hS.open_undo (At.s At.z);clear hS;obtain ⟨A',n',c',rfl,hS⟩:=hO)|(have hO:=hS.open_coin (At.s At.z);clear hS;obtain ⟨A',n',c',rfl,hI,hJ,hK,hL,hS⟩:=hO)|(have hO:=hS.open_block (At.s At.z);clear hS;obtain ⟨A',n',c',rfl,hI,hJ,hK,hL,hS⟩:=hO)|(have hO:=hS.open_tree (At.s At.z);clear hS;obtain ⟨A',n',c',A2',n2',c2',rfl,hS⟩:=hO)|(have hO:=hS.open_node (At.s At.z);clear hS;obtain ⟨A',n',c',A2',n2',c2',A3',n3',c3',rfl,hI,hS⟩:=hO)))))
 (refine ⟨fun h=>z3l (by kernel_rfl) h,?_⟩;try simp only [Act.put,List.setIfInBounds_toArray,List.set_cons_zero,List.set_cons_succ])
 refine z26 9 (by kernel_rfl) rfl ?_
 go_wp2_with (((refine Sep.wstore1b hS rfl rfl rfl rfl (z08 rfl) rfl (by repeat (first|with_reducible exact At.z|apply At.s)) rfl rfl (by repeat (first|with_reducible exact Put.z|apply Put.s)) ?_;clear hS;intro W hS;simp only [Act.eval,Array.getD_eq_getD_getElem?,List.getElem?_toArray,List.getElem?_cons_succ,List.getElem?_cons_zero,Option.getD_some,List.set_cons_zero,List.set_cons_succ] at hS)))
 (refine ⟨fun h=>z3l (by kernel_rfl) h,?_⟩;try simp only [Act.put,List.setIfInBounds_toArray,List.set_cons_zero,List.set_cons_succ])
 refine z3o (by kernel_rfl) ?_
 go_wp2_with (((refine Sep.wload1b hS (by rfl) rfl rfl (z08 rfl) (by repeat (first|with_reducible exact At.z|apply At.s)) rfl ?_)))
 go_loopw [3,4,16] (fun _ _ i wr=>∃ k:Nat,k≤bs.length∧i = .int .i64 k∧Sep w0 F0 (row 36 (.slice A4 bs.length c4) bs shBlock::row 3 (.slice A3 ns.length c3) ns shInt::box gr [.slice none 0 0,.slice none 0 0] 48::box gt [.slice A3 ns.length c3,.slice A4 bs.length c4] 48::Γ) wr) (fun _ _ i _=>bs.length - (intOf i).toNat)
 case atStart=>exact ⟨0,by omega,rfl,hS.sub (by repeat (first|with_reducible exact Sub.refl|refine Sub.take (by repeat (first|with_reducible exact Del.z|apply Del.s)) ?_|apply Sub.skip))⟩
 case round =>
  clear hS
  obtain ⟨k,hk,rfl,hS⟩:=hrel
  rcases Classical.em (k<bs.length) with hlt|hlt
  ·obtain ⟨g,rfl,_,_,_⟩:=hS.rowSome (S:=shBlock) (k:=k) (by repeat (with_reducible exact At.z)) hlt
   have j1:(0:Int)≤(k:Int):=by omega
   have j2:(k:Int)<(bs.length:Int):=by omega
   (go_wp2_with (first|(refine Sep.wbox hS rfl rfl rfl ?_;clear hS;intro gx W hS;refine Stop.go ?_)|(refine Sep.walloc hS rfl rfl (by first|exact zda|exact zn7) ?_;clear hS;intro gx W hS;refine Stop.go ?_)|((refine Sep.wloadNr hS rfl rfl rfl (by repeat (first|with_reducible exact At.z|apply At.s)) (zr rfl) (by omega) ?_;clear hS;intro z cs hz hS;((have hO:=hS.open_block (by with_reducible exact At.z);clear hS;obtain ⟨A',n',c',rfl,hI,hJ,hK,hL,hS⟩:=hO)))));refine Stop.mk ?_)
   go_wp2_with (((refine Sep.wstoreNb hS (by rfl) rfl rfl rfl (zr rfl) (by simp [z3u,Value.oneCell']) (by repeat (with_reducible exact At.z)) (by rfl) (by repeat (with_reducible exact Put.z)) ?_;clear hS;intro W hS)))
   (refine Sep.regionT hS [6] (by kernel_rfl) ?_;clear hS;intro W hS)
   (refine zy 0 rfl rfl (by ((apply Yl.pure;intro W;go_simp;with_reducible rfl))) (hS.sub (by repeat (with_reducible exact Sub.refl))) (by kernel_rfl) (fun _ _ _ h=>h) ?_;simp only [Act.put,List.setIfInBounds_toArray,List.set_cons_zero,List.set_cons_succ])
   (refine zy 1 rfl rfl (by (exact Yl.load1b rfl rfl (z08 rfl) (by repeat (first|with_reducible exact At.z|apply At.s)) rfl)) (hS.sub (by repeat (with_reducible exact Sub.refl))) (by kernel_rfl) (fun _ _ _ h=>h) ?_;simp only [Act.put,List.setIfInBounds_toArray,List.set_cons_zero,List.set_cons_succ])
   (refine zy 2 rfl rfl (by (exact Yl.move rfl)) (hS.sub (by repeat (with_reducible exact Sub.refl))) (by kernel_rfl) (fun _ _ _ h=>h) ?_;simp only [Act.put,List.setIfInBounds_toArray,List.set_cons_zero,List.set_cons_succ])
   (refine zy 3 rfl rfl (by (exact Yl.loadNb rfl rfl (by repeat (with_reducible exact At.z)) (zr rfl))) (hS.sub (by repeat (with_reducible exact Sub.refl))) (by kernel_rfl) (fun _ _ _ h=>h) ?_;simp only [Act.put,List.setIfInBounds_toArray,List.set_cons_zero,List.set_cons_succ])
   refine z26 4 (by kernel_rfl) rfl ?_
   go_wp2_with fail
   refine (zde z [_,_,_,_,_] hS (by repeat (first|with_reducible exact At.z|apply At.s)) (hb3 z (List.mem_of_getElem? hz.out))).mono ?_
   clear hS;rintro e W ⟨cs,rfl,hS⟩
   go_wp2_with fail
   (refine ⟨fun _=>hS.sub (by repeat (first|with_reducible exact Sub.refl|refine Sub.take (by repeat (first|with_reducible exact Del.z|apply Del.s)) ?_|apply Sub.skip)),?_⟩;try simp only [Act.put,List.setIfInBounds_toArray,List.set_cons_zero,List.set_cons_succ])
   (refine zy 5 rfl rfl (by ((apply Yl.pure;intro W;go_simp;with_reducible rfl))) (hS.sub (by repeat (first|with_reducible exact Sub.refl|refine Sub.take (by repeat (first|with_reducible exact Del.z|apply Del.s)) ?_|apply Sub.skip))) (by kernel_rfl) (fun _ _ _ h=>h) ?_;simp only [Act.put,List.setIfInBounds_toArray,List.set_cons_zero,List.set_cons_succ])
   refine z26 6 (by kernel_rfl) rfl ?_
   refine Sep.wstoreNr hS rfl rfl zeq (z':=z) (k:=k) rfl rfl (zr rfl) (by repeat (first|with_reducible exact Del.z|apply Del.s)) hz.out (by repeat (with_reducible exact At.z)) ?_
   clear hS;intro W hS
   go_wp2_with fail
   (refine ⟨fun h=>z3l (by kernel_rfl) h,?_⟩;try simp only [Act.put,List.setIfInBounds_toArray,List.set_cons_zero,List.set_cons_succ])
   refine z3o (by kernel_rfl) ?_
   go_wp2_with fail
   rw [zf8 hz.out] at hS
   go_roundw
   case measure=>simp [intOf];omega
   case rel=>exact ⟨k+1,by omega,by go_num,hS.sub (by repeat (first|with_reducible exact Sub.refl|refine Sub.take (by repeat (first|with_reducible exact Del.z|apply Del.s)) ?_|apply Sub.skip))⟩
  ·obtain rfl:k=bs.length:=by omega
   go_wp2_with ((first|(refine Sep.wloadNb hS (by rfl) rfl rfl (by repeat (first|with_reducible exact At.z|apply At.s)) (zr rfl) ?_)|(refine Sep.wstoreNb hS (by rfl) rfl rfl rfl (zr rfl) (by simp [z3u,Value.oneCell']) (by repeat (first|with_reducible exact At.z|apply At.s)) (by rfl) (by repeat (first|with_reducible exact Put.z|apply Put.s)) ?_;clear hS;intro W hS)))
   refine bodyPost_ret (zk0 rfl (by exact Got.boxN hS rfl (by repeat (first|with_reducible exact At.z|apply At.s)) (zr rfl))) rfl ?_
   exact ⟨_,_,_,_,_,_,rfl,hS.sub (by repeat (first|with_reducible exact Sub.refl|refine Sub.take (by repeat (first|with_reducible exact Del.z|apply Del.s)) ?_|apply Sub.skip))⟩
end
section
open Go.RowKit
set_option maxRecDepth 100000
theorem Sep.zero_tree {w0 W:World} {F0:Nat→Prop} {Γ:List Res} (h:Sep w0 F0 Γ W):Sep w0 F0 (rep (⟨[],[]⟩:Tree) [.slice none 0 0,.slice none 0 0] shTree::Γ) W :=
 h.addRep (z032 (x:=⟨[],[]⟩) (Rds.nil _ _ _) (Rds.nil _ _ _))
theorem ze7 {l:List Op} (h:zh l=0):l.length≤1000000:=by
 unfold zh at h
 split at h
 ·cases h
 ·omega
theorem z00p {l seen:List In} (h:z3m l seen=0):∀ x ∈ l,x.key.length≤1000000:=by
 induction l generalizing seen with
 | nil=>intro x hx;cases hx
 | cons y l ih =>
  rw [z3m] at h
  by_cases h1:z5r y≠0
  ·rw [if_pos h1] at h;exact absurd h h1
  ·rw [if_neg h1] at h
   by_cases h2:0≤z75 seen y.p 0
   ·rw [if_pos h2] at h;cases h
   ·rw [if_neg h2] at h
    intro x hx
    rcases List.mem_cons.1 hx with rfl|hx
    ·have h3:z5r x=0:=by simpa using h1
     unfold z5r at h3
     split at h3
     ·cases h3
     ·exact ze7 h3
    ·exact ih h x hx
theorem zws {l:List Out} (h:z2u l=0):∀ x ∈ l,x.lock.length≤1000000:=by
 induction l with
 | nil=>intro x hx;cases hx
 | cons y l ih =>
  rw [z2u] at h
  by_cases h1:z5z y≠0
  ·rw [if_pos h1] at h;exact absurd h h1
  ·rw [if_neg h1] at h
   intro x hx
   rcases List.mem_cons.1 hx with rfl|hx
   ·have h3:z5z x=0:=by simpa using h1
    unfold z5z at h3
    split at h3
    ·cases h3
    ·exact ze7 h3
   ·exact ih h x hx
theorem zas {t:Tx} (h:zo t=0):TxSmall t:=by
 unfold zo at h
 by_cases h1:z20 t≠0
 ·rw [if_pos h1] at h;exact absurd h h1
 ·rw [if_neg h1] at h
  by_cases h2:z3m t.ins []≠0
  ·rw [if_pos h2] at h;exact absurd h h2
  ·rw [if_neg h2] at h
   by_cases h3:z2u t.outs≠0
   ·rw [if_pos h3] at h;exact absurd h h3
   ·have h4:z20 t=0:=by simpa using h1
    unfold z20 at h4
    split at h4
    ·cases h4
    ·rename_i h5
     exact ⟨by omega,by omega,z00p (by simpa using h2),zws (by simpa using h3)⟩
theorem z00q {h:Int} {l:List Tx} {i:Nat} (e:z76 h l i=0):∀ t ∈ l,zo t=0:=by
 induction l generalizing i with
 | nil=>intro t ht;cases ht
 | cons y l ih =>
  rw [z76] at e
  by_cases h1:zo y≠0
  ·rw [if_pos h1] at e;exact absurd e h1
  ·rw [if_neg h1] at e
   split at e
   ·cases e
   ·intro t ht
    rcases List.mem_cons.1 ht with rfl|ht
    ·simpa using h1
    ·exact ih e t ht
theorem zwt {b:Block} (h:zg b=0):∀ t ∈ b.txs,zo t=0:=by
 unfold zg at h
 by_cases h0:z5c b≠0
 ·rw [if_pos h0] at h;exact absurd h h0
 ·rw [if_neg h0] at h;exact z00q h
theorem z9r {b:Block} (h:zg b=0):BlockSmall b :=
 ⟨by have:=(zj8 h).2;omega,fun t ht=>zas (zwt h t ht)⟩
theorem zat {t:Tree} (h:z0n t=0):∀ b ∈ t.blocks,zg b=0:=by
 obtain ⟨ns,bs⟩:=t
 have ok:=(z1s ns bs).1 h
 intro b hb
 obtain ⟨k,hk⟩:=List.getElem?_of_mem hb
 have hlt:=(List.getElem?_eq_some_iff.1 hk).1
 have:=(zdf (ok.step k (by have:=ok.len;simp only at hlt;omega))).2.1
 rwa [show z2m bs (k:Int)=b by simp [z2m,hk]] at this
theorem zlt {t:Tree} (h:z0n t=0):TreeSmall t:=by
 have ok:=(z1s t.names t.blocks).1 h
 exact ⟨by have:=ok.le;omega,by have:=ok.le;have:=ok.len;omega,fun b hb=>z9r (zat h b hb)⟩
theorem Sep.addMid {w0 W W':World} {F0:Nat→Prop} {Γ:List Res} (h:Sep w0 F0 Γ W) {α:Type} {S:Sh α} {xs:List α} {A:Option Addr} {n c:Nat} (hb:Below W.heap.size W W') (hr:Rds S W' (Mid W W') xs A n c):Sep w0 F0 (rds xs A n c S::Γ) W' :=
 (h.belows hb).addRds (hr.more fun b hb=>⟨.inr ⟨Nat.le_trans h.size hb.1,hb.2⟩,fun r hr e=>by have:=(r.lt (h.all r hr) e).2;have:=hb.1;omega⟩)
theorem z0fy {w0 W:World} {F0:Nat→Prop} {Γ:List Res} {α:Type} {S:Sh α} {x:α} {cs:List Value} (h:At Γ (rep x cs S)) (hS:Sep w0 F0 Γ W):cs.length=S.size:=S.len (hS.getRep h)
def zii (n:Int):Bool:=decide (n<1∨120<n)
def z1w (t:Tree) (name:Int) (b:Block):Int :=
 if z0n t≠0 then z0n t else if zii name=true then 3 else if zg b≠0 then zg b else if z7n t.names name=true then 6 else if z39 t.names t.blocks b t.names.length≠0 then z39 t.names t.blocks b t.names.length else if (t.names.length:Int)=24 then 12 else 0
def z46 (t:Tree) (name:Int) (b:Block):Tree:=if z1w t name b=0 then ⟨t.names++[name],t.blocks++[b]⟩ else ⟨[],[]⟩
set_option maxHeartbeats 1000000 in
theorem z082 (t:Tree) (cs:List Value) (name:Int) (b:Block) (cb:List Value) {w0 W:World} {F0:Nat→Prop} {Γ:List Res} (hS:Sep w0 F0 Γ W) (ht:At Γ (rep t cs shTree)) (hbb:At Γ (rep b cb shBlock)) (hn:I64 name) :
  Calls Tryz.prog 58 #[.agg cs.toArray,.int .i64 name,.agg cb.toArray] W (RSE w0 F0 Γ shTree (z46 t name b) (z1w t name b)):=by
 (have hO:=hS.open_tree (by repeat (exact ht));clear hS;obtain ⟨A,n,c,A2,n2,c2,rfl,hS⟩:=hO)
 (have hO:=hS.open_block (by repeat (first|exact hbb|apply At.s));clear hS;obtain ⟨A3,n3,c3,rfl,i1,i2,i3,i4,hS⟩:=hO)
 obtain ⟨rfl,_,_⟩:=hS.len (xs:=t.names) (by repeat (first|with_reducible exact At.z|apply At.s))
 obtain ⟨rfl,_,_⟩:=hS.len (xs:=t.blocks) (by repeat (first|with_reducible exact At.z|apply At.s))
 go_enter Tryz.func58,Tryz.ntmps58
 (go_wp2_with ((refine Sep.wbox hS (by rfl) rfl rfl ?_;clear hS;intro gt W hS;refine Stop.go ?_));refine Stop.mk ?_)
 (go_wp2_with ((refine Sep.wbox hS (by rfl) rfl rfl ?_;clear hS;intro gb W hS;refine Stop.go ?_));refine Stop.mk ?_)
 (go_wp2_with ((refine Sep.walloc hS (by rfl) rfl (by exact z07e) ?_;clear hS;intro gr W hS;refine Stop.go ?_));refine Stop.mk ?_)
 go_wp2_with (((refine Sep.wloadNb hS (by rfl) rfl rfl (by repeat (first|with_reducible exact At.z|apply At.s)) (zr rfl) ?_)))
 refine (hS.old (zar t [_,_] _ _ (hS.ltsRep (by repeat (first|assumption|apply At.s))) (fun b hb=>hb))).mono ?_;clear hS;rintro e W ⟨rfl,hS⟩
 have hfail:∀ (m:Int) (W:World),m≠0→z1w t name b=m→Sep w0 F0 Γ W→RSE w0 F0 Γ shTree (z46 t name b) (z1w t name b) (.returned (.tuple #[.agg #[.slice none 0 0,.slice none 0 0],.int .i64 m])) W:=fun m W h0 he hS=>by
  unfold z46
  rw [he,if_neg h0]
  exact ⟨[_,_],rfl,hS.zero_tree⟩
 have HF:=Lib.hid hfail
 clear hfail
 go_wp2_with ((first|(refine Sep.wloadNb hS (by rfl) rfl rfl (by repeat (first|with_reducible exact At.z|apply At.s)) (zr rfl) ?_)|(refine Sep.wstoreNb hS (by rfl) rfl rfl rfl (zr rfl) (by simp [z3u,Value.oneCell']) (by repeat (with_reducible exact At.z)) (by rfl) (by repeat (with_reducible exact Put.z)) ?_;clear hS;intro W hS)))
 any_goals ((refine bodyPost_ret (z44 rfl (by exact Got.boxN hS rfl (by repeat (with_reducible exact At.z)) (zr rfl)) (by exact Got.tmp rfl)) rfl ?_);exact HF.out _ _ (by first|decide|(simp_all;done)) (by first|(simp_all [z1w];done)|(simp_all [z1w,zii];done)) (hS.sub (by repeat (first|with_reducible exact Sub.refl|apply Sub.skip))))
 have z1:z0n t=0:=by simp_all
 have ok:=Lib.hid ((z1s t.names t.blocks).1 z1)
 have sm:=Lib.hid (zlt z1)
 have zn:zii name=false:=by simp [zii];omega
 rw [← ok.out.len] at hS ht
 refine (hS.old (z77 b [_,_,_,_,_] _ _ (hS.ltsRep (by repeat (first|assumption|apply At.s))) (fun b hb=>hb))).mono ?_;clear hS;rintro e W ⟨rfl,hS⟩
 go_wp2_with ((first|(refine Sep.wload1b hS (by rfl) rfl rfl (z08 rfl) (by repeat (first|with_reducible exact At.z|apply At.s)) rfl ?_)|(refine Sep.wstoreNb hS (by rfl) rfl rfl rfl (zr rfl) (by simp [z3u,Value.oneCell']) (by repeat (with_reducible exact At.z)) (by rfl) (by repeat (with_reducible exact Put.z)) ?_;clear hS;intro W hS)))
 any_goals ((refine bodyPost_ret (z44 rfl (by exact Got.boxN hS rfl (by repeat (with_reducible exact At.z)) (zr rfl)) (by exact Got.tmp rfl)) rfl ?_);exact HF.out _ _ (by (simp_all;done)) (by (simp_all [z1w];done)) (hS.sub (by repeat (first|with_reducible exact Sub.refl|apply Sub.skip))))
 have z2:zg b=0:=by simp_all
 refine (hS.oldS (z90 t.names name _ _ _ _ _ (hS.ltsRds (by repeat (first|with_reducible exact At.z|apply At.s))))).mono ?_;clear hS;rintro e W ⟨rfl,hS⟩
 go_wp2_with ((first|(refine Sep.wload1b hS (by rfl) rfl rfl (z08 rfl) (by repeat (first|with_reducible exact At.z|apply At.s)) rfl ?_)|(refine Sep.wloadNb hS (by rfl) rfl rfl (by repeat (first|with_reducible exact At.z|apply At.s)) (zr rfl) ?_)|(refine Sep.wstoreNb hS (by rfl) rfl rfl rfl (zr rfl) (by simp [z3u,Value.oneCell']) (by repeat (with_reducible exact At.z)) (by rfl) (by repeat (with_reducible exact Put.z)) ?_;clear hS;intro W hS)))
 any_goals ((refine bodyPost_ret (z44 rfl (by exact Got.boxN hS rfl (by repeat (with_reducible exact At.z)) (zr rfl)) (by exact Got.tmp rfl)) rfl ?_);exact HF.out _ _ (by decide) (by (simp_all [z1w];done)) (hS.sub (by repeat (first|with_reducible exact Sub.refl|apply Sub.skip))))
 have z3:z7n t.names name=false:=by simp_all
 refine (hS.old (zlr t.names t.blocks b [_,_,_,_,_] _ _ _ _ _ _ _ _ (hS.ltsRds (by repeat (first|with_reducible exact At.z|apply At.s))) (hS.ltsRds (by repeat (first|with_reducible exact At.z|apply At.s))) (hS.ltsRep (by repeat (first|assumption|apply At.s))) (fun b hb=>hb) (Nat.le_refl _) (fun x hx=>zcz (zat z1 x (List.mem_of_mem_take hx))))).mono ?_;clear hS;rintro e W ⟨rfl,hS⟩
 go_wp2_with ((first|(refine Sep.wload1b hS (by rfl) rfl rfl (z08 rfl) (by repeat (first|with_reducible exact At.z|apply At.s)) rfl ?_)|(refine Sep.wloadNb hS (by rfl) rfl rfl (by repeat (first|with_reducible exact At.z|apply At.s)) (zr rfl) ?_)|(refine Sep.wstoreNb hS (by rfl) rfl rfl rfl (zr rfl) (by simp [z3u,Value.oneCell']) (by repeat (with_reducible exact At.z)) (by rfl) (by repeat (with_reducible exact Put.z)) ?_;clear hS;intro W hS)))
 any_goals ((refine bodyPost_ret (z44 rfl (by exact Got.boxN hS rfl (by repeat (with_reducible exact At.z)) (zr rfl)) (by exact Got.tmp rfl)) rfl ?_);exact HF.out _ _ (by first|decide|(simp_all;done)) (by (simp_all [z1w];done)) (hS.sub (by repeat (first|with_reducible exact Sub.refl|apply Sub.skip))))
 have z4:z39 t.names t.blocks b t.names.length=0:=by simp_all
 have z5:¬ (t.names.length:Int)=24:=by simp_all
 have ze:z1w t name b=0:=by simp [z1w,z1,zn,z2,z3,z4,z5]
 have ZT:=Lib.hid (show z46 t name b=⟨t.names++[name],t.blocks++[b]⟩ by unfold z46;rw [if_pos ze])
 have ZE:=Lib.hid ze
 clear HF z1 z3 z4 z5 zn ze
 refine (z054 t [_,_] hS (by repeat (first|assumption|apply At.s)) sm.out).mono ?_
 clear hS;rintro e W ⟨A4,n4,c4,A5,n5,c5,rfl,hS⟩
 go_wp2_with (((refine Sep.wstoreNb hS (by rfl) rfl rfl rfl (zr rfl) (by simp [z3u,Value.oneCell']) (by repeat (first|with_reducible exact At.z|apply At.s)) (by rfl) (by repeat (first|with_reducible exact Put.z|apply Put.s)) ?_;clear hS;intro W hS)))
 (refine Sep.regionS hS [12,14] (Γs:=[box gt [.slice A4 n4 c4,.slice A5 n5 c5] 48,box gb [.int .i64 b.parent,.int .i64 b.height,.int .i64 b.work,.int .i64 b.nonce,.slice A3 n3 c3] 36]) (by repeat (first|with_reducible exact Sub.nil|refine Sub.take (by repeat (first|with_reducible exact Del.z|apply Del.s)) ?_)) (by kernel_rfl) ?_;clear hS;intro W hS)
 (refine zy 0 rfl rfl (by ((apply Yl.pure;intro W;go_simp;with_reducible rfl))) (hS.sub (by repeat (first|with_reducible exact Sub.nil|refine Sub.take (by repeat (first|with_reducible exact Del.z|apply Del.s)) ?_))) (by kernel_rfl) (fun _ _ _ h=>h) ?_;simp only [Act.put,List.setIfInBounds_toArray,List.set_cons_zero,List.set_cons_succ])
 (refine zy 1 rfl rfl (by (exact Yl.load1b rfl rfl (z08 rfl) (by repeat (with_reducible exact At.z)) rfl)) (hS.sub (by repeat (first|with_reducible exact Sub.nil|refine Sub.take (by repeat (first|with_reducible exact Del.z|apply Del.s)) ?_))) (by kernel_rfl) (fun _ _ _ h=>h) ?_;simp only [Act.put,List.setIfInBounds_toArray,List.set_cons_zero,List.set_cons_succ])
 (refine zy 2 rfl rfl (by (exact Yl.move rfl)) (hS.sub (by repeat (first|with_reducible exact Sub.nil|refine Sub.take (by repeat (first|with_reducible exact Del.z|apply Del.s)) ?_))) (by kernel_rfl) (fun _ _ _ h=>h) ?_;simp only [Act.put,List.setIfInBounds_toArray,List.set_cons_zero,List.set_cons_succ])
 (refine zy 5 rfl rfl (by ((apply Yl.pure;intro W;go_simp;with_reducible rfl))) (hS.sub (by repeat (first|with_reducible exact Sub.nil|refine Sub.take (by repeat (first|with_reducible exact Del.z|apply Del.s)) ?_))) (by kernel_rfl) (fun _ _ _ h=>h) ?_;simp only [Act.put,List.setIfInBounds_toArray,List.set_cons_zero,List.set_cons_succ])
 (refine zy 6 rfl rfl (by (exact Yl.load1b rfl rfl (z08 rfl) (by repeat (with_reducible exact At.z)) rfl)) (hS.sub (by repeat (first|with_reducible exact Sub.nil|refine Sub.take (by repeat (first|with_reducible exact Del.z|apply Del.s)) ?_))) (by kernel_rfl) (fun _ _ _ h=>h) ?_;simp only [Act.put,List.setIfInBounds_toArray,List.set_cons_zero,List.set_cons_succ])
 (refine zy 7 rfl rfl (by (exact Yl.loadNb rfl rfl (by repeat (first|with_reducible exact At.z|apply At.s)) (zr rfl))) (hS.sub (by repeat (first|with_reducible exact Sub.nil|refine Sub.take (by repeat (first|with_reducible exact Del.z|apply Del.s)) ?_))) (by kernel_rfl) (fun _ _ _ h=>h) ?_;simp only [Act.put,List.setIfInBounds_toArray,List.set_cons_zero,List.set_cons_succ])
 refine z26 3 (by kernel_rfl) rfl ?_
 refine Sep.wbuild1 hS rfl rfl z07i (by decide) (by decide) (cs:=[.int .i64 name]) rfl rfl ?_
 clear hS;intro g1 W hS
 go_wp2_with fail
 (refine ⟨fun _=>hS.sub (by repeat (first|with_reducible exact Sub.nil|refine Sub.take (by repeat (first|with_reducible exact Del.z|apply Del.s)) ?_)),?_⟩;try simp only [Act.put,List.setIfInBounds_toArray,List.set_cons_zero,List.set_cons_succ])
 refine z26 4 (by kernel_rfl) rfl ?_
 have hS:=hS.pure (S:=shInt) (z:=name) (cs:=[.int .i64 name]) (fun W F=>⟨rfl,hn⟩)
 refine Sep.wappend1 hS rfl rfl (S:=shInt) (z:=name) (v:=.slice A4 n4 c4) rfl rfl (by repeat (first|with_reducible exact Del.z|apply Del.s)) (by repeat (first|with_reducible exact Del.z|apply Del.s)) (by repeat (with_reducible exact At.z)) z07i (by decide) z3j (by have:=sm.out.names;omega) (by decide) ?_
 clear hS;intro v1 W hS
 go_wp2_with fail
 (refine ⟨fun _=>hS.sub (by repeat (first|with_reducible exact Sub.nil|refine Sub.take (by repeat (first|with_reducible exact Del.z|apply Del.s)) ?_)),?_⟩;try simp only [Act.put,List.setIfInBounds_toArray,List.set_cons_zero,List.set_cons_succ])
 (refine zy 11 rfl rfl (by ((apply Yl.pure;intro W;go_simp;with_reducible rfl))) (hS.sub (by repeat (first|with_reducible exact Sub.nil|refine Sub.take (by repeat (first|with_reducible exact Del.z|apply Del.s)) ?_))) (by kernel_rfl) (fun _ _ _ h=>h) ?_;simp only [Act.put,List.setIfInBounds_toArray,List.set_cons_zero,List.set_cons_succ])
 refine z26 8 (by kernel_rfl) rfl ?_
 go_wp2_with fail
 refine (zde b [_,_,_,_,_] hS (by repeat (first|assumption|apply At.s)) (z9r z2)).mono ?_
 clear hS;rintro e W ⟨cs,rfl,hS⟩
 go_wp2_with fail
 (refine ⟨fun _=>hS.sub (by repeat (first|with_reducible exact Sub.nil|refine Sub.take (by repeat (first|with_reducible exact Del.z|apply Del.s)) ?_)),?_⟩;try simp only [Act.put,List.setIfInBounds_toArray,List.set_cons_zero,List.set_cons_succ])
 refine z26 9 (by kernel_rfl) rfl ?_
 refine Sep.wbuild1 hS rfl rfl zk1 (by decide) (by decide) (cs:=cs) rfl (z0fy (by repeat (with_reducible exact At.z)) hS) ?_
 clear hS;intro g2 W hS
 go_wp2_with fail
 (refine ⟨fun _=>hS.sub (by repeat (first|with_reducible exact Sub.nil|refine Sub.take (by repeat (first|with_reducible exact Del.z|apply Del.s)) ?_)),?_⟩;try simp only [Act.put,List.setIfInBounds_toArray,List.set_cons_zero,List.set_cons_succ])
 refine z26 10 (by kernel_rfl) rfl ?_
 refine Sep.wappend1 hS rfl rfl (S:=shBlock) (z:=b) (v:=.slice A5 n5 c5) rfl rfl (by repeat (with_reducible exact Del.z)) (by repeat (first|with_reducible exact Del.z|apply Del.s)) (by repeat (with_reducible exact At.z)) zk1 (by decide) zeq (by have:=sm.out.blocks;omega) (by decide) ?_
 clear hS;intro v2 W hS
 obtain ⟨A6,c6,rfl,_,_⟩:=hS.rowSlice (S:=shInt) (v:=v1) (by repeat (first|with_reducible exact At.z|apply At.s))
 obtain ⟨A7,c7,rfl,_,_⟩:=hS.rowSlice (S:=shBlock) (v:=v2) (by repeat (with_reducible exact At.z))
 go_wp2_with fail
 (refine ⟨fun _=>hS.sub (by repeat (first|with_reducible exact Sub.nil|refine Sub.take (by repeat (first|with_reducible exact Del.z|apply Del.s)) ?_)),?_⟩;try simp only [Act.put,List.setIfInBounds_toArray,List.set_cons_zero,List.set_cons_succ])
 refine z26 12 (by kernel_rfl) rfl ?_
 go_wp2_with (((refine Sep.wstore1b hS rfl rfl rfl rfl (z08 rfl) rfl (by repeat (first|with_reducible exact At.z|apply At.s)) rfl rfl (by repeat (first|with_reducible exact Put.z|apply Put.s)) ?_;clear hS;intro W hS;simp only [Act.eval,Array.getD_eq_getD_getElem?,List.getElem?_toArray,List.getElem?_cons_succ,List.getElem?_cons_zero,Option.getD_some,List.set_cons_zero,List.set_cons_succ] at hS)))
 (refine ⟨fun h=>z3l (by kernel_rfl) h,?_⟩;try simp only [Act.put,List.setIfInBounds_toArray,List.set_cons_zero,List.set_cons_succ])
 refine z26 13 (by kernel_rfl) rfl ?_
 go_wp2_with ((first|(refine Sep.wbox hS rfl rfl rfl ?_;clear hS;intro g W hS)|(refine Sep.walloc hS rfl rfl (by exact zda) ?_;clear hS;intro g W hS)|(refine Sep.wload1b hS rfl rfl rfl (z08 rfl) (by repeat (first|with_reducible exact At.z|apply At.s)) rfl ?_)|(refine Sep.wloadNb hS rfl rfl rfl (by repeat (first|with_reducible exact At.z|apply At.s)) (zr rfl) ?_)|(refine Sep.wload1z hS rfl rfl rfl (z08 rfl) (by repeat (apply At.s)) rfl ?_)|(refine Sep.wload1c hS rfl rfl rfl (z08 rfl) (by repeat (apply At.s)) rfl ?_)|(refine Sep.wloadNz hS rfl rfl rfl (by repeat (apply At.s)) (zr rfl) ?_)|(refine Sep.wstore1b hS rfl rfl rfl rfl (z08 rfl) rfl (by repeat (first|with_reducible exact At.z|apply At.s)) rfl rfl (by repeat (first|with_reducible exact Put.z|apply Put.s)) ?_;clear hS;intro W hS;simp only [Act.eval,Array.getD_eq_getD_getElem?,List.getElem?_toArray,List.getElem?_cons_succ,List.getElem?_cons_zero,Option.getD_some,List.set_cons_zero,List.set_cons_succ] at hS)|(refine Sep.wstoreNb hS rfl rfl rfl rfl (zr rfl) (by simp [z3u,Value.oneCell']) (by repeat (first|with_reducible exact At.z|apply At.s)) (by rfl) (by repeat (first|with_reducible exact Put.z|apply Put.s)) ?_;clear hS;intro W hS)|(refine Sep.wloadNr hS rfl rfl rfl (by repeat (apply At.s)) (zr rfl) (by omega) ?_;clear hS;intro z cs hz hS;(first|(have hO:=hS.open_int (by first|with_reducible exact At.z|exact At.s At.z);obtain ⟨rfl,hI⟩:=hO)|(have hO:=hS.open_str (by first|with_reducible exact At.z|exact At.s At.z);obtain ⟨rfl,hI⟩:=hO)|(have hO:=hS.open_op (by first|with_reducible exact At.z|exact At.s At.z);obtain ⟨rfl,hI,hJ⟩:=hO)|(have hO:=hS.open_point (by first|with_reducible exact At.z|exact At.s At.z);obtain ⟨rfl,hI,hJ⟩:=hO)|(have hO:=hS.open_in (by first|with_reducible exact At.z|exact At.s At.z);clear hS;obtain ⟨A',n',c',rfl,hI,hJ,hS⟩:=hO)|(have hO:=hS.open_out (by first|with_reducible exact At.z|exact At.s At.z);clear hS;obtain ⟨A',n',c',rfl,hI,hS⟩:=hO)|(have hO:=hS.open_tx (by first|with_reducible exact At.z|exact At.s At.z);clear hS;obtain ⟨A',n',c',A2',n2',c2',rfl,hI,hS⟩:=hO)|(have hO:=hS.open_book (by first|with_reducible exact At.z|exact At.s At.z);clear hS;obtain ⟨A',n',c',rfl,hS⟩:=hO)|(have hO:=hS.open_undo (by first|with_reducible exact At.z|exact At.s At.z);clear hS;obtain ⟨A',n',c',rfl,hS⟩:=hO)|(have hO:=hS.open_coin (by first|with_reducible exact At.z|exact At.s At.z);clear hS;obtain ⟨A',n',c',rfl,hI,hJ,hK,hL,hS⟩:=hO)|(have hO:=hS.open_block (by first|with_reducible exact At.z|exact At.s At.z);clear hS;obtain ⟨A',n',c',rfl,hI,hJ,hK,hL,hS⟩:=hO)|(have hO:=hS.open_tree (by first|with_reducible exact At.z|exact At.s At.z);clear hS;obtain ⟨A',n',c',A2',n2',c2',rfl,hS⟩:=hO)|(have hO:=hS.open_node (by first|with_reducible exact At.z|exact At.s At.z);clear hS;obtain ⟨A',n',c',A2',n2',c2',A3',n3',c3',rfl,hI,hS⟩:=hO)))|((first|refine Sep.windexN hS rfl rfl rfl rfl (by repeat (first|with_reducible exact At.z|apply At.s)) (by exact zlp) (by omega) ?_|refine Sep.windex hS rfl rfl rfl rfl (by repeat (first|with_reducible exact At.z|apply At.s)) (by exact zlp) (by omega) (by omega) ?_);clear hS;intro b q z cs hz hS;(first|(have hO:=hS.open_int (At.s At.z);obtain ⟨rfl,hI⟩:=hO)|(have hO:=hS.open_str (At.s At.z);obtain ⟨rfl,hI⟩:=hO)|(have hO:=hS.open_op (At.s At.z);obtain ⟨rfl,hI,hJ⟩:=hO)|(have hO:=hS.open_point (At.s At.z);obtain ⟨rfl,hI,hJ⟩:=hO)|(have hO:=hS.open_in (At.s At.z);clear hS;obtain ⟨A',n',c',rfl,hI,hJ,hS⟩:=hO)|(have hO:=hS.open_out (At.s At.z);clear hS;obtain ⟨A',n',c',rfl,hI,hS⟩:=hO)|(have hO:=hS.open_tx (At.s At.z);clear hS;obtain ⟨A',n',c',A2',n2',c2',rfl,hI,hS⟩:=hO)|(have hO:=hS.open_book (At.s At.z);clear hS;obtain ⟨A',n',c',rfl,hS⟩:=hO)|(have hO:=hS.open_undo (At.s At.z);clear hS;obtain ⟨A',n',c',rfl,hS⟩:=hO)|(have hO:=hS.open_coin (At.s At.z);clear hS;obtain ⟨A',n',c',rfl,hI,hJ,hK,hL,hS⟩:=hO)|(have hO:=hS.open_block (At.s At.z);clear hS;obtain ⟨A',n',c',rfl,hI,hJ,hK,hL,hS⟩:=hO)|(have hO:=hS.open_tree (At.s At.z);clear hS;obtain ⟨A',n',c',A2',n2',c2',rfl,hS⟩:=hO)|(have hO:=hS.open_node (At.s At.z);clear hS;obtain ⟨A',n',c',A2',n2',c2',A3',n3',c3',rfl,hI,hS⟩:=hO)))))
 (refine ⟨fun h=>z3l (by kernel_rfl) h,?_⟩;try simp only [Act.put,List.setIfInBounds_toArray,List.set_cons_zero,List.set_cons_succ])
 refine z26 14 (by kernel_rfl) rfl ?_
 go_wp2_with (((refine Sep.wstore1b hS rfl rfl rfl rfl (z08 rfl) rfl (by repeat (first|with_reducible exact At.z|apply At.s)) rfl rfl (by repeat (first|with_reducible exact Put.z|apply Put.s)) ?_;clear hS;intro W hS;simp only [Act.eval,Array.getD_eq_getD_getElem?,List.getElem?_toArray,List.getElem?_cons_succ,List.getElem?_cons_zero,Option.getD_some,List.set_cons_zero,List.set_cons_succ] at hS)))
 (refine ⟨fun h=>z3l (by kernel_rfl) h,?_⟩;try simp only [Act.put,List.setIfInBounds_toArray,List.set_cons_zero,List.set_cons_succ])
 refine z3o (by kernel_rfl) ?_
 go_wp2_with ((first|(refine Sep.wloadNb hS (by rfl) rfl rfl (by repeat (first|with_reducible exact At.z|apply At.s)) (zr rfl) ?_)|(refine Sep.wstoreNb hS (by rfl) rfl rfl rfl (zr rfl) (by simp [z3u,Value.oneCell']) (by repeat (first|with_reducible exact At.z|apply At.s)) (by rfl) (by repeat (first|with_reducible exact Put.z|apply Put.s)) ?_;clear hS;intro W hS)))
 refine bodyPost_ret (z44 rfl (by exact Got.boxN hS rfl (by repeat (first|with_reducible exact At.z|apply At.s)) (zr rfl)) (by exact Got.tmp rfl)) rfl ?_
 obtain ⟨A8,n8,c8,e8,-,hS⟩:=hS.freezeRow (S:=shInt) (xs:=t.names++[name]) (e:=3) (by repeat (first|with_reducible exact Del.z|apply Del.s))
 obtain ⟨A9,n9,c9,e9,-,hS⟩:=hS.freezeRow (S:=shBlock) (xs:=t.blocks++[b]) (e:=36) (by repeat (first|with_reducible exact Del.z|apply Del.s))
 simp only [Value.slice.injEq] at e8 e9
 obtain ⟨rfl,rfl,rfl⟩:=e8
 obtain ⟨rfl,rfl,rfl⟩:=e9
 have hS:=hS.mk_tree (ns:=t.names++[name]) (bs:=t.blocks++[b]) (by repeat (first|with_reducible exact At.z|apply At.s)) (by repeat (with_reducible exact At.z))
 rw [ZT.out,ZE.out]
 exact ⟨_,rfl,hS.sub (by repeat (first|with_reducible exact Sub.refl|refine Sub.take (by repeat (first|with_reducible exact Del.z|apply Del.s)) ?_|apply Sub.skip))⟩
end
section
open Go.RowKit
set_option maxRecDepth 100000
theorem zha {ns:List Int} {bs:List Block} (ok:TreeOK ns bs) {m:Int} (hm:m=0∨0≤idx ns m):(z1f ns bs m).length≤24:=by
 have h1:∀ r,∀ m:Int,z5g ns m≤r→(m=0∨0≤idx ns m)→(z1f ns bs m).length≤z5g ns m:=by
  intro r
  induction r with
  | zero =>
   intro m hr hm
   rcases hm with h|h
   ·rw [h,z5u];simp
   ·have:=(z50 ok h).2.2;omega
  | succ r ih =>
   intro m hr hm
   rcases hm with h|h
   ·rw [h,z5u];simp
   ·obtain ⟨e,hp,hl⟩:=z50 ok h
    have:=ih _ (by omega) hp
    rw [e];simp;omega
 have:=h1 _ m (Nat.le_refl _) hm
 have:=z03g ok hm
 have:=ok.le
 omega
theorem z0f8 (t:Tree) (cs:List Value) (m:Int) {w0 W:World} {F0:Nat→Prop} {Γ:List Res} (hS:Sep w0 F0 Γ W) (ht:At Γ (rep t cs shTree)) :
  Calls Tryz.prog 59 #[.agg cs.toArray,.int .i64 m] W (RLE w0 F0 Γ shInt (z13 t m).1 (z13 t m).2):=by
 refine (z0aj t cs m W _ (hS.ltsRep ht) (fun b hb=>hb)).mono ?_
 rintro e W' ⟨A,n,c,rfl,hr,hb⟩
 exact ⟨A,n,c,rfl,hS.addMid hb hr⟩
def zae:Block:=⟨0,0,0,0,[]⟩
theorem Sep.zero_block {w0 W:World} {F0:Nat→Prop} {Γ:List Res} (h:Sep w0 F0 Γ W):Sep w0 F0 (rep zae [.int .i64 0,.int .i64 0,.int .i64 0,.int .i64 0,.slice none 0 0] shBlock::Γ) W :=
 h.addRep (zsv (x:=zae) ⟨by decide,by decide⟩ ⟨by decide,by decide⟩ ⟨by decide,by decide⟩ ⟨by decide,by decide⟩ (Rds.nil _ _ _))
def z1g (t:Tree) (m:Int):Int:=if z0n t≠0 then z0n t else if idx t.names m<0 then 5 else 0
def zb (t:Tree) (m:Int):Block:=if z1g t m=0 then z2m t.blocks (idx t.names m) else zae
set_option maxHeartbeats 1000000 in
theorem z0d3 (t:Tree) (cs:List Value) (m:Int) {w0 W:World} {F0:Nat→Prop} {Γ:List Res} (hS:Sep w0 F0 Γ W) (ht:At Γ (rep t cs shTree)) :
  Calls Tryz.prog 18 #[.agg cs.toArray,.int .i64 m] W (RSE w0 F0 Γ shBlock (zb t m) (z1g t m)):=by
 (have hO:=hS.open_tree (by repeat (exact ht));clear hS;obtain ⟨A,n,c,A2,n2,c2,rfl,hS⟩:=hO)
 obtain ⟨rfl,_,_⟩:=hS.len (xs:=t.names) (by repeat (with_reducible exact At.z))
 obtain ⟨rfl,_,_⟩:=hS.len (xs:=t.blocks) (by repeat (first|with_reducible exact At.z|apply At.s))
 have hfail:∀ (x:Int) (W:World),x≠0→z1g t m=x→Sep w0 F0 Γ W→RSE w0 F0 Γ shBlock (zb t m) (z1g t m) (.returned (.tuple #[.agg #[.int .i64 0,.int .i64 0,.int .i64 0,.int .i64 0,.slice none 0 0],.int .i64 x])) W:=fun x W h0 he hS=>by
  unfold zb
  rw [he,if_neg h0]
  exact ⟨[_,_,_,_,_],rfl,hS.zero_block⟩
 have HF:=Lib.hid hfail
 clear hfail
 go_enter Tryz.func18,Tryz.ntmps18
 (go_wp2_with ((refine Sep.wbox hS (by rfl) rfl rfl ?_;clear hS;intro gt W hS;refine Stop.go ?_));refine Stop.mk ?_)
 (go_wp2_with ((refine Sep.walloc hS (by rfl) rfl (by exact zn7) ?_;clear hS;intro gr W hS;refine Stop.go ?_));refine Stop.mk ?_)
 go_wp2_with (((refine Sep.wloadNb hS (by rfl) rfl rfl (by repeat (first|with_reducible exact At.z|apply At.s)) (zr rfl) ?_)))
 refine (hS.old (zar t [_,_] _ _ (hS.ltsRep (by repeat (first|assumption|apply At.s))) (fun b hb=>hb))).mono ?_;clear hS;rintro e W ⟨rfl,hS⟩
 go_wp2_with ((first|(refine Sep.wload1b hS (by rfl) rfl rfl (z08 rfl) (by repeat (first|with_reducible exact At.z|apply At.s)) rfl ?_)|(refine Sep.wstoreNb hS (by rfl) rfl rfl rfl (zr rfl) (by simp [z3u,Value.oneCell']) (by repeat (with_reducible exact At.z)) (by rfl) (by repeat (with_reducible exact Put.z)) ?_;clear hS;intro W hS)))
 any_goals ((refine bodyPost_ret (z44 rfl (by exact Got.boxN hS rfl (by repeat (with_reducible exact At.z)) (zr rfl)) (by exact Got.tmp rfl)) rfl ?_);exact HF.out _ _ (by (simp_all;done)) (by first|(simp_all [z1g];done)) (hS.sub (by repeat (first|with_reducible exact Sub.refl|apply Sub.skip))))
 have z1:z0n t=0:=by simp_all
 have ok:=Lib.hid ((z1s t.names t.blocks).1 z1)
 refine (hS.oldS (zcs t.names m _ _ _ _ _ (hS.ltsRds (by repeat (first|with_reducible exact At.z|apply At.s))))).mono ?_;clear hS;rintro e W ⟨rfl,hS⟩
 rcases Classical.em (idx t.names m<0) with hi|hi
 ·go_wp2_with (((refine Sep.wstoreNb hS (by rfl) rfl rfl rfl (zr rfl) (by simp [z3u,Value.oneCell']) (by repeat (with_reducible exact At.z)) (by rfl) (by repeat (with_reducible exact Put.z)) ?_;clear hS;intro W hS)))
  any_goals ((refine bodyPost_ret (z44 rfl (by exact Got.boxN hS rfl (by repeat (with_reducible exact At.z)) (zr rfl)) (by exact Got.tmp rfl)) rfl ?_);exact HF.out _ _ (by decide) (by first|(simp_all [z1g];done)) (hS.sub (by repeat (first|with_reducible exact Sub.refl|apply Sub.skip))))
 ·obtain ⟨j,hj,hjs⟩:=zc9 (show 0≤idx t.names m by omega)
  have hjl:=(List.getElem?_eq_some_iff.1 hjs).1
  have hjb:j<t.blocks.length:=by have:=ok.out.len;omega
  have ZE:=Lib.hid (show z1g t m=0 by unfold z1g;rw [if_neg (by simp [z1]),if_neg hi])
  have HJ:=Lib.hid hj
  have ZB:=Lib.hid (fun b hb=>z9r (zat z1 b hb))
  rw [hj]
  clear hj hjs hi HF
  go_wp2_with ((first|(refine Sep.wload1b hS rfl rfl rfl (z08 rfl) (by repeat (first|with_reducible exact At.z|apply At.s)) rfl ?_)|(refine Sep.wloadNz hS rfl rfl rfl (by repeat (first|with_reducible exact At.z|apply At.s)) (zr rfl) ?_)|((refine Sep.windexN hS rfl rfl rfl rfl (by repeat (first|with_reducible exact At.z|apply At.s)) (by first|exact zlp|exact zn9|exact zk1) (by omega) ?_);clear hS;intro b q z cs hz hS;((have hO:=hS.open_block (At.s At.z);clear hS;obtain ⟨A',n',c',rfl,hI,hJ,hK,hL,hS⟩:=hO)))))
  have hb:zb t m=z:=by unfold zb;rw [if_pos ZE.out,HJ.out];simp [z2m,hz.out]
  have HB:=Lib.hid hb
  clear hb
  refine (zde z [_,_,_,_,_] hS (by repeat (first|with_reducible exact At.z|apply At.s)) (ZB.out z (List.mem_of_getElem? hz.out))).mono ?_
  clear hS;rintro e W ⟨cs,rfl,hS⟩
  obtain ⟨A5,n5,c5,rfl,-,-,-,-,-⟩:=hS.open_block At.z
  go_wp2_with (((refine Sep.wstoreNb hS (by rfl) rfl rfl rfl (zr rfl) (by simp [z3u,Value.oneCell']) (by repeat (first|with_reducible exact At.z|apply At.s)) (by rfl) (by repeat (first|with_reducible exact Put.z|apply Put.s)) ?_;clear hS;intro W hS)))
  refine bodyPost_ret (z44 rfl (by exact Got.boxN hS rfl (by repeat (first|with_reducible exact At.z|apply At.s)) (zr rfl)) (by exact Got.tmp rfl)) rfl ?_
  rw [HB.out,ZE.out]
  exact ⟨_,rfl,hS.sub (by repeat (first|with_reducible exact Sub.refl|refine Sub.take (by repeat (first|with_reducible exact Del.z|apply Del.s)) ?_|apply Sub.skip))⟩
end
section
open Go.RowKit
set_option maxRecDepth 100000
theorem zwu {g:Nat}:∀ (vs:List Value) (i:Nat) (w:World) (b:Nat),b≠g→(w.setCells g i vs).heap[b]? = w.heap[b]?:=by
 intro vs
 induction vs with
 | nil=>intro i w b hb;rfl
 | cons v vs ih=>intro i w b hb;rw [World.setCells,ih _ _ _ hb];exact Below.heap_setCell _ _ _ _ hb
theorem zra {g:Nat}:∀ (vs:List Value) (i:Nat) (w:World),(w.setCells g i vs).heap.size=w.heap.size∧(w.setCells g i vs).os=w.os∧(w.setCells g i vs).tape=w.tape∧(w.setCells g i vs).output=w.output:=by
 intro vs
 induction vs with
 | nil=>intro i w;exact ⟨rfl,rfl,rfl,rfl⟩
 | cons v vs ih=>intro i w;rw [World.setCells];obtain ⟨a1,a2,a3,a4⟩:=ih (i+1) (w.setCell ⟨g,i,none⟩ v);exact ⟨by rw [a1];simp [World.setCell],a2,a3,a4⟩
end
section
open Go.RowKit
set_option maxRecDepth 100000
end
end Go.Proofs.YtnklncinjahckaaGreatDoor
