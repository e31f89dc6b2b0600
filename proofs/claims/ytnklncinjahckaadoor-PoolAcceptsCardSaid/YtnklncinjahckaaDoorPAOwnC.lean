/- Own texts, put together by wip/bundle.py: Copy, Copy2, Add, Work, PathR, Grown. -/
import Derived.Outline
import Derived.Deep.DeepCutAuto
import Derived.Test.YtnklncinjahckaaDoorPAOwnB
set_option linter.unusedVariables false
set_option linter.unusedSimpArgs false
namespace Go.Proofs.YtnklncinjahckaaDoor
section
open Go.RowKit
set_option maxRecDepth 100000
theorem Sep.cloned {P:Program} {w0 W:World} {F0:Nat→Prop} {Γ:List Res} (h:Sep w0 F0 Γ W) {α:Type} {S:Sh α} {xs:List α} {e n:Nat} {f:FuncId} {args:Array Value} (hn:xs.length=n) (hc:Calls P f args W (z8f S e W (Free w0.heap.size F0 Γ W) xs n)):Calls P f args W (RO w0 F0 Γ S e xs):=by
 refine hc.mono ?_
 rintro r W' ⟨v,zs,rfl,h1,h2,h3,h4⟩
 exact ⟨v,rfl,h.addRow (z9o h4) h1 (by rw [hn];exact h3) h2⟩
structure TxSmall (t:Tx):Prop where
 ins:t.ins.length≤1000
 outs:t.outs.length≤1000
 key:∀ x ∈ t.ins,x.key.length≤1000000
 lock:∀ x ∈ t.outs,x.lock.length≤1000000
structure BlockSmall (b:Block):Prop where
 txs:b.txs.length≤1000
 each:∀ t ∈ b.txs,TxSmall t
structure TreeSmall (t:Tree):Prop where
 names:t.names.length≤1000
 blocks:t.blocks.length≤1000
 each:∀ b ∈ t.blocks,BlockSmall b
theorem zoy {α:Type} {l:List α} {k:Nat} {z:α} (h:l[k]? = some z):l.set k z=l:=by
 obtain ⟨h1,rfl⟩:=List.getElem?_eq_some_iff.1 h
 exact List.set_getElem_self h1
set_option maxHeartbeats 1000000 in
theorem zzs (t:Tx) (cs:List Value) {w0 W:World} {F0:Nat→Prop} {Γ:List Res} (hS:Sep w0 F0 Γ W) (ht:At Γ (rep t cs shTx)) (hb:TxSmall t) :
  Calls Tryd.prog 25 #[.agg cs.toArray] W (RS w0 F0 Γ shTx t):=by
 (have hO:=hS.open_tx (by repeat (exact ht));clear hS;obtain ⟨A,n,c,A2,n2,c2,rfl,i1,hS⟩:=hO)
 obtain ⟨th,ins,outs⟩:=t
 obtain ⟨hb1,hb2,hb3,hb4⟩:=hb
 simp only at hb1 hb2 hb3 hb4
 go_enter Tryd.func25,Tryd.ntmps25
 (go_wp2_with ((refine Sep.wbox hS (by rfl) rfl rfl ?_;clear hS;intro gt W hS;refine Stop.go ?_));refine Stop.mk ?_)
 (go_wp2_with ((refine Sep.walloc hS (by rfl) rfl (by exact z_tx) ?_;clear hS;intro gr W hS;refine Stop.go ?_));refine Stop.mk ?_)
 go_wp2_with fail
 (refine Sep.regionT hS [7,9] (by kernel_rfl) ?_;clear hS;intro W hS)
 (refine z0m 0 rfl rfl (by ((apply Yl.pure;intro W;go_simp;with_reducible rfl))) (hS.sub (by repeat (with_reducible exact Sub.refl))) (by kernel_rfl) (fun _ _ _ h=>h) ?_;simp only [Act.put,List.setIfInBounds_toArray,List.set_cons_zero,List.set_cons_succ])
 (refine z0m 1 rfl rfl (by (exact Yl.load1b rfl rfl (z1o rfl) (by repeat (first|with_reducible exact At.z|apply At.s)) rfl)) (hS.sub (by repeat (with_reducible exact Sub.refl))) (by kernel_rfl) (fun _ _ _ h=>h) ?_;simp only [Act.put,List.setIfInBounds_toArray,List.set_cons_zero,List.set_cons_succ])
 (refine z0m 3 rfl rfl (by ((apply Yl.pure;intro W;go_simp;with_reducible rfl))) (hS.sub (by repeat (with_reducible exact Sub.refl))) (by kernel_rfl) (fun _ _ _ h=>h) ?_;simp only [Act.put,List.setIfInBounds_toArray,List.set_cons_zero,List.set_cons_succ])
 (refine z0m 4 rfl rfl (by (exact Yl.load1b rfl rfl (z1o rfl) (by repeat (first|with_reducible exact At.z|apply At.s)) rfl)) (hS.sub (by repeat (with_reducible exact Sub.refl))) (by kernel_rfl) (fun _ _ _ h=>h) ?_;simp only [Act.put,List.setIfInBounds_toArray,List.set_cons_zero,List.set_cons_succ])
 refine z74 2 (by kernel_rfl) rfl ?_
 go_wp2_with fail
 refine (hS.cloned (hS.len (by repeat (first|with_reducible exact At.z|apply At.s))).1 (zys _ _ _ _ _ _ (hS.getRds (by repeat (first|with_reducible exact At.z|apply At.s))) (fun b hb=>Free.lt hS hb) (by have:=hS.len (xs:=ins) (A:=A) (by repeat (first|with_reducible exact At.z|apply At.s));omega))).mono ?_
 clear hS;rintro e W ⟨v1,rfl,hS⟩
 go_wp2_with fail
 (refine ⟨fun _=>hS.sub (by repeat (first|with_reducible exact Sub.refl|refine Sub.take (by repeat (first|with_reducible exact Del.z|apply Del.s)) ?_|apply Sub.skip)),?_⟩;try simp only [Act.put,List.setIfInBounds_toArray,List.set_cons_zero,List.set_cons_succ])
 (refine z0m 6 rfl rfl (by ((apply Yl.pure;intro W;go_simp;with_reducible rfl))) (hS.sub (by repeat (first|with_reducible exact Sub.refl|refine Sub.take (by repeat (first|with_reducible exact Del.z|apply Del.s)) ?_|apply Sub.skip))) (by kernel_rfl) (fun _ _ _ h=>h) ?_;simp only [Act.put,List.setIfInBounds_toArray,List.set_cons_zero,List.set_cons_succ])
 refine z74 5 (by kernel_rfl) rfl ?_
 go_wp2_with fail
 refine (hS.cloned (hS.len (by repeat (first|with_reducible exact At.z|apply At.s))).1 (zw6 _ _ _ _ _ _ (hS.getRds (by repeat (first|with_reducible exact At.z|apply At.s))) (fun b hb=>Free.lt hS hb) (by have:=hS.len (xs:=outs) (A:=A2) (by repeat (first|with_reducible exact At.z|apply At.s));omega))).mono ?_
 clear hS;rintro e W ⟨v2,rfl,hS⟩
 go_wp2_with fail
 (refine ⟨fun _=>hS.sub (by repeat (first|with_reducible exact Sub.refl|refine Sub.take (by repeat (first|with_reducible exact Del.z|apply Del.s)) ?_|apply Sub.skip)),?_⟩;try simp only [Act.put,List.setIfInBounds_toArray,List.set_cons_zero,List.set_cons_succ])
 obtain ⟨A3,c3,rfl,_,_⟩:=hS.rowSlice (S:=shIn) (v:=v1) (by repeat (first|with_reducible exact At.z|apply At.s))
 obtain ⟨A4,c4,rfl,_,_⟩:=hS.rowSlice (S:=shOut) (v:=v2) (by repeat (with_reducible exact At.z))
 refine z74 7 (by kernel_rfl) rfl ?_
 go_wp2_with (((refine Sep.wstore1b hS rfl rfl rfl rfl (z1o rfl) rfl (by repeat (first|with_reducible exact At.z|apply At.s)) rfl rfl (by repeat (first|with_reducible exact Put.z|apply Put.s)) ?_;clear hS;intro W hS;simp only [Act.eval,Array.getD_eq_getD_getElem?,List.getElem?_toArray,List.getElem?_cons_succ,List.getElem?_cons_zero,Option.getD_some,List.set_cons_zero,List.set_cons_succ] at hS)))
 (refine ⟨fun h=>z7w (by kernel_rfl) h,?_⟩;try simp only [Act.put,List.setIfInBounds_toArray,List.set_cons_zero,List.set_cons_succ])
 refine z74 8 (by kernel_rfl) rfl ?_
 go_wp2_with ((first|(refine Sep.wbox hS rfl rfl rfl ?_;clear hS;intro g W hS)|(refine Sep.walloc hS rfl rfl (by exact zoq) ?_;clear hS;intro g W hS)|(refine Sep.wload1b hS rfl rfl rfl (z1o rfl) (by repeat (first|with_reducible exact At.z|apply At.s)) rfl ?_)|(refine Sep.wloadNb hS rfl rfl rfl (by repeat (first|with_reducible exact At.z|apply At.s)) (z29 rfl) ?_)|(refine Sep.wload1z hS rfl rfl rfl (z1o rfl) (by repeat (apply At.s)) rfl ?_)|(refine Sep.wload1c hS rfl rfl rfl (z1o rfl) (by repeat (apply At.s)) rfl ?_)|(refine Sep.wloadNz hS rfl rfl rfl (by repeat (apply At.s)) (z29 rfl) ?_)|(refine Sep.wstore1b hS rfl rfl rfl rfl (z1o rfl) rfl (by repeat (first|with_reducible exact At.z|apply At.s)) rfl rfl (by repeat (first|with_reducible exact Put.z|apply Put.s)) ?_;clear hS;intro W hS;simp only [Act.eval,Array.getD_eq_getD_getElem?,List.getElem?_toArray,List.getElem?_cons_succ,List.getElem?_cons_zero,Option.getD_some,List.set_cons_zero,List.set_cons_succ] at hS)|(refine Sep.wstoreNb hS rfl rfl rfl rfl (z29 rfl) (by simp [z96,Value.oneCell']) (by repeat (first|with_reducible exact At.z|apply At.s)) (by rfl) (by repeat (first|with_reducible exact Put.z|apply Put.s)) ?_;clear hS;intro W hS)|(refine Sep.wloadNr hS rfl rfl rfl (by repeat (apply At.s)) (z29 rfl) (by omega) ?_;clear hS;intro z cs hz hS;(first|(have hO:=hS.open_int (by first|with_reducible exact At.z|exact At.s At.z);obtain ⟨rfl,hI⟩:=hO)|(have hO:=hS.open_str (by first|with_reducible exact At.z|exact At.s At.z);obtain ⟨rfl,hI⟩:=hO)|(have hO:=hS.open_op (by first|with_reducible exact At.z|exact At.s At.z);obtain ⟨rfl,hI,hJ⟩:=hO)|(have hO:=hS.open_point (by first|with_reducible exact At.z|exact At.s At.z);obtain ⟨rfl,hI,hJ⟩:=hO)|(have hO:=hS.open_in (by first|with_reducible exact At.z|exact At.s At.z);clear hS;obtain ⟨A',n',c',rfl,hI,hJ,hS⟩:=hO)|(have hO:=hS.open_out (by first|with_reducible exact At.z|exact At.s At.z);clear hS;obtain ⟨A',n',c',rfl,hI,hS⟩:=hO)|(have hO:=hS.open_tx (by first|with_reducible exact At.z|exact At.s At.z);clear hS;obtain ⟨A',n',c',A2',n2',c2',rfl,hI,hS⟩:=hO)|(have hO:=hS.open_book (by first|with_reducible exact At.z|exact At.s At.z);clear hS;obtain ⟨A',n',c',rfl,hS⟩:=hO)|(have hO:=hS.open_undo (by first|with_reducible exact At.z|exact At.s At.z);clear hS;obtain ⟨A',n',c',rfl,hS⟩:=hO)|(have hO:=hS.open_coin (by first|with_reducible exact At.z|exact At.s At.z);clear hS;obtain ⟨A',n',c',rfl,hI,hJ,hK,hL,hS⟩:=hO)|(have hO:=hS.open_block (by first|with_reducible exact At.z|exact At.s At.z);clear hS;obtain ⟨A',n',c',rfl,hI,hJ,hK,hL,hS⟩:=hO)|(have hO:=hS.open_tree (by first|with_reducible exact At.z|exact At.s At.z);clear hS;obtain ⟨A',n',c',A2',n2',c2',rfl,hS⟩:=hO)|(have hO:=hS.open_node (by first|with_reducible exact At.z|exact At.s At.z);clear hS;obtain ⟨A',n',c',A2',n2',c2',A3',n3',c3',rfl,hI,hS⟩:=hO)))|((first|refine Sep.windexN hS rfl rfl rfl rfl (by repeat (first|with_reducible exact At.z|apply At.s)) (by exact zwy) (by omega) ?_|refine Sep.windex hS rfl rfl rfl rfl (by repeat (first|with_reducible exact At.z|apply At.s)) (by exact zwy) (by omega) (by omega) ?_);clear hS;intro b q z cs hz hS;(first|(have hO:=hS.open_int (At.s At.z);obtain ⟨rfl,hI⟩:=hO)|(have hO:=hS.open_str (At.s At.z);obtain ⟨rfl,hI⟩:=hO)|(have hO:=hS.open_op (At.s At.z);obtain ⟨rfl,hI,hJ⟩:=hO)|(have hO:=hS.open_point (At.s At.z);obtain ⟨rfl,hI,hJ⟩:=hO)|(have hO:=hS.open_in (At.s At.z);clear hS;obtain ⟨A',n',c',rfl,hI,hJ,hS⟩:=hO)|(have hO:=hS.open_out (At.s At.z);clear hS;obtain ⟨A',n',c',rfl,hI,hS⟩:=hO)|(have hO:=hS.open_tx (At.s At.z);clear hS;obtain ⟨A',n',c',A2',n2',c2',rfl,hI,hS⟩:=hO)|(have hO:=hS.open_book (At.s At.z);clear hS;obtain ⟨A',n',c',rfl,hS⟩:=hO)|(have hO:=hS.open_undo (At.s At.z);clear hS;obtain ⟨A',n',c',rfl,hS⟩:=hO)|(have hO:=hS.open_coin (At.s At.z);clear hS;obtain ⟨A',n',c',rfl,hI,hJ,hK,hL,hS⟩:=hO)|(have hO:=hS.open_block (At.s At.z);clear hS;obtain ⟨A',n',c',rfl,hI,hJ,hK,hL,hS⟩:=hO)|(have hO:=hS.open_tree (At.s At.z);clear hS;obtain ⟨A',n',c',A2',n2',c2',rfl,hS⟩:=hO)|(have hO:=hS.open_node (At.s At.z);clear hS;obtain ⟨A',n',c',A2',n2',c2',A3',n3',c3',rfl,hI,hS⟩:=hO)))))
 (refine ⟨fun h=>z7w (by kernel_rfl) h,?_⟩;try simp only [Act.put,List.setIfInBounds_toArray,List.set_cons_zero,List.set_cons_succ])
 refine z74 9 (by kernel_rfl) rfl ?_
 go_wp2_with (((refine Sep.wstore1b hS rfl rfl rfl rfl (z1o rfl) rfl (by repeat (first|with_reducible exact At.z|apply At.s)) rfl rfl (by repeat (first|with_reducible exact Put.z|apply Put.s)) ?_;clear hS;intro W hS;simp only [Act.eval,Array.getD_eq_getD_getElem?,List.getElem?_toArray,List.getElem?_cons_succ,List.getElem?_cons_zero,Option.getD_some,List.set_cons_zero,List.set_cons_succ] at hS)))
 (refine ⟨fun h=>z7w (by kernel_rfl) h,?_⟩;try simp only [Act.put,List.setIfInBounds_toArray,List.set_cons_zero,List.set_cons_succ])
 refine z6m (by kernel_rfl) ?_
 go_wp2_with (((refine Sep.wload1b hS (by rfl) rfl rfl (z1o rfl) (by repeat (first|with_reducible exact At.z|apply At.s)) rfl ?_)))
 go_loopw [3,4,18] (fun _ _ i wr=>∃ k:Nat,k≤ins.length∧i = .int .i64 k∧Sep w0 F0 (row 56 (.slice A4 outs.length c4) outs shOut::row 76 (.slice A3 ins.length c3) ins shIn::box gr [.int .i64 0,.slice none 0 0,.slice none 0 0] 43::box gt [.int .i64 th,.slice A3 ins.length c3,.slice A4 outs.length c4] 43::Γ) wr) (fun _ _ i _=>ins.length - (intOf i).toNat)
 case atStart=>exact ⟨0,by omega,rfl,hS.sub (by repeat (first|with_reducible exact Sub.refl|refine Sub.take (by repeat (first|with_reducible exact Del.z|apply Del.s)) ?_|apply Sub.skip))⟩
 case round =>
  clear hS
  obtain ⟨k,hk,rfl,hS⟩:=hrel
  rcases Classical.em (k<ins.length) with hlt|hlt
  ·obtain ⟨g,rfl,_,_,_⟩:=hS.rowSome (S:=shIn) (k:=k) (by repeat (first|with_reducible exact At.z|apply At.s)) hlt
   have i1:(0:Int)≤(k:Int):=by omega
   have i2:(k:Int)<(ins.length:Int):=by omega
   (go_wp2_with (first|(refine Sep.wbox hS rfl rfl rfl ?_;clear hS;intro gx W hS;refine Stop.go ?_)|(refine Sep.walloc hS rfl rfl (by first|exact zoq|exact z_in) ?_;clear hS;intro gx W hS;refine Stop.go ?_)|((refine Sep.wloadNr hS rfl rfl rfl (by repeat (first|with_reducible exact At.z|apply At.s)) (z29 rfl) (by omega) ?_;clear hS;intro z cs hz hS;((have hO:=hS.open_in (by with_reducible exact At.z);clear hS;obtain ⟨A',n',c',rfl,hI,hJ,hS⟩:=hO)))));refine Stop.mk ?_)
   go_wp2_with (((refine Sep.wstoreNb hS (by rfl) rfl rfl rfl (z29 rfl) (by simp [z96,Value.oneCell']) (by repeat (with_reducible exact At.z)) (by rfl) (by repeat (with_reducible exact Put.z)) ?_;clear hS;intro W hS)))
   (refine Sep.regionT hS [8] (by kernel_rfl) ?_;clear hS;intro W hS)
   (refine z0m 0 rfl rfl (by ((apply Yl.pure;intro W;go_simp;with_reducible rfl))) (hS.sub (by repeat (with_reducible exact Sub.refl))) (by kernel_rfl) (fun _ _ _ h=>h) ?_;simp only [Act.put,List.setIfInBounds_toArray,List.set_cons_zero,List.set_cons_succ])
   (refine z0m 1 rfl rfl (by (exact Yl.load1b rfl rfl (z1o rfl) (by repeat (first|with_reducible exact At.z|apply At.s)) rfl)) (hS.sub (by repeat (with_reducible exact Sub.refl))) (by kernel_rfl) (fun _ _ _ h=>h) ?_;simp only [Act.put,List.setIfInBounds_toArray,List.set_cons_zero,List.set_cons_succ])
   (refine z0m 2 rfl rfl (by (exact Yl.move rfl)) (hS.sub (by repeat (with_reducible exact Sub.refl))) (by kernel_rfl) (fun _ _ _ h=>h) ?_;simp only [Act.put,List.setIfInBounds_toArray,List.set_cons_zero,List.set_cons_succ])
   (refine z0m 3 rfl rfl (by ((apply Yl.pure;intro W;go_simp;with_reducible rfl))) (hS.sub (by repeat (with_reducible exact Sub.refl))) (by kernel_rfl) (fun _ _ _ h=>h) ?_;simp only [Act.put,List.setIfInBounds_toArray,List.set_cons_zero,List.set_cons_succ])
   (refine z0m 4 rfl rfl (by (exact Yl.load1b rfl rfl (z1o rfl) (by repeat (with_reducible exact At.z)) rfl)) (hS.sub (by repeat (with_reducible exact Sub.refl))) (by kernel_rfl) (fun _ _ _ h=>h) ?_;simp only [Act.put,List.setIfInBounds_toArray,List.set_cons_zero,List.set_cons_succ])
   refine z74 5 (by kernel_rfl) rfl ?_
   go_wp2_with fail
   refine (hS.cloned (hS.len (by repeat (first|with_reducible exact At.z|apply At.s))).1 (zdv _ _ _ _ _ _ (hS.getRds (by repeat (first|with_reducible exact At.z|apply At.s))) (fun b hb=>Free.lt hS hb) (by have:=hS.len (xs:=z.key) (A:=A') (by repeat (first|with_reducible exact At.z|apply At.s));have:=hb3 z (List.mem_of_getElem? hz.out);omega))).mono ?_
   clear hS;rintro e W ⟨v3,rfl,hS⟩
   go_wp2_with fail
   (refine ⟨fun _=>hS.sub (by repeat (first|with_reducible exact Sub.refl|refine Sub.take (by repeat (first|with_reducible exact Del.z|apply Del.s)) ?_|apply Sub.skip)),?_⟩;try simp only [Act.put,List.setIfInBounds_toArray,List.set_cons_zero,List.set_cons_succ])
   obtain ⟨A5,n5,c5,rfl,-,hS⟩:=hS.freezeRow (S:=shOp) (v:=v3) (by repeat (with_reducible exact Del.z))
   (refine z0m 6 rfl rfl (by ((apply Yl.pure;intro W;go_simp;with_reducible rfl))) (hS.sub (by repeat (first|with_reducible exact Sub.refl|refine Sub.take (by repeat (first|with_reducible exact Del.z|apply Del.s)) ?_|apply Sub.skip))) (by kernel_rfl) (fun _ _ _ h=>h) ?_;simp only [Act.put,List.setIfInBounds_toArray,List.set_cons_zero,List.set_cons_succ])
   (refine z0m 7 rfl rfl (by ((apply Yl.pure;intro W;go_simp;with_reducible rfl))) (hS.sub (by repeat (first|with_reducible exact Sub.refl|refine Sub.take (by repeat (first|with_reducible exact Del.z|apply Del.s)) ?_|apply Sub.skip))) (by kernel_rfl) (fun _ _ _ h=>h) ?_;simp only [Act.put,List.setIfInBounds_toArray,List.set_cons_zero,List.set_cons_succ])
   refine z74 8 (by kernel_rfl) rfl ?_
   refine Sep.wstore1r hS rfl rfl (S:=shIn) (z':=z) (k:=k) (j:=2) rfl rfl (z1o rfl) rfl (by repeat (first|with_reducible exact Del.z|apply Del.s)) hz.out (by decide) ?_ ?_
   ·intro cs hr
    obtain ⟨A6,n6,c6,rfl,h1,h2,h3⟩:=zl3 hr
    exact z04n h1 h2 ((hS.front (by repeat (first|with_reducible exact Del.z|apply Del.s))).getRds (by repeat (first|with_reducible exact At.z|apply At.s)))
   clear hS;intro W hS
   go_wp2_with fail
   (refine ⟨fun h=>z7w (by kernel_rfl) h,?_⟩;try simp only [Act.put,List.setIfInBounds_toArray,List.set_cons_zero,List.set_cons_succ])
   refine z6m (by kernel_rfl) ?_
   go_wp2_with fail
   rw [zoy hz.out] at hS
   go_roundw
   case measure=>simp [intOf];omega
   case rel=>exact ⟨k+1,by omega,by go_num,hS.sub (by repeat (first|with_reducible exact Sub.refl|refine Sub.take (by repeat (first|with_reducible exact Del.z|apply Del.s)) ?_|apply Sub.skip))⟩
  ·obtain rfl:k=ins.length:=by omega
   go_wp2_with (((refine Sep.wload1b hS (by rfl) rfl rfl (z1o rfl) (by repeat (first|with_reducible exact At.z|apply At.s)) rfl ?_)))
   go_loopw [5,6,35] (fun _ _ i wr=>∃ k:Nat,k≤outs.length∧i = .int .i64 k∧Sep w0 F0 (row 56 (.slice A4 outs.length c4) outs shOut::row 76 (.slice A3 ins.length c3) ins shIn::box gr [.int .i64 0,.slice none 0 0,.slice none 0 0] 43::box gt [.int .i64 th,.slice A3 ins.length c3,.slice A4 outs.length c4] 43::Γ) wr) (fun _ _ i _=>outs.length - (intOf i).toNat)
   case atStart=>exact ⟨0,by omega,rfl,hS.sub (by repeat (with_reducible exact Sub.refl))⟩
   case round =>
    clear hS
    obtain ⟨k,hk,rfl,hS⟩:=hrel
    rcases Classical.em (k<outs.length) with hlt|hlt
    ·obtain ⟨g,rfl,_,_,_⟩:=hS.rowSome (S:=shOut) (k:=k) (by repeat (with_reducible exact At.z)) hlt
     have i1:(0:Int)≤(k:Int):=by omega
     have i2:(k:Int)<(outs.length:Int):=by omega
     (go_wp2_with (first|(refine Sep.wbox hS rfl rfl rfl ?_;clear hS;intro gx W hS;refine Stop.go ?_)|(refine Sep.walloc hS rfl rfl (by first|exact zoq|exact z00l) ?_;clear hS;intro gx W hS;refine Stop.go ?_)|((refine Sep.wloadNr hS rfl rfl rfl (by repeat (first|with_reducible exact At.z|apply At.s)) (z29 rfl) (by omega) ?_;clear hS;intro z cs hz hS;((have hO:=hS.open_out (by with_reducible exact At.z);clear hS;obtain ⟨A',n',c',rfl,hI,hS⟩:=hO)))));refine Stop.mk ?_)
     go_wp2_with (((refine Sep.wstoreNb hS (by rfl) rfl rfl rfl (z29 rfl) (by simp [z96,Value.oneCell']) (by repeat (with_reducible exact At.z)) (by rfl) (by repeat (with_reducible exact Put.z)) ?_;clear hS;intro W hS)))
     (refine Sep.regionT hS [8] (by kernel_rfl) ?_;clear hS;intro W hS)
     (refine z0m 0 rfl rfl (by ((apply Yl.pure;intro W;go_simp;with_reducible rfl))) (hS.sub (by repeat (with_reducible exact Sub.refl))) (by kernel_rfl) (fun _ _ _ h=>h) ?_;simp only [Act.put,List.setIfInBounds_toArray,List.set_cons_zero,List.set_cons_succ])
     (refine z0m 1 rfl rfl (by (exact Yl.load1b rfl rfl (z1o rfl) (by repeat (first|with_reducible exact At.z|apply At.s)) rfl)) (hS.sub (by repeat (with_reducible exact Sub.refl))) (by kernel_rfl) (fun _ _ _ h=>h) ?_;simp only [Act.put,List.setIfInBounds_toArray,List.set_cons_zero,List.set_cons_succ])
     (refine z0m 2 rfl rfl (by (exact Yl.move rfl)) (hS.sub (by repeat (with_reducible exact Sub.refl))) (by kernel_rfl) (fun _ _ _ h=>h) ?_;simp only [Act.put,List.setIfInBounds_toArray,List.set_cons_zero,List.set_cons_succ])
     (refine z0m 3 rfl rfl (by ((apply Yl.pure;intro W;go_simp;with_reducible rfl))) (hS.sub (by repeat (with_reducible exact Sub.refl))) (by kernel_rfl) (fun _ _ _ h=>h) ?_;simp only [Act.put,List.setIfInBounds_toArray,List.set_cons_zero,List.set_cons_succ])
     (refine z0m 4 rfl rfl (by (exact Yl.load1b rfl rfl (z1o rfl) (by repeat (with_reducible exact At.z)) rfl)) (hS.sub (by repeat (with_reducible exact Sub.refl))) (by kernel_rfl) (fun _ _ _ h=>h) ?_;simp only [Act.put,List.setIfInBounds_toArray,List.set_cons_zero,List.set_cons_succ])
     refine z74 5 (by kernel_rfl) rfl ?_
     go_wp2_with fail
     refine (hS.cloned (hS.len (by repeat (first|with_reducible exact At.z|apply At.s))).1 (zdv _ _ _ _ _ _ (hS.getRds (by repeat (first|with_reducible exact At.z|apply At.s))) (fun b hb=>Free.lt hS hb) (by have:=hS.len (xs:=z.lock) (A:=A') (by repeat (first|with_reducible exact At.z|apply At.s));have:=hb4 z (List.mem_of_getElem? hz.out);omega))).mono ?_
     clear hS;rintro e W ⟨v3,rfl,hS⟩
     go_wp2_with fail
     (refine ⟨fun _=>hS.sub (by repeat (first|with_reducible exact Sub.refl|refine Sub.take (by repeat (first|with_reducible exact Del.z|apply Del.s)) ?_|apply Sub.skip)),?_⟩;try simp only [Act.put,List.setIfInBounds_toArray,List.set_cons_zero,List.set_cons_succ])
     obtain ⟨A5,n5,c5,rfl,-,hS⟩:=hS.freezeRow (S:=shOp) (v:=v3) (by repeat (with_reducible exact Del.z))
     (refine z0m 6 rfl rfl (by ((apply Yl.pure;intro W;go_simp;with_reducible rfl))) (hS.sub (by repeat (first|with_reducible exact Sub.refl|refine Sub.take (by repeat (first|with_reducible exact Del.z|apply Del.s)) ?_|apply Sub.skip))) (by kernel_rfl) (fun _ _ _ h=>h) ?_;simp only [Act.put,List.setIfInBounds_toArray,List.set_cons_zero,List.set_cons_succ])
     (refine z0m 7 rfl rfl (by ((apply Yl.pure;intro W;go_simp;with_reducible rfl))) (hS.sub (by repeat (first|with_reducible exact Sub.refl|refine Sub.take (by repeat (first|with_reducible exact Del.z|apply Del.s)) ?_|apply Sub.skip))) (by kernel_rfl) (fun _ _ _ h=>h) ?_;simp only [Act.put,List.setIfInBounds_toArray,List.set_cons_zero,List.set_cons_succ])
     refine z74 8 (by kernel_rfl) rfl ?_
     refine Sep.wstore1r hS rfl rfl (S:=shOut) (z':=z) (k:=k) (j:=1) rfl rfl (z1o rfl) rfl (by repeat (first|with_reducible exact Del.z|apply Del.s)) hz.out (by decide) ?_ ?_
     ·intro cs hr
      obtain ⟨A6,n6,c6,rfl,h1,h2⟩:=zcj hr
      exact z038 h1 ((hS.front (by repeat (first|with_reducible exact Del.z|apply Del.s))).getRds (by repeat (first|with_reducible exact At.z|apply At.s)))
     clear hS;intro W hS
     go_wp2_with fail
     (refine ⟨fun h=>z7w (by kernel_rfl) h,?_⟩;try simp only [Act.put,List.setIfInBounds_toArray,List.set_cons_zero,List.set_cons_succ])
     refine z6m (by kernel_rfl) ?_
     go_wp2_with fail
     rw [zoy hz.out] at hS
     go_roundw
     case measure=>simp [intOf];omega
     case rel=>exact ⟨k+1,by omega,by go_num,hS.sub (by repeat (first|with_reducible exact Sub.refl|refine Sub.take (by repeat (first|with_reducible exact Del.z|apply Del.s)) ?_|apply Sub.skip))⟩
    ·obtain rfl:k=outs.length:=by omega
     go_wp2_with ((first|(refine Sep.wloadNb hS (by rfl) rfl rfl (by repeat (first|with_reducible exact At.z|apply At.s)) (z29 rfl) ?_)|(refine Sep.wstoreNb hS (by rfl) rfl rfl rfl (z29 rfl) (by simp [z96,Value.oneCell']) (by repeat (first|with_reducible exact At.z|apply At.s)) (by rfl) (by repeat (first|with_reducible exact Put.z|apply Put.s)) ?_;clear hS;intro W hS)))
     refine bodyPost_ret (zzf rfl (by exact Got.boxN hS rfl (by repeat (first|with_reducible exact At.z|apply At.s)) (z29 rfl))) rfl ?_
     obtain ⟨A7,n7,c7,e7,-,hS⟩:=hS.freezeRow (S:=shIn) (xs:=ins) (e:=76) (by repeat (first|with_reducible exact Del.z|apply Del.s))
     obtain ⟨A8,n8,c8,e8,-,hS⟩:=hS.freezeRow (S:=shOut) (xs:=outs) (e:=56) (by repeat (first|with_reducible exact Del.z|apply Del.s))
     simp only [Value.slice.injEq] at e7 e8
     obtain ⟨rfl,rfl,rfl⟩:=e7
     obtain ⟨rfl,rfl,rfl⟩:=e8
     have hS:=hS.mk_tx (k:=th) (ins:=ins) (outs:=outs) (by repeat (first|with_reducible exact At.z|apply At.s)) (by repeat (with_reducible exact At.z)) i1
     exact ⟨_,rfl,hS.sub (by repeat (first|with_reducible exact Sub.refl|refine Sub.take (by repeat (first|with_reducible exact Del.z|apply Del.s)) ?_|apply Sub.skip))⟩
end
section
open Go.RowKit
set_option maxRecDepth 100000
end
section
open Go.RowKit
set_option maxRecDepth 100000
theorem z9z {l:List Op} (h:za l=0):l.length≤1000000:=by
 unfold za at h
 split at h
 ·cases h
 ·omega
theorem zrk {l seen:List In} (h:z1u l seen=0):∀ x ∈ l,x.key.length≤1000000:=by
 induction l generalizing seen with
 | nil=>intro x hx;cases hx
 | cons y l ih =>
  rw [z1u] at h
  by_cases h1:z3f y≠0
  ·rw [if_pos h1] at h;exact absurd h h1
  ·rw [if_neg h1] at h
   by_cases h2:0≤z4j seen y.p 0
   ·rw [if_pos h2] at h;cases h
   ·rw [if_neg h2] at h
    intro x hx
    rcases List.mem_cons.1 hx with rfl|hx
    ·have h3:z3f x=0:=by simpa using h1
     unfold z3f at h3
     split at h3
     ·cases h3
     ·exact z9z h3
    ·exact ih h x hx
theorem zp0 {l:List Out} (h:z1g l=0):∀ x ∈ l,x.lock.length≤1000000:=by
 induction l with
 | nil=>intro x hx;cases hx
 | cons y l ih =>
  rw [z1g] at h
  by_cases h1:z3m y≠0
  ·rw [if_pos h1] at h;exact absurd h h1
  ·rw [if_neg h1] at h
   intro x hx
   rcases List.mem_cons.1 hx with rfl|hx
   ·have h3:z3m x=0:=by simpa using h1
    unfold z3m at h3
    split at h3
    ·cases h3
    ·exact z9z h3
   ·exact ih h x hx
theorem zaz {t:Tx} (h:zj t=0):TxSmall t:=by
 unfold zj at h
 by_cases h1:z11 t≠0
 ·rw [if_pos h1] at h;exact absurd h h1
 ·rw [if_neg h1] at h
  by_cases h2:z1u t.ins []≠0
  ·rw [if_pos h2] at h;exact absurd h h2
  ·rw [if_neg h2] at h
   by_cases h3:z1g t.outs≠0
   ·rw [if_pos h3] at h;exact absurd h h3
   ·have h4:z11 t=0:=by simpa using h1
    unfold z11 at h4
    split at h4
    ·cases h4
    ·rename_i h5
     exact ⟨by omega,by omega,zrk (by simpa using h2),zp0 (by simpa using h3)⟩
end
section
open Go.RowKit
set_option maxRecDepth 100000
def za0:Block:=⟨0,0,0,0,[]⟩
def z02e (t:Tree) (m:Int):Int:=if z92 t≠0 then z92 t else if idx t.names m<0 then 5 else 0
def z04f (t:Tree) (m:Int):Block:=if z02e t m=0 then z7m t.blocks (idx t.names m) else za0
end
section
open Go.RowKit
set_option maxRecDepth 100000
end
section
open Go.RowKit
set_option maxRecDepth 100000
end
end Go.Proofs.YtnklncinjahckaaDoor
