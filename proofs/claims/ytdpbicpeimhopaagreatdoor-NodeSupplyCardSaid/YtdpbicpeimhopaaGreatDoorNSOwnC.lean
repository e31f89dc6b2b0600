/- Own texts, put together by wip/bundle.py: Copy, Copy2, Add, Work, PathR, Grown. -/
import Derived.Outline
import Derived.Deep.DeepCutAuto
import Derived.Test.YtdpbicpeimhopaaGreatDoorNSOwnB2
set_option linter.unusedVariables false
set_option linter.unusedSimpArgs false
namespace Go.Proofs.YtdpbicpeimhopaaGreatDoor
section
open Go.RowKit
set_option maxRecDepth 100000
theorem Sep.cloned {P:Program} {w0 W:World} {F0:Nat→Prop} {Γ:List Res} (h:Sep w0 F0 Γ W) {α:Type} {S:Sh α} {xs:List α} {e n:Nat} {f:FuncId} {args:Array Value} (hn:xs.length=n) (hc:Calls P f args W (z80 S e W (Free w0.heap.size F0 Γ W) xs n)):Calls P f args W (RO w0 F0 Γ S e xs):=by
 refine hc.mono ?_
 rintro r W' ⟨v,zs,rfl,h1,h2,h3,h4⟩
 exact ⟨v,rfl,h.addRow (ze0 h4) h1 (by rw [hn];exact h3) h2⟩
structure TxSmall (t:Tx):Prop where
 ins:t.ins.length≤1000
 outs:t.outs.length≤1000
 key:∀ x ∈ t.ins,x.key.length≤1000000
 lock:∀ x ∈ t.outs,x.lock.length≤1000000
structure BlockSmall (b:Block):Prop where
 txs:b.txs.length≤1000
 each:∀ t ∈ b.txs,TxSmall t
structure TreeSmall (t:Tree):Prop where
 names:t.names.length≤1000
 blocks:t.blocks.length≤1000
 each:∀ b ∈ t.blocks,BlockSmall b
theorem zfd {α:Type} {l:List α} {k:Nat} {z:α} (h:l[k]? = some z):l.set k z=l:=by
 obtain ⟨h1,rfl⟩:=List.getElem?_eq_some_iff.1 h
 exact List.set_getElem_self h1
set_option maxHeartbeats 1000000 in
theorem zva (t:Tx) (cs:List Value) {w0 W:World} {F0:Nat→Prop} {Γ:List Res} (hS:Sep w0 F0 Γ W) (ht:At Γ (rep t cs shTx)) (hb:TxSmall t) :
  Calls Tryz.prog 137 #[.agg cs.toArray] W (RS w0 F0 Γ shTx t):=by
 (have hO:=hS.open_tx (by repeat (exact ht));clear hS;obtain ⟨A,n,c,A2,n2,c2,rfl,i1,hS⟩:=hO)
 obtain ⟨th,ins,outs⟩:=t
 obtain ⟨hb1,hb2,hb3,hb4⟩:=hb
 simp only at hb1 hb2 hb3 hb4
 go_enter Tryz.func137,Tryz.ntmps137
 (go_wp2_with ((refine Sep.wbox hS (by rfl) rfl rfl ?_;clear hS;intro gt W hS;refine Stop.go ?_));refine Stop.mk ?_)
 (go_wp2_with ((refine Sep.walloc hS (by rfl) rfl (by exact z4g) ?_;clear hS;intro gr W hS;refine Stop.go ?_));refine Stop.mk ?_)
 go_wp2_with fail
 (refine Sep.regionT hS [7,9] (by kernel_rfl) ?_;clear hS;intro W hS)
 (refine zm 0 rfl rfl (by ((apply Yl.pure;intro W;go_simp;with_reducible rfl))) (hS.sub (by repeat (with_reducible exact Sub.refl))) (by kernel_rfl) (fun _ _ _ h=>h) ?_;simp only [Act.put,List.setIfInBounds_toArray,List.set_cons_zero,List.set_cons_succ])
 (refine zm 1 rfl rfl (by (exact Yl.load1b rfl rfl (z7 rfl) (by repeat (first|with_reducible exact At.z|apply At.s)) rfl)) (hS.sub (by repeat (with_reducible exact Sub.refl))) (by kernel_rfl) (fun _ _ _ h=>h) ?_;simp only [Act.put,List.setIfInBounds_toArray,List.set_cons_zero,List.set_cons_succ])
 (refine zm 3 rfl rfl (by ((apply Yl.pure;intro W;go_simp;with_reducible rfl))) (hS.sub (by repeat (with_reducible exact Sub.refl))) (by kernel_rfl) (fun _ _ _ h=>h) ?_;simp only [Act.put,List.setIfInBounds_toArray,List.set_cons_zero,List.set_cons_succ])
 (refine zm 4 rfl rfl (by (exact Yl.load1b rfl rfl (z7 rfl) (by repeat (first|with_reducible exact At.z|apply At.s)) rfl)) (hS.sub (by repeat (with_reducible exact Sub.refl))) (by kernel_rfl) (fun _ _ _ h=>h) ?_;simp only [Act.put,List.setIfInBounds_toArray,List.set_cons_zero,List.set_cons_succ])
 refine z1d 2 (by kernel_rfl) rfl ?_
 go_wp2_with fail
 refine (hS.cloned (hS.len (by repeat (first|with_reducible exact At.z|apply At.s))).1 (z07h _ _ _ _ _ _ (hS.getRds (by repeat (first|with_reducible exact At.z|apply At.s))) (fun b hb=>Free.lt hS hb) (by have:=hS.len (xs:=ins) (A:=A) (by repeat (first|with_reducible exact At.z|apply At.s));omega))).mono ?_
 clear hS;rintro e W ⟨v1,rfl,hS⟩
 go_wp2_with fail
 (refine ⟨fun _=>hS.sub (by repeat (first|with_reducible exact Sub.refl|refine Sub.take (by repeat (first|with_reducible exact Del.z|apply Del.s)) ?_|apply Sub.skip)),?_⟩;try simp only [Act.put,List.setIfInBounds_toArray,List.set_cons_zero,List.set_cons_succ])
 (refine zm 6 rfl rfl (by ((apply Yl.pure;intro W;go_simp;with_reducible rfl))) (hS.sub (by repeat (first|with_reducible exact Sub.refl|refine Sub.take (by repeat (first|with_reducible exact Del.z|apply Del.s)) ?_|apply Sub.skip))) (by kernel_rfl) (fun _ _ _ h=>h) ?_;simp only [Act.put,List.setIfInBounds_toArray,List.set_cons_zero,List.set_cons_succ])
 refine z1d 5 (by kernel_rfl) rfl ?_
 go_wp2_with fail
 refine (hS.cloned (hS.len (by repeat (first|with_reducible exact At.z|apply At.s))).1 (z04q _ _ _ _ _ _ (hS.getRds (by repeat (first|with_reducible exact At.z|apply At.s))) (fun b hb=>Free.lt hS hb) (by have:=hS.len (xs:=outs) (A:=A2) (by repeat (first|with_reducible exact At.z|apply At.s));omega))).mono ?_
 clear hS;rintro e W ⟨v2,rfl,hS⟩
 go_wp2_with fail
 (refine ⟨fun _=>hS.sub (by repeat (first|with_reducible exact Sub.refl|refine Sub.take (by repeat (first|with_reducible exact Del.z|apply Del.s)) ?_|apply Sub.skip)),?_⟩;try simp only [Act.put,List.setIfInBounds_toArray,List.set_cons_zero,List.set_cons_succ])
 obtain ⟨A3,c3,rfl,_,_⟩:=hS.rowSlice (S:=shIn) (v:=v1) (by repeat (first|with_reducible exact At.z|apply At.s))
 obtain ⟨A4,c4,rfl,_,_⟩:=hS.rowSlice (S:=shOut) (v:=v2) (by repeat (with_reducible exact At.z))
 refine z1d 7 (by kernel_rfl) rfl ?_
 go_wp2_with (((refine Sep.wstore1b hS rfl rfl rfl rfl (z7 rfl) rfl (by repeat (first|with_reducible exact At.z|apply At.s)) rfl rfl (by repeat (first|with_reducible exact Put.z|apply Put.s)) ?_;clear hS;intro W hS;simp only [Act.eval,Array.getD_eq_getD_getElem?,List.getElem?_toArray,List.getElem?_cons_succ,List.getElem?_cons_zero,Option.getD_some,List.set_cons_zero,List.set_cons_succ] at hS)))
 (refine ⟨fun h=>z43 (by kernel_rfl) h,?_⟩;try simp only [Act.put,List.setIfInBounds_toArray,List.set_cons_zero,List.set_cons_succ])
 refine z1d 8 (by kernel_rfl) rfl ?_
 go_wp2_with ((first|(refine Sep.wbox hS rfl rfl rfl ?_;clear hS;intro g W hS)|(refine Sep.walloc hS rfl rfl (by exact z2p) ?_;clear hS;intro g W hS)|(refine Sep.wload1b hS rfl rfl rfl (z7 rfl) (by repeat (first|with_reducible exact At.z|apply At.s)) rfl ?_)|(refine Sep.wloadNb hS rfl rfl rfl (by repeat (first|with_reducible exact At.z|apply At.s)) (z6 rfl) ?_)|(refine Sep.wload1z hS rfl rfl rfl (z7 rfl) (by repeat (apply At.s)) rfl ?_)|(refine Sep.wload1c hS rfl rfl rfl (z7 rfl) (by repeat (apply At.s)) rfl ?_)|(refine Sep.wloadNz hS rfl rfl rfl (by repeat (apply At.s)) (z6 rfl) ?_)|(refine Sep.wstore1b hS rfl rfl rfl rfl (z7 rfl) rfl (by repeat (first|with_reducible exact At.z|apply At.s)) rfl rfl (by repeat (first|with_reducible exact Put.z|apply Put.s)) ?_;clear hS;intro W hS;simp only [Act.eval,Array.getD_eq_getD_getElem?,List.getElem?_toArray,List.getElem?_cons_succ,List.getElem?_cons_zero,Option.getD_some,List.set_cons_zero,List.set_cons_succ] at hS)|(refine Sep.wstoreNb hS rfl rfl rfl rfl (z6 rfl) (by simp [z13,Value.oneCell']) (by repeat (first|with_reducible exact At.z|apply At.s)) (by rfl) (by repeat (first|with_reducible exact Put.z|apply Put.s)) ?_;clear hS;intro W hS)|(refine Sep.wloadNr hS rfl rfl rfl (by repeat (apply At.s)) (z6 rfl) (by omega) ?_;clear hS;intro z cs hz hS;(first|(have hO:=hS.open_int (by first|with_reducible exact At.z|exact At.s At.z);obtain ⟨rfl,hI⟩:=hO)|(have hO:=hS.open_str (by first|with_reducible exact At.z|exact At.s At.z);obtain ⟨rfl,hI⟩:=hO)|(have hO:=hS.open_op (by first|with_reducible exact At.z|exact At.s At.z);obtain ⟨rfl,hI,hJ⟩:=hO)|(have hO:=hS.open_point (by first|with_reducible exact At.z|exact At.s At.z);obtain ⟨rfl,hI,hJ⟩:=hO)|(have hO:=hS.open_in (by first|with_reducible exact At.z|exact At.s At.z);clear hS;obtain ⟨A',n',c',rfl,hI,hJ,hS⟩:=hO)|(have hO:=hS.open_out (by first|with_reducible exact At.z|exact At.s At.z);clear hS;obtain ⟨A',n',c',rfl,hI,hS⟩:=hO)|(have hO:=hS.open_tx (by first|with_reducible exact At.z|exact At.s At.z);clear hS;obtain ⟨A',n',c',A2',n2',c2',rfl,hI,hS⟩:=hO)|(have hO:=hS.open_book (by first|with_reducible exact At.z|exact At.s At.z);clear hS;obtain ⟨A',n',c',rfl,hS⟩:=hO)|(have hO:=hS.open_undo (by first|with_reducible exact At.z|exact At.s At.z);clear hS;obtain ⟨A',n',c',rfl,hS⟩:=hO)|(have hO:=hS.open_coin (by first|with_reducible exact At.z|exact At.s At.z);clear hS;obtain ⟨A',n',c',rfl,hI,hJ,hK,hL,hS⟩:=hO)|(have hO:=hS.open_block (by first|with_reducible exact At.z|exact At.s At.z);clear hS;obtain ⟨A',n',c',rfl,hI,hJ,hK,hL,hS⟩:=hO)|(have hO:=hS.open_tree (by first|with_reducible exact At.z|exact At.s At.z);clear hS;obtain ⟨A',n',c',A2',n2',c2',rfl,hS⟩:=hO)|(have hO:=hS.open_node (by first|with_reducible exact At.z|exact At.s At.z);clear hS;obtain ⟨A',n',c',A2',n2',c2',A3',n3',c3',rfl,hI,hS⟩:=hO)))|((first|refine Sep.windexN hS rfl rfl rfl rfl (by repeat (first|with_reducible exact At.z|apply At.s)) (by exact z47) (by omega) ?_|refine Sep.windex hS rfl rfl rfl rfl (by repeat (first|with_reducible exact At.z|apply At.s)) (by exact z47) (by omega) (by omega) ?_);clear hS;intro b q z cs hz hS;(first|(have hO:=hS.open_int (At.s At.z);obtain ⟨rfl,hI⟩:=hO)|(have hO:=hS.open_str (At.s At.z);obtain ⟨rfl,hI⟩:=hO)|(have hO:=hS.open_op (At.s At.z);obtain ⟨rfl,hI,hJ⟩:=hO)|(have hO:=hS.open_point (At.s At.z);obtain ⟨rfl,hI,hJ⟩:=hO)|(have hO:=hS.open_in (At.s At.z);clear hS;obtain ⟨A',n',c',rfl,hI,hJ,hS⟩:=hO)|(have hO:=hS.open_out (At.s At.z);clear hS;obtain ⟨A',n',c',rfl,hI,hS⟩:=hO)|(have hO:=hS.open_tx (At.s At.z);clear hS;obtain ⟨A',n',c',A2',n2',c2',rfl,hI,hS⟩:=hO)|(have hO:=hS.open_book (At.s At.z);clear hS;obtain ⟨A',n',c',rfl,hS⟩:=hO)|(have hO:=hS.open_undo (At.s At.z);clear hS;obtain ⟨A',n',c',rfl,hS⟩:=hO)|(have hO:=hS.open_coin (At.s At.z);clear hS;obtain ⟨A',n',c',rfl,hI,hJ,hK,hL,hS⟩:=hO)|(have hO:=hS.open_block (At.s At.z);clear hS;obtain ⟨A',n',c',rfl,hI,hJ,hK,hL,hS⟩:=hO)|(have hO:=hS.open_tree (At.s At.z);clear hS;obtain ⟨A',n',c',A2',n2',c2',rfl,hS⟩:=hO)|(have hO:=hS.open_node (At.s At.z);clear hS;obtain ⟨A',n',c',A2',n2',c2',A3',n3',c3',rfl,hI,hS⟩:=hO)))))
 (refine ⟨fun h=>z43 (by kernel_rfl) h,?_⟩;try simp only [Act.put,List.setIfInBounds_toArray,List.set_cons_zero,List.set_cons_succ])
 refine z1d 9 (by kernel_rfl) rfl ?_
 go_wp2_with (((refine Sep.wstore1b hS rfl rfl rfl rfl (z7 rfl) rfl (by repeat (first|with_reducible exact At.z|apply At.s)) rfl rfl (by repeat (first|with_reducible exact Put.z|apply Put.s)) ?_;clear hS;intro W hS;simp only [Act.eval,Array.getD_eq_getD_getElem?,List.getElem?_toArray,List.getElem?_cons_succ,List.getElem?_cons_zero,Option.getD_some,List.set_cons_zero,List.set_cons_succ] at hS)))
 (refine ⟨fun h=>z43 (by kernel_rfl) h,?_⟩;try simp only [Act.put,List.setIfInBounds_toArray,List.set_cons_zero,List.set_cons_succ])
 refine z2z (by kernel_rfl) ?_
 go_wp2_with (((refine Sep.wload1b hS (by rfl) rfl rfl (z7 rfl) (by repeat (first|with_reducible exact At.z|apply At.s)) rfl ?_)))
 go_loopw [3,4,18] (fun _ _ i wr=>∃ k:Nat,k≤ins.length∧i = .int .i64 k∧Sep w0 F0 (row 111 (.slice A4 outs.length c4) outs shOut::row 170 (.slice A3 ins.length c3) ins shIn::box gr [.int .i64 0,.slice none 0 0,.slice none 0 0] 62::box gt [.int .i64 th,.slice A3 ins.length c3,.slice A4 outs.length c4] 62::Γ) wr) (fun _ _ i _=>ins.length - (intOf i).toNat)
 case atStart=>exact ⟨0,by omega,rfl,hS.sub (by repeat (first|with_reducible exact Sub.refl|refine Sub.take (by repeat (first|with_reducible exact Del.z|apply Del.s)) ?_|apply Sub.skip))⟩
 case round =>
  clear hS
  obtain ⟨k,hk,rfl,hS⟩:=hrel
  rcases Classical.em (k<ins.length) with hlt|hlt
  ·obtain ⟨g,rfl,_,_,_⟩:=hS.rowSome (S:=shIn) (k:=k) (by repeat (first|with_reducible exact At.z|apply At.s)) hlt
   have i1:(0:Int)≤(k:Int):=by omega
   have i2:(k:Int)<(ins.length:Int):=by omega
   (go_wp2_with (first|(refine Sep.wbox hS rfl rfl rfl ?_;clear hS;intro gx W hS;refine Stop.go ?_)|(refine Sep.walloc hS rfl rfl (by first|exact z2p|exact z4r) ?_;clear hS;intro gx W hS;refine Stop.go ?_)|((refine Sep.wloadNr hS rfl rfl rfl (by repeat (first|with_reducible exact At.z|apply At.s)) (z6 rfl) (by omega) ?_;clear hS;intro z cs hz hS;((have hO:=hS.open_in (by with_reducible exact At.z);clear hS;obtain ⟨A',n',c',rfl,hI,hJ,hS⟩:=hO)))));refine Stop.mk ?_)
   go_wp2_with (((refine Sep.wstoreNb hS (by rfl) rfl rfl rfl (z6 rfl) (by simp [z13,Value.oneCell']) (by repeat (with_reducible exact At.z)) (by rfl) (by repeat (with_reducible exact Put.z)) ?_;clear hS;intro W hS)))
   (refine Sep.regionT hS [8] (by kernel_rfl) ?_;clear hS;intro W hS)
   (refine zm 0 rfl rfl (by ((apply Yl.pure;intro W;go_simp;with_reducible rfl))) (hS.sub (by repeat (with_reducible exact Sub.refl))) (by kernel_rfl) (fun _ _ _ h=>h) ?_;simp only [Act.put,List.setIfInBounds_toArray,List.set_cons_zero,List.set_cons_succ])
   (refine zm 1 rfl rfl (by (exact Yl.load1b rfl rfl (z7 rfl) (by repeat (first|with_reducible exact At.z|apply At.s)) rfl)) (hS.sub (by repeat (with_reducible exact Sub.refl))) (by kernel_rfl) (fun _ _ _ h=>h) ?_;simp only [Act.put,List.setIfInBounds_toArray,List.set_cons_zero,List.set_cons_succ])
   (refine zm 2 rfl rfl (by (exact Yl.move rfl)) (hS.sub (by repeat (with_reducible exact Sub.refl))) (by kernel_rfl) (fun _ _ _ h=>h) ?_;simp only [Act.put,List.setIfInBounds_toArray,List.set_cons_zero,List.set_cons_succ])
   (refine zm 3 rfl rfl (by ((apply Yl.pure;intro W;go_simp;with_reducible rfl))) (hS.sub (by repeat (with_reducible exact Sub.refl))) (by kernel_rfl) (fun _ _ _ h=>h) ?_;simp only [Act.put,List.setIfInBounds_toArray,List.set_cons_zero,List.set_cons_succ])
   (refine zm 4 rfl rfl (by (exact Yl.load1b rfl rfl (z7 rfl) (by repeat (with_reducible exact At.z)) rfl)) (hS.sub (by repeat (with_reducible exact Sub.refl))) (by kernel_rfl) (fun _ _ _ h=>h) ?_;simp only [Act.put,List.setIfInBounds_toArray,List.set_cons_zero,List.set_cons_succ])
   refine z1d 5 (by kernel_rfl) rfl ?_
   go_wp2_with fail
   refine (hS.cloned (hS.len (by repeat (first|with_reducible exact At.z|apply At.s))).1 (zj0 _ _ _ _ _ _ (hS.getRds (by repeat (first|with_reducible exact At.z|apply At.s))) (fun b hb=>Free.lt hS hb) (by have:=hS.len (xs:=z.key) (A:=A') (by repeat (first|with_reducible exact At.z|apply At.s));have:=hb3 z (List.mem_of_getElem? hz.out);omega))).mono ?_
   clear hS;rintro e W ⟨v3,rfl,hS⟩
   go_wp2_with fail
   (refine ⟨fun _=>hS.sub (by repeat (first|with_reducible exact Sub.refl|refine Sub.take (by repeat (first|with_reducible exact Del.z|apply Del.s)) ?_|apply Sub.skip)),?_⟩;try simp only [Act.put,List.setIfInBounds_toArray,List.set_cons_zero,List.set_cons_succ])
   obtain ⟨A5,n5,c5,rfl,-,hS⟩:=hS.freezeRow (S:=shOp) (v:=v3) (by repeat (with_reducible exact Del.z))
   (refine zm 6 rfl rfl (by ((apply Yl.pure;intro W;go_simp;with_reducible rfl))) (hS.sub (by repeat (first|with_reducible exact Sub.refl|refine Sub.take (by repeat (first|with_reducible exact Del.z|apply Del.s)) ?_|apply Sub.skip))) (by kernel_rfl) (fun _ _ _ h=>h) ?_;simp only [Act.put,List.setIfInBounds_toArray,List.set_cons_zero,List.set_cons_succ])
   (refine zm 7 rfl rfl (by ((apply Yl.pure;intro W;go_simp;with_reducible rfl))) (hS.sub (by repeat (first|with_reducible exact Sub.refl|refine Sub.take (by repeat (first|with_reducible exact Del.z|apply Del.s)) ?_|apply Sub.skip))) (by kernel_rfl) (fun _ _ _ h=>h) ?_;simp only [Act.put,List.setIfInBounds_toArray,List.set_cons_zero,List.set_cons_succ])
   refine z1d 8 (by kernel_rfl) rfl ?_
   refine Sep.wstore1r hS rfl rfl (S:=shIn) (z':=z) (k:=k) (j:=2) rfl rfl (z7 rfl) rfl (by repeat (first|with_reducible exact Del.z|apply Del.s)) hz.out (by decide) ?_ ?_
   ·intro cs hr
    obtain ⟨A6,n6,c6,rfl,h1,h2,h3⟩:=zr8 hr
    exact z0dm h1 h2 ((hS.front (by repeat (first|with_reducible exact Del.z|apply Del.s))).getRds (by repeat (first|with_reducible exact At.z|apply At.s)))
   clear hS;intro W hS
   go_wp2_with fail
   (refine ⟨fun h=>z43 (by kernel_rfl) h,?_⟩;try simp only [Act.put,List.setIfInBounds_toArray,List.set_cons_zero,List.set_cons_succ])
   refine z2z (by kernel_rfl) ?_
   go_wp2_with fail
   rw [zfd hz.out] at hS
   go_roundw
   case measure=>simp [intOf];omega
   case rel=>exact ⟨k+1,by omega,by go_num,hS.sub (by repeat (first|with_reducible exact Sub.refl|refine Sub.take (by repeat (first|with_reducible exact Del.z|apply Del.s)) ?_|apply Sub.skip))⟩
  ·obtain rfl:k=ins.length:=by omega
   go_wp2_with (((refine Sep.wload1b hS (by rfl) rfl rfl (z7 rfl) (by repeat (first|with_reducible exact At.z|apply At.s)) rfl ?_)))
   go_loopw [5,6,35] (fun _ _ i wr=>∃ k:Nat,k≤outs.length∧i = .int .i64 k∧Sep w0 F0 (row 111 (.slice A4 outs.length c4) outs shOut::row 170 (.slice A3 ins.length c3) ins shIn::box gr [.int .i64 0,.slice none 0 0,.slice none 0 0] 62::box gt [.int .i64 th,.slice A3 ins.length c3,.slice A4 outs.length c4] 62::Γ) wr) (fun _ _ i _=>outs.length - (intOf i).toNat)
   case atStart=>exact ⟨0,by omega,rfl,hS.sub (by repeat (with_reducible exact Sub.refl))⟩
   case round =>
    clear hS
    obtain ⟨k,hk,rfl,hS⟩:=hrel
    rcases Classical.em (k<outs.length) with hlt|hlt
    ·obtain ⟨g,rfl,_,_,_⟩:=hS.rowSome (S:=shOut) (k:=k) (by repeat (with_reducible exact At.z)) hlt
     have i1:(0:Int)≤(k:Int):=by omega
     have i2:(k:Int)<(outs.length:Int):=by omega
     (go_wp2_with (first|(refine Sep.wbox hS rfl rfl rfl ?_;clear hS;intro gx W hS;refine Stop.go ?_)|(refine Sep.walloc hS rfl rfl (by first|exact z2p|exact z33) ?_;clear hS;intro gx W hS;refine Stop.go ?_)|((refine Sep.wloadNr hS rfl rfl rfl (by repeat (first|with_reducible exact At.z|apply At.s)) (z6 rfl) (by omega) ?_;clear hS;intro z cs hz hS;((have hO:=hS.open_out (by with_reducible exact At.z);clear hS;obtain ⟨A',n',c',rfl,hI,hS⟩:=hO)))));refine Stop.mk ?_)
     go_wp2_with (((refine Sep.wstoreNb hS (by rfl) rfl rfl rfl (z6 rfl) (by simp [z13,Value.oneCell']) (by repeat (with_reducible exact At.z)) (by rfl) (by repeat (with_reducible exact Put.z)) ?_;clear hS;intro W hS)))
     (refine Sep.regionT hS [8] (by kernel_rfl) ?_;clear hS;intro W hS)
     (refine zm 0 rfl rfl (by ((apply Yl.pure;intro W;go_simp;with_reducible rfl))) (hS.sub (by repeat (with_reducible exact Sub.refl))) (by kernel_rfl) (fun _ _ _ h=>h) ?_;simp only [Act.put,List.setIfInBounds_toArray,List.set_cons_zero,List.set_cons_succ])
     (refine zm 1 rfl rfl (by (exact Yl.load1b rfl rfl (z7 rfl) (by repeat (first|with_reducible exact At.z|apply At.s)) rfl)) (hS.sub (by repeat (with_reducible exact Sub.refl))) (by kernel_rfl) (fun _ _ _ h=>h) ?_;simp only [Act.put,List.setIfInBounds_toArray,List.set_cons_zero,List.set_cons_succ])
     (refine zm 2 rfl rfl (by (exact Yl.move rfl)) (hS.sub (by repeat (with_reducible exact Sub.refl))) (by kernel_rfl) (fun _ _ _ h=>h) ?_;simp only [Act.put,List.setIfInBounds_toArray,List.set_cons_zero,List.set_cons_succ])
     (refine zm 3 rfl rfl (by ((apply Yl.pure;intro W;go_simp;with_reducible rfl))) (hS.sub (by repeat (with_reducible exact Sub.refl))) (by kernel_rfl) (fun _ _ _ h=>h) ?_;simp only [Act.put,List.setIfInBounds_toArray,List.set_cons_zero,List.set_cons_succ])
     (refine zm 4 rfl rfl (by (exact Yl.load1b rfl rfl (z7 rfl) (by repeat (with_reducible exact At.z)) rfl)) (hS.sub (by repeat (with_reducible exact Sub.refl))) (by kernel_rfl) (fun _ _ _ h=>h) ?_;simp only [Act.put,List.setIfInBounds_toArray,List.set_cons_zero,List.set_cons_succ])
     refine z1d 5 (by kernel_rfl) rfl ?_
     go_wp2_with fail
     refine (hS.cloned (hS.len (by repeat (first|with_reducible exact At.z|apply At.s))).1 (zj0 _ _ _ _ _ _ (hS.getRds (by repeat (first|with_reducible exact At.z|apply At.s))) (fun b hb=>Free.lt hS hb) (by have:=hS.len (xs:=z.lock) (A:=A') (by repeat (first|with_reducible exact At.z|apply At.s));have:=hb4 z (List.mem_of_getElem? hz.out);omega))).mono ?_
     clear hS;rintro e W ⟨v3,rfl,hS⟩
     go_wp2_with fail
     (refine ⟨fun _=>hS.sub (by repeat (first|with_reducible exact Sub.refl|refine Sub.take (by repeat (first|with_reducible exact Del.z|apply Del.s)) ?_|apply Sub.skip)),?_⟩;try simp only [Act.put,List.setIfInBounds_toArray,List.set_cons_zero,List.set_cons_succ])
     obtain ⟨A5,n5,c5,rfl,-,hS⟩:=hS.freezeRow (S:=shOp) (v:=v3) (by repeat (with_reducible exact Del.z))
     (refine zm 6 rfl rfl (by ((apply Yl.pure;intro W;go_simp;with_reducible rfl))) (hS.sub (by repeat (first|with_reducible exact Sub.refl|refine Sub.take (by repeat (first|with_reducible exact Del.z|apply Del.s)) ?_|apply Sub.skip))) (by kernel_rfl) (fun _ _ _ h=>h) ?_;simp only [Act.put,List.setIfInBounds_toArray,List.set_cons_zero,List.set_cons_succ])
     (refine zm 7 rfl rfl (by ((apply Yl.pure;intro W;go_simp;with_reducible rfl))) (hS.sub (by repeat (first|with_reducible exact Sub.refl|refine Sub.take (by repeat (first|with_reducible exact Del.z|apply Del.s)) ?_|apply Sub.skip))) (by kernel_rfl) (fun _ _ _ h=>h) ?_;simp only [Act.put,List.setIfInBounds_toArray,List.set_cons_zero,List.set_cons_succ])
     refine z1d 8 (by kernel_rfl) rfl ?_
     refine Sep.wstore1r hS rfl rfl (S:=shOut) (z':=z) (k:=k) (j:=1) rfl rfl (z7 rfl) rfl (by repeat (first|with_reducible exact Del.z|apply Del.s)) hz.out (by decide) ?_ ?_
     ·intro cs hr
      obtain ⟨A6,n6,c6,rfl,h1,h2⟩:=zhq hr
      exact z0c4 h1 ((hS.front (by repeat (first|with_reducible exact Del.z|apply Del.s))).getRds (by repeat (first|with_reducible exact At.z|apply At.s)))
     clear hS;intro W hS
     go_wp2_with fail
     (refine ⟨fun h=>z43 (by kernel_rfl) h,?_⟩;try simp only [Act.put,List.setIfInBounds_toArray,List.set_cons_zero,List.set_cons_succ])
     refine z2z (by kernel_rfl) ?_
     go_wp2_with fail
     rw [zfd hz.out] at hS
     go_roundw
     case measure=>simp [intOf];omega
     case rel=>exact ⟨k+1,by omega,by go_num,hS.sub (by repeat (first|with_reducible exact Sub.refl|refine Sub.take (by repeat (first|with_reducible exact Del.z|apply Del.s)) ?_|apply Sub.skip))⟩
    ·obtain rfl:k=outs.length:=by omega
     go_wp2_with ((first|(refine Sep.wloadNb hS (by rfl) rfl rfl (by repeat (first|with_reducible exact At.z|apply At.s)) (z6 rfl) ?_)|(refine Sep.wstoreNb hS (by rfl) rfl rfl rfl (z6 rfl) (by simp [z13,Value.oneCell']) (by repeat (first|with_reducible exact At.z|apply At.s)) (by rfl) (by repeat (first|with_reducible exact Put.z|apply Put.s)) ?_;clear hS;intro W hS)))
     refine bodyPost_ret (zj5 rfl (by exact Got.boxN hS rfl (by repeat (first|with_reducible exact At.z|apply At.s)) (z6 rfl))) rfl ?_
     obtain ⟨A7,n7,c7,e7,-,hS⟩:=hS.freezeRow (S:=shIn) (xs:=ins) (e:=170) (by repeat (first|with_reducible exact Del.z|apply Del.s))
     obtain ⟨A8,n8,c8,e8,-,hS⟩:=hS.freezeRow (S:=shOut) (xs:=outs) (e:=111) (by repeat (first|with_reducible exact Del.z|apply Del.s))
     simp only [Value.slice.injEq] at e7 e8
     obtain ⟨rfl,rfl,rfl⟩:=e7
     obtain ⟨rfl,rfl,rfl⟩:=e8
     have hS:=hS.mk_tx (k:=th) (ins:=ins) (outs:=outs) (by repeat (first|with_reducible exact At.z|apply At.s)) (by repeat (with_reducible exact At.z)) i1
     exact ⟨_,rfl,hS.sub (by repeat (first|with_reducible exact Sub.refl|refine Sub.take (by repeat (first|with_reducible exact Del.z|apply Del.s)) ?_|apply Sub.skip))⟩
end
section
open Go.RowKit
set_option maxRecDepth 100000
set_option maxHeartbeats 1000000 in
theorem zdj (b:Block) (cs:List Value) {w0 W:World} {F0:Nat→Prop} {Γ:List Res} (hS:Sep w0 F0 Γ W) (ht:At Γ (rep b cs shBlock)) (hb:BlockSmall b) :
  Calls Tryz.prog 68 #[.agg cs.toArray] W (RS w0 F0 Γ shBlock b):=by
 (have hO:=hS.open_block (by repeat (exact ht));clear hS;obtain ⟨A,n,c,rfl,i1,i2,i3,i4,hS⟩:=hO)
 obtain ⟨bp,bh,bw,bn,txs⟩:=b
 obtain ⟨hb1,hb2⟩:=hb
 simp only at hb1 hb2 i1 i2 i3 i4
 go_enter Tryz.func68,Tryz.ntmps68
 (go_wp2_with ((refine Sep.wbox hS (by rfl) rfl rfl ?_;clear hS;intro gt W hS;refine Stop.go ?_));refine Stop.mk ?_)
 (go_wp2_with ((refine Sep.walloc hS (by rfl) rfl (by exact z15) ?_;clear hS;intro gr W hS;refine Stop.go ?_));refine Stop.mk ?_)
 go_wp2_with (((refine Sep.wload1b hS (by rfl) rfl rfl (z7 rfl) (by repeat (first|with_reducible exact At.z|apply At.s)) rfl ?_)))
 refine (hS.cloned (hS.len (by repeat (first|with_reducible exact At.z|apply At.s))).1 (zre _ _ _ _ _ _ (hS.getRds (by repeat (first|with_reducible exact At.z|apply At.s))) (fun b hb=>Free.lt hS hb) (by have:=hS.len (xs:=txs) (A:=A) (by repeat (first|with_reducible exact At.z|apply At.s));omega))).mono ?_
 clear hS;rintro e W ⟨v1,rfl,hS⟩
 obtain ⟨A3,c3,rfl,_,_⟩:=hS.rowSlice (S:=shTx) (v:=v1) (by repeat (with_reducible exact At.z))
 go_wp2_with ((first|(refine Sep.wload1b hS rfl rfl rfl (z7 rfl) (by repeat (first|with_reducible exact At.z|apply At.s)) rfl ?_)|(refine Sep.wstore1b hS rfl rfl rfl rfl (z7 rfl) rfl (by repeat (first|with_reducible exact At.z|apply At.s)) rfl rfl (by repeat (first|with_reducible exact Put.z|apply Put.s)) ?_;clear hS;intro W hS;simp only [Act.eval,Array.getD_eq_getD_getElem?,List.getElem?_toArray,List.getElem?_cons_succ,List.getElem?_cons_zero,Option.getD_some,List.set_cons_zero,List.set_cons_succ] at hS)))
 go_loopw [3,4,12] (fun _ _ i wr=>∃ k:Nat,k≤txs.length∧i = .int .i64 k∧Sep w0 F0 (row 62 (.slice A3 txs.length c3) txs shTx::box gr [.int .i64 0,.int .i64 0,.int .i64 0,.int .i64 0,.slice none 0 0] 24::box gt [.int .i64 bp,.int .i64 bh,.int .i64 bw,.int .i64 bn,.slice A3 txs.length c3] 24::Γ) wr) (fun _ _ i _=>txs.length - (intOf i).toNat)
 case atStart=>exact ⟨0,by omega,rfl,hS.sub (by repeat (first|with_reducible exact Sub.refl|refine Sub.take (by repeat (first|with_reducible exact Del.z|apply Del.s)) ?_|apply Sub.skip))⟩
 case round =>
  clear hS
  obtain ⟨k,hk,rfl,hS⟩:=hrel
  rcases Classical.em (k<txs.length) with hlt|hlt
  ·obtain ⟨g,rfl,_,_,_⟩:=hS.rowSome (S:=shTx) (k:=k) (by repeat (with_reducible exact At.z)) hlt
   have j1:(0:Int)≤(k:Int):=by omega
   have j2:(k:Int)<(txs.length:Int):=by omega
   (go_wp2_with (first|(refine Sep.wbox hS rfl rfl rfl ?_;clear hS;intro gx W hS;refine Stop.go ?_)|(refine Sep.walloc hS rfl rfl (by first|exact z2p|exact z4g) ?_;clear hS;intro gx W hS;refine Stop.go ?_)|((refine Sep.wloadNr hS rfl rfl rfl (by repeat (first|with_reducible exact At.z|apply At.s)) (z6 rfl) (by omega) ?_;clear hS;intro z cs hz hS;((have hO:=hS.open_tx (by with_reducible exact At.z);clear hS;obtain ⟨A',n',c',A2',n2',c2',rfl,hI,hS⟩:=hO)))));refine Stop.mk ?_)
   go_wp2_with (((refine Sep.wstoreNb hS (by rfl) rfl rfl rfl (z6 rfl) (by simp [z13,Value.oneCell']) (by repeat (with_reducible exact At.z)) (by rfl) (by repeat (with_reducible exact Put.z)) ?_;clear hS;intro W hS)))
   (refine Sep.regionT hS [6] (by kernel_rfl) ?_;clear hS;intro W hS)
   (refine zm 0 rfl rfl (by ((apply Yl.pure;intro W;go_simp;with_reducible rfl))) (hS.sub (by repeat (with_reducible exact Sub.refl))) (by kernel_rfl) (fun _ _ _ h=>h) ?_;simp only [Act.put,List.setIfInBounds_toArray,List.set_cons_zero,List.set_cons_succ])
   (refine zm 1 rfl rfl (by (exact Yl.load1b rfl rfl (z7 rfl) (by repeat (first|with_reducible exact At.z|apply At.s)) rfl)) (hS.sub (by repeat (with_reducible exact Sub.refl))) (by kernel_rfl) (fun _ _ _ h=>h) ?_;simp only [Act.put,List.setIfInBounds_toArray,List.set_cons_zero,List.set_cons_succ])
   (refine zm 2 rfl rfl (by (exact Yl.move rfl)) (hS.sub (by repeat (with_reducible exact Sub.refl))) (by kernel_rfl) (fun _ _ _ h=>h) ?_;simp only [Act.put,List.setIfInBounds_toArray,List.set_cons_zero,List.set_cons_succ])
   (refine zm 3 rfl rfl (by (exact Yl.loadNb rfl rfl (by repeat (with_reducible exact At.z)) (z6 rfl))) (hS.sub (by repeat (with_reducible exact Sub.refl))) (by kernel_rfl) (fun _ _ _ h=>h) ?_;simp only [Act.put,List.setIfInBounds_toArray,List.set_cons_zero,List.set_cons_succ])
   refine z1d 4 (by kernel_rfl) rfl ?_
   go_wp2_with fail
   refine (zva z [_,_,_] hS (by repeat (first|with_reducible exact At.z|apply At.s)) (hb2 z (List.mem_of_getElem? hz.out))).mono ?_
   clear hS;rintro e W ⟨cs,rfl,hS⟩
   go_wp2_with fail
   (refine ⟨fun _=>hS.sub (by repeat (first|with_reducible exact Sub.refl|refine Sub.take (by repeat (first|with_reducible exact Del.z|apply Del.s)) ?_|apply Sub.skip)),?_⟩;try simp only [Act.put,List.setIfInBounds_toArray,List.set_cons_zero,List.set_cons_succ])
   (refine zm 5 rfl rfl (by ((apply Yl.pure;intro W;go_simp;with_reducible rfl))) (hS.sub (by repeat (first|with_reducible exact Sub.refl|refine Sub.take (by repeat (first|with_reducible exact Del.z|apply Del.s)) ?_|apply Sub.skip))) (by kernel_rfl) (fun _ _ _ h=>h) ?_;simp only [Act.put,List.setIfInBounds_toArray,List.set_cons_zero,List.set_cons_succ])
   refine z1d 6 (by kernel_rfl) rfl ?_
   refine Sep.wstoreNr hS rfl rfl z00b (z':=z) (k:=k) rfl rfl (z6 rfl) (by repeat (first|with_reducible exact Del.z|apply Del.s)) hz.out (by repeat (with_reducible exact At.z)) ?_
   clear hS;intro W hS
   go_wp2_with fail
   (refine ⟨fun h=>z43 (by kernel_rfl) h,?_⟩;try simp only [Act.put,List.setIfInBounds_toArray,List.set_cons_zero,List.set_cons_succ])
   refine z2z (by kernel_rfl) ?_
   go_wp2_with fail
   rw [zfd hz.out] at hS
   go_roundw
   case measure=>simp [intOf];omega
   case rel=>exact ⟨k+1,by omega,by go_num,hS.sub (by repeat (first|with_reducible exact Sub.refl|refine Sub.take (by repeat (first|with_reducible exact Del.z|apply Del.s)) ?_|apply Sub.skip))⟩
  ·obtain rfl:k=txs.length:=by omega
   go_wp2_with ((first|(refine Sep.wloadNb hS (by rfl) rfl rfl (by repeat (first|with_reducible exact At.z|apply At.s)) (z6 rfl) ?_)|(refine Sep.wstoreNb hS (by rfl) rfl rfl rfl (z6 rfl) (by simp [z13,Value.oneCell']) (by repeat (first|with_reducible exact At.z|apply At.s)) (by rfl) (by repeat (first|with_reducible exact Put.z|apply Put.s)) ?_;clear hS;intro W hS)))
   refine bodyPost_ret (zj5 rfl (by exact Got.boxN hS rfl (by repeat (first|with_reducible exact At.z|apply At.s)) (z6 rfl))) rfl ?_
   obtain ⟨A7,n7,c7,e7,-,hS⟩:=hS.freezeRow (S:=shTx) (xs:=txs) (e:=62) (by repeat (with_reducible exact Del.z))
   simp only [Value.slice.injEq] at e7
   obtain ⟨rfl,rfl,rfl⟩:=e7
   have hS:=hS.mk_block (txs:=txs) (by repeat (with_reducible exact At.z)) i1 i2 i3 i4
   exact ⟨_,rfl,hS.sub (by repeat (first|with_reducible exact Sub.refl|refine Sub.take (by repeat (first|with_reducible exact Del.z|apply Del.s)) ?_|apply Sub.skip))⟩
def z0e3 (w0:World) (F0:Nat→Prop) (Γ:List Res) (ti tb:Nat) (ns:List Int) (bs:List Block) (e:Ending) (W:World):Prop:=∃ A n c A' n' c',e = .returned (.agg #[.slice A n c,.slice A' n' c'])∧Sep w0 F0 (row ti (.slice A n c) ns shInt::row tb (.slice A' n' c') bs shBlock::Γ) W
set_option maxHeartbeats 1000000 in
theorem zkv (t:Tree) (cs:List Value) {w0 W:World} {F0:Nat→Prop} {Γ:List Res} (hS:Sep w0 F0 Γ W) (ht:At Γ (rep t cs shTree)) (hb:TreeSmall t) :
  Calls Tryz.prog 139 #[.agg cs.toArray] W (z0e3 w0 F0 Γ 3 24 t.names t.blocks):=by
 (have hO:=hS.open_tree (by repeat (exact ht));clear hS;obtain ⟨A,n,c,A2,n2,c2,rfl,hS⟩:=hO)
 obtain ⟨ns,bs⟩:=t
 obtain ⟨hb1,hb2,hb3⟩:=hb
 simp only at hb1 hb2 hb3
 go_enter Tryz.func139,Tryz.ntmps139
 (go_wp2_with ((refine Sep.wbox hS (by rfl) rfl rfl ?_;clear hS;intro gt W hS;refine Stop.go ?_));refine Stop.mk ?_)
 (go_wp2_with ((refine Sep.walloc hS (by rfl) rfl (by exact z1s) ?_;clear hS;intro gr W hS;refine Stop.go ?_));refine Stop.mk ?_)
 go_wp2_with fail
 (refine Sep.regionT hS [7,9] (by kernel_rfl) ?_;clear hS;intro W hS)
 (refine zm 0 rfl rfl (by ((apply Yl.pure;intro W;go_simp;with_reducible rfl))) (hS.sub (by repeat (with_reducible exact Sub.refl))) (by kernel_rfl) (fun _ _ _ h=>h) ?_;simp only [Act.put,List.setIfInBounds_toArray,List.set_cons_zero,List.set_cons_succ])
 (refine zm 1 rfl rfl (by (exact Yl.load1b rfl rfl (z7 rfl) (by repeat (first|with_reducible exact At.z|apply At.s)) rfl)) (hS.sub (by repeat (with_reducible exact Sub.refl))) (by kernel_rfl) (fun _ _ _ h=>h) ?_;simp only [Act.put,List.setIfInBounds_toArray,List.set_cons_zero,List.set_cons_succ])
 (refine zm 3 rfl rfl (by ((apply Yl.pure;intro W;go_simp;with_reducible rfl))) (hS.sub (by repeat (with_reducible exact Sub.refl))) (by kernel_rfl) (fun _ _ _ h=>h) ?_;simp only [Act.put,List.setIfInBounds_toArray,List.set_cons_zero,List.set_cons_succ])
 (refine zm 4 rfl rfl (by (exact Yl.load1b rfl rfl (z7 rfl) (by repeat (first|with_reducible exact At.z|apply At.s)) rfl)) (hS.sub (by repeat (with_reducible exact Sub.refl))) (by kernel_rfl) (fun _ _ _ h=>h) ?_;simp only [Act.put,List.setIfInBounds_toArray,List.set_cons_zero,List.set_cons_succ])
 refine z1d 2 (by kernel_rfl) rfl ?_
 go_wp2_with fail
 refine (hS.cloned (hS.len (by repeat (first|with_reducible exact At.z|apply At.s))).1 (z04p _ _ _ _ _ _ (hS.getRds (by repeat (first|with_reducible exact At.z|apply At.s))) (fun b hb=>Free.lt hS hb) (by have:=hS.len (xs:=ns) (A:=A) (by repeat (first|with_reducible exact At.z|apply At.s));omega))).mono ?_
 clear hS;rintro e W ⟨v1,rfl,hS⟩
 go_wp2_with fail
 (refine ⟨fun _=>hS.sub (by repeat (first|with_reducible exact Sub.refl|refine Sub.take (by repeat (first|with_reducible exact Del.z|apply Del.s)) ?_|apply Sub.skip)),?_⟩;try simp only [Act.put,List.setIfInBounds_toArray,List.set_cons_zero,List.set_cons_succ])
 (refine zm 6 rfl rfl (by ((apply Yl.pure;intro W;go_simp;with_reducible rfl))) (hS.sub (by repeat (first|with_reducible exact Sub.refl|refine Sub.take (by repeat (first|with_reducible exact Del.z|apply Del.s)) ?_|apply Sub.skip))) (by kernel_rfl) (fun _ _ _ h=>h) ?_;simp only [Act.put,List.setIfInBounds_toArray,List.set_cons_zero,List.set_cons_succ])
 refine z1d 5 (by kernel_rfl) rfl ?_
 go_wp2_with fail
 refine (hS.cloned (hS.len (by repeat (first|with_reducible exact At.z|apply At.s))).1 (zxd _ _ _ _ _ _ (hS.getRds (by repeat (first|with_reducible exact At.z|apply At.s))) (fun b hb=>Free.lt hS hb) (by have:=hS.len (xs:=bs) (A:=A2) (by repeat (first|with_reducible exact At.z|apply At.s));omega))).mono ?_
 clear hS;rintro e W ⟨v2,rfl,hS⟩
 go_wp2_with fail
 (refine ⟨fun _=>hS.sub (by repeat (first|with_reducible exact Sub.refl|refine Sub.take (by repeat (first|with_reducible exact Del.z|apply Del.s)) ?_|apply Sub.skip)),?_⟩;try simp only [Act.put,List.setIfInBounds_toArray,List.set_cons_zero,List.set_cons_succ])
 obtain ⟨A3,c3,rfl,_,_⟩:=hS.rowSlice (S:=shInt) (v:=v1) (by repeat (first|with_reducible exact At.z|apply At.s))
 obtain ⟨A4,c4,rfl,_,_⟩:=hS.rowSlice (S:=shBlock) (v:=v2) (by repeat (with_reducible exact At.z))
 refine z1d 7 (by kernel_rfl) rfl ?_
 go_wp2_with (((refine Sep.wstore1b hS rfl rfl rfl rfl (z7 rfl) rfl (by repeat (first|with_reducible exact At.z|apply At.s)) rfl rfl (by repeat (first|with_reducible exact Put.z|apply Put.s)) ?_;clear hS;intro W hS;simp only [Act.eval,Array.getD_eq_getD_getElem?,List.getElem?_toArray,List.getElem?_cons_succ,List.getElem?_cons_zero,Option.getD_some,List.set_cons_zero,List.set_cons_succ] at hS)))
 (refine ⟨fun h=>z43 (by kernel_rfl) h,?_⟩;try simp only [Act.put,List.setIfInBounds_toArray,List.set_cons_zero,List.set_cons_succ])
 refine z1d 8 (by kernel_rfl) rfl ?_
 go_wp2_with ((first|(refine Sep.wbox hS rfl rfl rfl ?_;clear hS;intro g W hS)|(refine Sep.walloc hS rfl rfl (by exact z2p) ?_;clear hS;intro g W hS)|(refine Sep.wload1b hS rfl rfl rfl (z7 rfl) (by repeat (first|with_reducible exact At.z|apply At.s)) rfl ?_)|(refine Sep.wloadNb hS rfl rfl rfl (by repeat (first|with_reducible exact At.z|apply At.s)) (z6 rfl) ?_)|(refine Sep.wload1z hS rfl rfl rfl (z7 rfl) (by repeat (apply At.s)) rfl ?_)|(refine Sep.wload1c hS rfl rfl rfl (z7 rfl) (by repeat (apply At.s)) rfl ?_)|(refine Sep.wloadNz hS rfl rfl rfl (by repeat (apply At.s)) (z6 rfl) ?_)|(refine Sep.wstore1b hS rfl rfl rfl rfl (z7 rfl) rfl (by repeat (first|with_reducible exact At.z|apply At.s)) rfl rfl (by repeat (first|with_reducible exact Put.z|apply Put.s)) ?_;clear hS;intro W hS;simp only [Act.eval,Array.getD_eq_getD_getElem?,List.getElem?_toArray,List.getElem?_cons_succ,List.getElem?_cons_zero,Option.getD_some,List.set_cons_zero,List.set_cons_succ] at hS)|(refine Sep.wstoreNb hS rfl rfl rfl rfl (z6 rfl) (by simp [z13,Value.oneCell']) (by repeat (first|with_reducible exact At.z|apply At.s)) (by rfl) (by repeat (first|with_reducible exact Put.z|apply Put.s)) ?_;clear hS;intro W hS)|(refine Sep.wloadNr hS rfl rfl rfl (by repeat (apply At.s)) (z6 rfl) (by omega) ?_;clear hS;intro z cs hz hS;(first|(have hO:=hS.open_int (by first|with_reducible exact At.z|exact At.s At.z);obtain ⟨rfl,hI⟩:=hO)|(have hO:=hS.open_str (by first|with_reducible exact At.z|exact At.s At.z);obtain ⟨rfl,hI⟩:=hO)|(have hO:=hS.open_op (by first|with_reducible exact At.z|exact At.s At.z);obtain ⟨rfl,hI,hJ⟩:=hO)|(have hO:=hS.open_point (by first|with_reducible exact At.z|exact At.s At.z);obtain ⟨rfl,hI,hJ⟩:=hO)|(have hO:=hS.open_in (by first|with_reducible exact At.z|exact At.s At.z);clear hS;obtain ⟨A',n',c',rfl,hI,hJ,hS⟩:=hO)|(have hO:=hS.open_out (by first|with_reducible exact At.z|exact At.s At.z);clear hS;obtain ⟨A',n',c',rfl,hI,hS⟩:=hO)|(have hO:=hS.open_tx (by first|with_reducible exact At.z|exact At.s At.z);clear hS;obtain ⟨A',n',c',A2',n2',c2',rfl,hI,hS⟩:=hO)|(have hO:=hS.open_book (by first|with_reducible exact At.z|exact At.s At.z);clear hS;obtain ⟨A',n',c',rfl,hS⟩:=hO)|(have hO:=hS.open_undo (by first|with_reducible exact At.z|exact At.s At.z);clear hS;obtain ⟨A',n',c',rfl,hS⟩:=hO)|(have hO:=hS.open_coin (by first|with_reducible exact At.z|exact At.s At.z);clear hS;obtain ⟨A',n',c',rfl,hI,hJ,hK,hL,hS⟩:=hO)|(have hO:=hS.open_block (by first|with_reducible exact At.z|exact At.s At.z);clear hS;obtain ⟨A',n',c',rfl,hI,hJ,hK,hL,hS⟩:=hO)|(have hO:=hS.open_tree (by first|with_reducible exact At.z|exact At.s At.z);clear hS;obtain ⟨A',n',c',A2',n2',c2',rfl,hS⟩:=hO)|(have hO:=hS.open_node (by first|with_reducible exact At.z|exact At.s At.z);clear hS;obtain ⟨A',n',c',A2',n2',c2',A3',n3',c3',rfl,hI,hS⟩:=hO)))|((first|refine Sep.windexN hS rfl rfl rfl rfl (by repeat (first|with_reducible exact At.z|apply At.s)) (by exact z2k) (by omega) ?_|refine Sep.windex hS rfl rfl rfl rfl (by repeat (first|with_reducible exact At.z|apply At.s)) (by exact z2k) (by omega) (by omega) ?_);clear hS;intro b q z cs hz hS;(first|(have hO:=hS.open_int (At.s At.z);obtain ⟨rfl,hI⟩:=hO)|(have hO:=hS.open_str (At.s At.z);obtain ⟨rfl,hI⟩:=hO)|(have hO:=hS.open_op (At.s At.z);obtain ⟨rfl,hI,hJ⟩:=hO)|(have hO:=hS.open_point (At.s At.z);obtain ⟨rfl,hI,hJ⟩:=hO)|(have hO:=hS.open_in (At.s At.z);clear hS;obtain ⟨A',n',c',rfl,hI,hJ,hS⟩:=hO)|(have hO:=hS.open_out (At.s At.z);clear hS;obtain ⟨A',n',c',rfl,hI,hS⟩:=hO)|(have hO:=hS.open_tx (At.s At.z);clear hS;obtain ⟨A',n',c',A2',n2',c2',rfl,hI,hS⟩:=hO)|(have hO:=hS.open_book (At.s At.z);clear hS;obtain ⟨A',n',c',rfl,hS⟩:=hO)|(have hO:=hS.open_undo (At.s At.z);clear hS;obtain ⟨A',n',c',rfl,hS⟩:=hO)|(have hO:=hS.open_coin (At.s At.z);clear hS;obtain ⟨A',n',c',rfl,hI,hJ,hK,hL,hS⟩:=hO)|(have hO:=hS.open_block (At.s At.z);clear hS;obtain ⟨A',n',c',rfl,hI,hJ,hK,hL,hS⟩:=hO)|(have hO:=hS.open_tree (At.s At.z);clear hS;obtain ⟨A',n',c',A2',n2',c2',rfl,hS⟩:=hO)|(have hO:=hS.open_node (At.s At.z);clear hS;obtain ⟨A',n',c',A2',n2',c2',A3',n3',c3',rfl,hI,hS⟩:=hO)))))
 (refine ⟨fun h=>z43 (by kernel_rfl) h,?_⟩;try simp only [Act.put,List.setIfInBounds_toArray,List.set_cons_zero,List.set_cons_succ])
 refine z1d 9 (by kernel_rfl) rfl ?_
 go_wp2_with (((refine Sep.wstore1b hS rfl rfl rfl rfl (z7 rfl) rfl (by repeat (first|with_reducible exact At.z|apply At.s)) rfl rfl (by repeat (first|with_reducible exact Put.z|apply Put.s)) ?_;clear hS;intro W hS;simp only [Act.eval,Array.getD_eq_getD_getElem?,List.getElem?_toArray,List.getElem?_cons_succ,List.getElem?_cons_zero,Option.getD_some,List.set_cons_zero,List.set_cons_succ] at hS)))
 (refine ⟨fun h=>z43 (by kernel_rfl) h,?_⟩;try simp only [Act.put,List.setIfInBounds_toArray,List.set_cons_zero,List.set_cons_succ])
 refine z2z (by kernel_rfl) ?_
 go_wp2_with (((refine Sep.wload1b hS (by rfl) rfl rfl (z7 rfl) (by repeat (first|with_reducible exact At.z|apply At.s)) rfl ?_)))
 go_loopw [3,4,16] (fun _ _ i wr=>∃ k:Nat,k≤bs.length∧i = .int .i64 k∧Sep w0 F0 (row 24 (.slice A4 bs.length c4) bs shBlock::row 3 (.slice A3 ns.length c3) ns shInt::box gr [.slice none 0 0,.slice none 0 0] 41::box gt [.slice A3 ns.length c3,.slice A4 bs.length c4] 41::Γ) wr) (fun _ _ i _=>bs.length - (intOf i).toNat)
 case atStart=>exact ⟨0,by omega,rfl,hS.sub (by repeat (first|with_reducible exact Sub.refl|refine Sub.take (by repeat (first|with_reducible exact Del.z|apply Del.s)) ?_|apply Sub.skip))⟩
 case round =>
  clear hS
  obtain ⟨k,hk,rfl,hS⟩:=hrel
  rcases Classical.em (k<bs.length) with hlt|hlt
  ·obtain ⟨g,rfl,_,_,_⟩:=hS.rowSome (S:=shBlock) (k:=k) (by repeat (with_reducible exact At.z)) hlt
   have j1:(0:Int)≤(k:Int):=by omega
   have j2:(k:Int)<(bs.length:Int):=by omega
   (go_wp2_with (first|(refine Sep.wbox hS rfl rfl rfl ?_;clear hS;intro gx W hS;refine Stop.go ?_)|(refine Sep.walloc hS rfl rfl (by first|exact z2p|exact z15) ?_;clear hS;intro gx W hS;refine Stop.go ?_)|((refine Sep.wloadNr hS rfl rfl rfl (by repeat (first|with_reducible exact At.z|apply At.s)) (z6 rfl) (by omega) ?_;clear hS;intro z cs hz hS;((have hO:=hS.open_block (by with_reducible exact At.z);clear hS;obtain ⟨A',n',c',rfl,hI,hJ,hK,hL,hS⟩:=hO)))));refine Stop.mk ?_)
   go_wp2_with (((refine Sep.wstoreNb hS (by rfl) rfl rfl rfl (z6 rfl) (by simp [z13,Value.oneCell']) (by repeat (with_reducible exact At.z)) (by rfl) (by repeat (with_reducible exact Put.z)) ?_;clear hS;intro W hS)))
   (refine Sep.regionT hS [6] (by kernel_rfl) ?_;clear hS;intro W hS)
   (refine zm 0 rfl rfl (by ((apply Yl.pure;intro W;go_simp;with_reducible rfl))) (hS.sub (by repeat (with_reducible exact Sub.refl))) (by kernel_rfl) (fun _ _ _ h=>h) ?_;simp only [Act.put,List.setIfInBounds_toArray,List.set_cons_zero,List.set_cons_succ])
   (refine zm 1 rfl rfl (by (exact Yl.load1b rfl rfl (z7 rfl) (by repeat (first|with_reducible exact At.z|apply At.s)) rfl)) (hS.sub (by repeat (with_reducible exact Sub.refl))) (by kernel_rfl) (fun _ _ _ h=>h) ?_;simp only [Act.put,List.setIfInBounds_toArray,List.set_cons_zero,List.set_cons_succ])
   (refine zm 2 rfl rfl (by (exact Yl.move rfl)) (hS.sub (by repeat (with_reducible exact Sub.refl))) (by kernel_rfl) (fun _ _ _ h=>h) ?_;simp only [Act.put,List.setIfInBounds_toArray,List.set_cons_zero,List.set_cons_succ])
   (refine zm 3 rfl rfl (by (exact Yl.loadNb rfl rfl (by repeat (with_reducible exact At.z)) (z6 rfl))) (hS.sub (by repeat (with_reducible exact Sub.refl))) (by kernel_rfl) (fun _ _ _ h=>h) ?_;simp only [Act.put,List.setIfInBounds_toArray,List.set_cons_zero,List.set_cons_succ])
   refine z1d 4 (by kernel_rfl) rfl ?_
   go_wp2_with fail
   refine (zdj z [_,_,_,_,_] hS (by repeat (first|with_reducible exact At.z|apply At.s)) (hb3 z (List.mem_of_getElem? hz.out))).mono ?_
   clear hS;rintro e W ⟨cs,rfl,hS⟩
   go_wp2_with fail
   (refine ⟨fun _=>hS.sub (by repeat (first|with_reducible exact Sub.refl|refine Sub.take (by repeat (first|with_reducible exact Del.z|apply Del.s)) ?_|apply Sub.skip)),?_⟩;try simp only [Act.put,List.setIfInBounds_toArray,List.set_cons_zero,List.set_cons_succ])
   (refine zm 5 rfl rfl (by ((apply Yl.pure;intro W;go_simp;with_reducible rfl))) (hS.sub (by repeat (first|with_reducible exact Sub.refl|refine Sub.take (by repeat (first|with_reducible exact Del.z|apply Del.s)) ?_|apply Sub.skip))) (by kernel_rfl) (fun _ _ _ h=>h) ?_;simp only [Act.put,List.setIfInBounds_toArray,List.set_cons_zero,List.set_cons_succ])
   refine z1d 6 (by kernel_rfl) rfl ?_
   refine Sep.wstoreNr hS rfl rfl zf0 (z':=z) (k:=k) rfl rfl (z6 rfl) (by repeat (first|with_reducible exact Del.z|apply Del.s)) hz.out (by repeat (with_reducible exact At.z)) ?_
   clear hS;intro W hS
   go_wp2_with fail
   (refine ⟨fun h=>z43 (by kernel_rfl) h,?_⟩;try simp only [Act.put,List.setIfInBounds_toArray,List.set_cons_zero,List.set_cons_succ])
   refine z2z (by kernel_rfl) ?_
   go_wp2_with fail
   rw [zfd hz.out] at hS
   go_roundw
   case measure=>simp [intOf];omega
   case rel=>exact ⟨k+1,by omega,by go_num,hS.sub (by repeat (first|with_reducible exact Sub.refl|refine Sub.take (by repeat (first|with_reducible exact Del.z|apply Del.s)) ?_|apply Sub.skip))⟩
  ·obtain rfl:k=bs.length:=by omega
   go_wp2_with ((first|(refine Sep.wloadNb hS (by rfl) rfl rfl (by repeat (first|with_reducible exact At.z|apply At.s)) (z6 rfl) ?_)|(refine Sep.wstoreNb hS (by rfl) rfl rfl rfl (z6 rfl) (by simp [z13,Value.oneCell']) (by repeat (first|with_reducible exact At.z|apply At.s)) (by rfl) (by repeat (first|with_reducible exact Put.z|apply Put.s)) ?_;clear hS;intro W hS)))
   refine bodyPost_ret (zj5 rfl (by exact Got.boxN hS rfl (by repeat (first|with_reducible exact At.z|apply At.s)) (z6 rfl))) rfl ?_
   exact ⟨_,_,_,_,_,_,rfl,hS.sub (by repeat (first|with_reducible exact Sub.refl|refine Sub.take (by repeat (first|with_reducible exact Del.z|apply Del.s)) ?_|apply Sub.skip))⟩
end
section
open Go.RowKit
set_option maxRecDepth 100000
theorem Sep.zero_tree {w0 W:World} {F0:Nat→Prop} {Γ:List Res} (h:Sep w0 F0 Γ W):Sep w0 F0 (rep (⟨[],[]⟩:Tree) [.slice none 0 0,.slice none 0 0] shTree::Γ) W :=
 h.addRep (z00c (x:=⟨[],[]⟩) (Rds.nil _ _ _) (Rds.nil _ _ _))
theorem zef {l:List Op} (h:zg l=0):l.length≤1000000:=by
 unfold zg at h
 split at h
 ·cases h
 ·omega
theorem zym {l seen:List In} (h:z45 l seen=0):∀ x ∈ l,x.key.length≤1000000:=by
 induction l generalizing seen with
 | nil=>intro x hx;cases hx
 | cons y l ih =>
  rw [z45] at h
  by_cases h1:z6f y≠0
  ·rw [if_pos h1] at h;exact absurd h h1
  ·rw [if_neg h1] at h
   by_cases h2:0≤z7m seen y.p 0
   ·rw [if_pos h2] at h;cases h
   ·rw [if_neg h2] at h
    intro x hx
    rcases List.mem_cons.1 hx with rfl|hx
    ·have h3:z6f x=0:=by simpa using h1
     unfold z6f at h3
     split at h3
     ·cases h3
     ·exact zef h3
    ·exact ih h x hx
theorem zvc {l:List Out} (h:z3a l=0):∀ x ∈ l,x.lock.length≤1000000:=by
 induction l with
 | nil=>intro x hx;cases hx
 | cons y l ih =>
  rw [z3a] at h
  by_cases h1:z6k y≠0
  ·rw [if_pos h1] at h;exact absurd h h1
  ·rw [if_neg h1] at h
   intro x hx
   rcases List.mem_cons.1 hx with rfl|hx
   ·have h3:z6k x=0:=by simpa using h1
    unfold z6k at h3
    split at h3
    ·cases h3
    ·exact zef h3
   ·exact ih h x hx
theorem z8d {t:Tx} (h:zi t=0):TxSmall t:=by
 unfold zi at h
 by_cases h1:z25 t≠0
 ·rw [if_pos h1] at h;exact absurd h h1
 ·rw [if_neg h1] at h
  by_cases h2:z45 t.ins []≠0
  ·rw [if_pos h2] at h;exact absurd h h2
  ·rw [if_neg h2] at h
   by_cases h3:z3a t.outs≠0
   ·rw [if_pos h3] at h;exact absurd h h3
   ·have h4:z25 t=0:=by simpa using h1
    unfold z25 at h4
    split at h4
    ·cases h4
    ·rename_i h5
     exact ⟨by omega,by omega,zym (by simpa using h2),zvc (by simpa using h3)⟩
theorem zyn {h:Int} {l:List Tx} {i:Nat} (e:z7n h l i=0):∀ t ∈ l,zi t=0:=by
 induction l generalizing i with
 | nil=>intro t ht;cases ht
 | cons y l ih =>
  rw [z7n] at e
  by_cases h1:zi y≠0
  ·rw [if_pos h1] at e;exact absurd e h1
  ·rw [if_neg h1] at e
   split at e
   ·cases e
   ·intro t ht
    rcases List.mem_cons.1 ht with rfl|ht
    ·simpa using h1
    ·exact ih e t ht
theorem zvd {b:Block} (h:zh b=0):∀ t ∈ b.txs,zi t=0:=by
 unfold zh at h
 by_cases h0:z5z b≠0
 ·rw [if_pos h0] at h;exact absurd h h0
 ·rw [if_neg h0] at h;exact zyn h
theorem za2 {b:Block} (h:zh b=0):BlockSmall b :=
 ⟨by have:=(zdk h).2;omega,fun t ht=>z8d (zvd h t ht)⟩
theorem z6m {t:Tree} (h:z01 t=0):∀ b ∈ t.blocks,zh b=0:=by
 obtain ⟨ns,bs⟩:=t
 have ok:=(z0x ns bs).1 h
 intro b hb
 obtain ⟨k,hk⟩:=List.getElem?_of_mem hb
 have hlt:=(List.getElem?_eq_some_iff.1 hk).1
 have:=(zdl (ok.step k (by have:=ok.len;simp only at hlt;omega))).2.1
 rwa [show z16 bs (k:Int)=b by simp [z16,hk]] at this
theorem zkz {t:Tree} (h:z01 t=0):TreeSmall t:=by
 have ok:=(z0x t.names t.blocks).1 h
 exact ⟨by have:=ok.le;omega,by have:=ok.le;have:=ok.len;omega,fun b hb=>za2 (z6m h b hb)⟩
theorem Sep.addMid {w0 W W':World} {F0:Nat→Prop} {Γ:List Res} (h:Sep w0 F0 Γ W) {α:Type} {S:Sh α} {xs:List α} {A:Option Addr} {n c:Nat} (hb:Below W.heap.size W W') (hr:Rds S W' (Mid W W') xs A n c):Sep w0 F0 (rds xs A n c S::Γ) W' :=
 (h.belows hb).addRds (hr.more fun b hb=>⟨.inr ⟨Nat.le_trans h.size hb.1,hb.2⟩,fun r hr e=>by have:=(r.lt (h.all r hr) e).2;have:=hb.1;omega⟩)
theorem z0e4 {w0 W:World} {F0:Nat→Prop} {Γ:List Res} {α:Type} {S:Sh α} {x:α} {cs:List Value} (h:At Γ (rep x cs S)) (hS:Sep w0 F0 Γ W):cs.length=S.size:=S.len (hS.getRep h)
def zhx (n:Int):Bool:=decide (n<1∨120<n)
def z1q (t:Tree) (name:Int) (b:Block):Int :=
 if z01 t≠0 then z01 t else if zhx name=true then 3 else if zh b≠0 then zh b else if z4e t.names name=true then 6 else if z3p t.names t.blocks b t.names.length≠0 then z3p t.names t.blocks b t.names.length else if (t.names.length:Int)=24 then 12 else 0
def z37 (t:Tree) (name:Int) (b:Block):Tree:=if z1q t name b=0 then ⟨t.names++[name],t.blocks++[b]⟩ else ⟨[],[]⟩
set_option maxHeartbeats 1000000 in
theorem z05x (t:Tree) (cs:List Value) (name:Int) (b:Block) (cb:List Value) {w0 W:World} {F0:Nat→Prop} {Γ:List Res} (hS:Sep w0 F0 Γ W) (ht:At Γ (rep t cs shTree)) (hbb:At Γ (rep b cb shBlock)) (hn:I64 name) :
  Calls Tryz.prog 71 #[.agg cs.toArray,.int .i64 name,.agg cb.toArray] W (RSE w0 F0 Γ shTree (z37 t name b) (z1q t name b)):=by
 (have hO:=hS.open_tree (by repeat (exact ht));clear hS;obtain ⟨A,n,c,A2,n2,c2,rfl,hS⟩:=hO)
 (have hO:=hS.open_block (by repeat (first|exact hbb|apply At.s));clear hS;obtain ⟨A3,n3,c3,rfl,i1,i2,i3,i4,hS⟩:=hO)
 obtain ⟨rfl,_,_⟩:=hS.len (xs:=t.names) (by repeat (first|with_reducible exact At.z|apply At.s))
 obtain ⟨rfl,_,_⟩:=hS.len (xs:=t.blocks) (by repeat (first|with_reducible exact At.z|apply At.s))
 go_enter Tryz.func71,Tryz.ntmps71
 (go_wp2_with ((refine Sep.wbox hS (by rfl) rfl rfl ?_;clear hS;intro gt W hS;refine Stop.go ?_));refine Stop.mk ?_)
 (go_wp2_with ((refine Sep.wbox hS (by rfl) rfl rfl ?_;clear hS;intro gb W hS;refine Stop.go ?_));refine Stop.mk ?_)
 (go_wp2_with ((refine Sep.walloc hS (by rfl) rfl (by exact z1s) ?_;clear hS;intro gr W hS;refine Stop.go ?_));refine Stop.mk ?_)
 go_wp2_with (((refine Sep.wloadNb hS (by rfl) rfl rfl (by repeat (first|with_reducible exact At.z|apply At.s)) (z6 rfl) ?_)))
 refine (hS.old (z8c t [_,_] _ _ (hS.ltsRep (by repeat (first|assumption|apply At.s))) (fun b hb=>hb))).mono ?_;clear hS;rintro e W ⟨rfl,hS⟩
 have hfail:∀ (m:Int) (W:World),m≠0→z1q t name b=m→Sep w0 F0 Γ W→RSE w0 F0 Γ shTree (z37 t name b) (z1q t name b) (.returned (.tuple #[.agg #[.slice none 0 0,.slice none 0 0],.int .i64 m])) W:=fun m W h0 he hS=>by
  unfold z37
  rw [he,if_neg h0]
  exact ⟨[_,_],rfl,hS.zero_tree⟩
 have HF:=Lib.hid hfail
 clear hfail
 go_wp2_with ((first|(refine Sep.wloadNb hS (by rfl) rfl rfl (by repeat (first|with_reducible exact At.z|apply At.s)) (z6 rfl) ?_)|(refine Sep.wstoreNb hS (by rfl) rfl rfl rfl (z6 rfl) (by simp [z13,Value.oneCell']) (by repeat (with_reducible exact At.z)) (by rfl) (by repeat (with_reducible exact Put.z)) ?_;clear hS;intro W hS)))
 any_goals ((refine bodyPost_ret (z3f rfl (by exact Got.boxN hS rfl (by repeat (with_reducible exact At.z)) (z6 rfl)) (by exact Got.tmp rfl)) rfl ?_);exact HF.out _ _ (by first|decide|(simp_all;done)) (by first|(simp_all [z1q];done)|(simp_all [z1q,zhx];done)) (hS.sub (by repeat (first|with_reducible exact Sub.refl|apply Sub.skip))))
 have z1:z01 t=0:=by simp_all
 have ok:=Lib.hid ((z0x t.names t.blocks).1 z1)
 have sm:=Lib.hid (zkz z1)
 have zn:zhx name=false:=by simp [zhx];omega
 rw [← ok.out.len] at hS ht
 refine (hS.old (z7o b [_,_,_,_,_] _ _ (hS.ltsRep (by repeat (first|assumption|apply At.s))) (fun b hb=>hb))).mono ?_;clear hS;rintro e W ⟨rfl,hS⟩
 go_wp2_with ((first|(refine Sep.wload1b hS (by rfl) rfl rfl (z7 rfl) (by repeat (first|with_reducible exact At.z|apply At.s)) rfl ?_)|(refine Sep.wstoreNb hS (by rfl) rfl rfl rfl (z6 rfl) (by simp [z13,Value.oneCell']) (by repeat (with_reducible exact At.z)) (by rfl) (by repeat (with_reducible exact Put.z)) ?_;clear hS;intro W hS)))
 any_goals ((refine bodyPost_ret (z3f rfl (by exact Got.boxN hS rfl (by repeat (with_reducible exact At.z)) (z6 rfl)) (by exact Got.tmp rfl)) rfl ?_);exact HF.out _ _ (by (simp_all;done)) (by (simp_all [z1q];done)) (hS.sub (by repeat (first|with_reducible exact Sub.refl|apply Sub.skip))))
 have z2:zh b=0:=by simp_all
 refine (hS.oldS (z97 t.names name _ _ _ _ _ (hS.ltsRds (by repeat (first|with_reducible exact At.z|apply At.s))))).mono ?_;clear hS;rintro e W ⟨rfl,hS⟩
 go_wp2_with ((first|(refine Sep.wload1b hS (by rfl) rfl rfl (z7 rfl) (by repeat (first|with_reducible exact At.z|apply At.s)) rfl ?_)|(refine Sep.wloadNb hS (by rfl) rfl rfl (by repeat (first|with_reducible exact At.z|apply At.s)) (z6 rfl) ?_)|(refine Sep.wstoreNb hS (by rfl) rfl rfl rfl (z6 rfl) (by simp [z13,Value.oneCell']) (by repeat (with_reducible exact At.z)) (by rfl) (by repeat (with_reducible exact Put.z)) ?_;clear hS;intro W hS)))
 any_goals ((refine bodyPost_ret (z3f rfl (by exact Got.boxN hS rfl (by repeat (with_reducible exact At.z)) (z6 rfl)) (by exact Got.tmp rfl)) rfl ?_);exact HF.out _ _ (by decide) (by (simp_all [z1q];done)) (hS.sub (by repeat (first|with_reducible exact Sub.refl|apply Sub.skip))))
 have z3:z4e t.names name=false:=by simp_all
 refine (hS.old (zkx t.names t.blocks b [_,_,_,_,_] _ _ _ _ _ _ _ _ (hS.ltsRds (by repeat (first|with_reducible exact At.z|apply At.s))) (hS.ltsRds (by repeat (first|with_reducible exact At.z|apply At.s))) (hS.ltsRep (by repeat (first|assumption|apply At.s))) (fun b hb=>hb) (Nat.le_refl _) (fun x hx=>zd3 (z6m z1 x (List.mem_of_mem_take hx))))).mono ?_;clear hS;rintro e W ⟨rfl,hS⟩
 go_wp2_with ((first|(refine Sep.wload1b hS (by rfl) rfl rfl (z7 rfl) (by repeat (first|with_reducible exact At.z|apply At.s)) rfl ?_)|(refine Sep.wloadNb hS (by rfl) rfl rfl (by repeat (first|with_reducible exact At.z|apply At.s)) (z6 rfl) ?_)|(refine Sep.wstoreNb hS (by rfl) rfl rfl rfl (z6 rfl) (by simp [z13,Value.oneCell']) (by repeat (with_reducible exact At.z)) (by rfl) (by repeat (with_reducible exact Put.z)) ?_;clear hS;intro W hS)))
 any_goals ((refine bodyPost_ret (z3f rfl (by exact Got.boxN hS rfl (by repeat (with_reducible exact At.z)) (z6 rfl)) (by exact Got.tmp rfl)) rfl ?_);exact HF.out _ _ (by first|decide|(simp_all;done)) (by (simp_all [z1q];done)) (hS.sub (by repeat (first|with_reducible exact Sub.refl|apply Sub.skip))))
 have z4:z3p t.names t.blocks b t.names.length=0:=by simp_all
 have z5:¬ (t.names.length:Int)=24:=by simp_all
 have ze:z1q t name b=0:=by simp [z1q,z1,zn,z2,z3,z4,z5]
 have ZT:=Lib.hid (show z37 t name b=⟨t.names++[name],t.blocks++[b]⟩ by unfold z37;rw [if_pos ze])
 have ZE:=Lib.hid ze
 clear HF z1 z3 z4 z5 zn ze
 refine (zkv t [_,_] hS (by repeat (first|assumption|apply At.s)) sm.out).mono ?_
 clear hS;rintro e W ⟨A4,n4,c4,A5,n5,c5,rfl,hS⟩
 go_wp2_with (((refine Sep.wstoreNb hS (by rfl) rfl rfl rfl (z6 rfl) (by simp [z13,Value.oneCell']) (by repeat (first|with_reducible exact At.z|apply At.s)) (by rfl) (by repeat (first|with_reducible exact Put.z|apply Put.s)) ?_;clear hS;intro W hS)))
 (refine Sep.regionS hS [12,14] (Γs:=[box gt [.slice A4 n4 c4,.slice A5 n5 c5] 41,box gb [.int .i64 b.parent,.int .i64 b.height,.int .i64 b.work,.int .i64 b.nonce,.slice A3 n3 c3] 24]) (by repeat (first|with_reducible exact Sub.nil|refine Sub.take (by repeat (first|with_reducible exact Del.z|apply Del.s)) ?_)) (by kernel_rfl) ?_;clear hS;intro W hS)
 (refine zm 0 rfl rfl (by ((apply Yl.pure;intro W;go_simp;with_reducible rfl))) (hS.sub (by repeat (first|with_reducible exact Sub.nil|refine Sub.take (by repeat (first|with_reducible exact Del.z|apply Del.s)) ?_))) (by kernel_rfl) (fun _ _ _ h=>h) ?_;simp only [Act.put,List.setIfInBounds_toArray,List.set_cons_zero,List.set_cons_succ])
 (refine zm 1 rfl rfl (by (exact Yl.load1b rfl rfl (z7 rfl) (by repeat (with_reducible exact At.z)) rfl)) (hS.sub (by repeat (first|with_reducible exact Sub.nil|refine Sub.take (by repeat (first|with_reducible exact Del.z|apply Del.s)) ?_))) (by kernel_rfl) (fun _ _ _ h=>h) ?_;simp only [Act.put,List.setIfInBounds_toArray,List.set_cons_zero,List.set_cons_succ])
 (refine zm 2 rfl rfl (by (exact Yl.move rfl)) (hS.sub (by repeat (first|with_reducible exact Sub.nil|refine Sub.take (by repeat (first|with_reducible exact Del.z|apply Del.s)) ?_))) (by kernel_rfl) (fun _ _ _ h=>h) ?_;simp only [Act.put,List.setIfInBounds_toArray,List.set_cons_zero,List.set_cons_succ])
 (refine zm 5 rfl rfl (by ((apply Yl.pure;intro W;go_simp;with_reducible rfl))) (hS.sub (by repeat (first|with_reducible exact Sub.nil|refine Sub.take (by repeat (first|with_reducible exact Del.z|apply Del.s)) ?_))) (by kernel_rfl) (fun _ _ _ h=>h) ?_;simp only [Act.put,List.setIfInBounds_toArray,List.set_cons_zero,List.set_cons_succ])
 (refine zm 6 rfl rfl (by (exact Yl.load1b rfl rfl (z7 rfl) (by repeat (with_reducible exact At.z)) rfl)) (hS.sub (by repeat (first|with_reducible exact Sub.nil|refine Sub.take (by repeat (first|with_reducible exact Del.z|apply Del.s)) ?_))) (by kernel_rfl) (fun _ _ _ h=>h) ?_;simp only [Act.put,List.setIfInBounds_toArray,List.set_cons_zero,List.set_cons_succ])
 (refine zm 7 rfl rfl (by (exact Yl.loadNb rfl rfl (by repeat (first|with_reducible exact At.z|apply At.s)) (z6 rfl))) (hS.sub (by repeat (first|with_reducible exact Sub.nil|refine Sub.take (by repeat (first|with_reducible exact Del.z|apply Del.s)) ?_))) (by kernel_rfl) (fun _ _ _ h=>h) ?_;simp only [Act.put,List.setIfInBounds_toArray,List.set_cons_zero,List.set_cons_succ])
 refine z1d 3 (by kernel_rfl) rfl ?_
 refine Sep.wbuild1 hS rfl rfl z3x (by decide) (by decide) (cs:=[.int .i64 name]) rfl rfl ?_
 clear hS;intro g1 W hS
 go_wp2_with fail
 (refine ⟨fun _=>hS.sub (by repeat (first|with_reducible exact Sub.nil|refine Sub.take (by repeat (first|with_reducible exact Del.z|apply Del.s)) ?_)),?_⟩;try simp only [Act.put,List.setIfInBounds_toArray,List.set_cons_zero,List.set_cons_succ])
 refine z1d 4 (by kernel_rfl) rfl ?_
 have hS:=hS.pure (S:=shInt) (z:=name) (cs:=[.int .i64 name]) (fun W F=>⟨rfl,hn⟩)
 refine Sep.wappend1 hS rfl rfl (S:=shInt) (z:=name) (v:=.slice A4 n4 c4) rfl rfl (by repeat (first|with_reducible exact Del.z|apply Del.s)) (by repeat (first|with_reducible exact Del.z|apply Del.s)) (by repeat (with_reducible exact At.z)) z3x (by decide) z3z (by have:=sm.out.names;omega) (by decide) ?_
 clear hS;intro v1 W hS
 go_wp2_with fail
 (refine ⟨fun _=>hS.sub (by repeat (first|with_reducible exact Sub.nil|refine Sub.take (by repeat (first|with_reducible exact Del.z|apply Del.s)) ?_)),?_⟩;try simp only [Act.put,List.setIfInBounds_toArray,List.set_cons_zero,List.set_cons_succ])
 (refine zm 11 rfl rfl (by ((apply Yl.pure;intro W;go_simp;with_reducible rfl))) (hS.sub (by repeat (first|with_reducible exact Sub.nil|refine Sub.take (by repeat (first|with_reducible exact Del.z|apply Del.s)) ?_))) (by kernel_rfl) (fun _ _ _ h=>h) ?_;simp only [Act.put,List.setIfInBounds_toArray,List.set_cons_zero,List.set_cons_succ])
 refine z1d 8 (by kernel_rfl) rfl ?_
 go_wp2_with fail
 refine (zdj b [_,_,_,_,_] hS (by repeat (first|assumption|apply At.s)) (za2 z2)).mono ?_
 clear hS;rintro e W ⟨cs,rfl,hS⟩
 go_wp2_with fail
 (refine ⟨fun _=>hS.sub (by repeat (first|with_reducible exact Sub.nil|refine Sub.take (by repeat (first|with_reducible exact Del.z|apply Del.s)) ?_)),?_⟩;try simp only [Act.put,List.setIfInBounds_toArray,List.set_cons_zero,List.set_cons_succ])
 refine z1d 9 (by kernel_rfl) rfl ?_
 refine Sep.wbuild1 hS rfl rfl z1o (by decide) (by decide) (cs:=cs) rfl (z0e4 (by repeat (with_reducible exact At.z)) hS) ?_
 clear hS;intro g2 W hS
 go_wp2_with fail
 (refine ⟨fun _=>hS.sub (by repeat (first|with_reducible exact Sub.nil|refine Sub.take (by repeat (first|with_reducible exact Del.z|apply Del.s)) ?_)),?_⟩;try simp only [Act.put,List.setIfInBounds_toArray,List.set_cons_zero,List.set_cons_succ])
 refine z1d 10 (by kernel_rfl) rfl ?_
 refine Sep.wappend1 hS rfl rfl (S:=shBlock) (z:=b) (v:=.slice A5 n5 c5) rfl rfl (by repeat (with_reducible exact Del.z)) (by repeat (first|with_reducible exact Del.z|apply Del.s)) (by repeat (with_reducible exact At.z)) z1o (by decide) zf0 (by have:=sm.out.blocks;omega) (by decide) ?_
 clear hS;intro v2 W hS
 obtain ⟨A6,c6,rfl,_,_⟩:=hS.rowSlice (S:=shInt) (v:=v1) (by repeat (first|with_reducible exact At.z|apply At.s))
 obtain ⟨A7,c7,rfl,_,_⟩:=hS.rowSlice (S:=shBlock) (v:=v2) (by repeat (with_reducible exact At.z))
 go_wp2_with fail
 (refine ⟨fun _=>hS.sub (by repeat (first|with_reducible exact Sub.nil|refine Sub.take (by repeat (first|with_reducible exact Del.z|apply Del.s)) ?_)),?_⟩;try simp only [Act.put,List.setIfInBounds_toArray,List.set_cons_zero,List.set_cons_succ])
 refine z1d 12 (by kernel_rfl) rfl ?_
 go_wp2_with (((refine Sep.wstore1b hS rfl rfl rfl rfl (z7 rfl) rfl (by repeat (first|with_reducible exact At.z|apply At.s)) rfl rfl (by repeat (first|with_reducible exact Put.z|apply Put.s)) ?_;clear hS;intro W hS;simp only [Act.eval,Array.getD_eq_getD_getElem?,List.getElem?_toArray,List.getElem?_cons_succ,List.getElem?_cons_zero,Option.getD_some,List.set_cons_zero,List.set_cons_succ] at hS)))
 (refine ⟨fun h=>z43 (by kernel_rfl) h,?_⟩;try simp only [Act.put,List.setIfInBounds_toArray,List.set_cons_zero,List.set_cons_succ])
 refine z1d 13 (by kernel_rfl) rfl ?_
 go_wp2_with ((first|(refine Sep.wbox hS rfl rfl rfl ?_;clear hS;intro g W hS)|(refine Sep.walloc hS rfl rfl (by exact z2p) ?_;clear hS;intro g W hS)|(refine Sep.wload1b hS rfl rfl rfl (z7 rfl) (by repeat (first|with_reducible exact At.z|apply At.s)) rfl ?_)|(refine Sep.wloadNb hS rfl rfl rfl (by repeat (first|with_reducible exact At.z|apply At.s)) (z6 rfl) ?_)|(refine Sep.wload1z hS rfl rfl rfl (z7 rfl) (by repeat (apply At.s)) rfl ?_)|(refine Sep.wload1c hS rfl rfl rfl (z7 rfl) (by repeat (apply At.s)) rfl ?_)|(refine Sep.wloadNz hS rfl rfl rfl (by repeat (apply At.s)) (z6 rfl) ?_)|(refine Sep.wstore1b hS rfl rfl rfl rfl (z7 rfl) rfl (by repeat (first|with_reducible exact At.z|apply At.s)) rfl rfl (by repeat (first|with_reducible exact Put.z|apply Put.s)) ?_;clear hS;intro W hS;simp only [Act.eval,Array.getD_eq_getD_getElem?,List.getElem?_toArray,List.getElem?_cons_succ,List.getElem?_cons_zero,Option.getD_some,List.set_cons_zero,List.set_cons_succ] at hS)|(refine Sep.wstoreNb hS rfl rfl rfl rfl (z6 rfl) (by simp [z13,Value.oneCell']) (by repeat (first|with_reducible exact At.z|apply At.s)) (by rfl) (by repeat (first|with_reducible exact Put.z|apply Put.s)) ?_;clear hS;intro W hS)|(refine Sep.wloadNr hS rfl rfl rfl (by repeat (apply At.s)) (z6 rfl) (by omega) ?_;clear hS;intro z cs hz hS;(first|(have hO:=hS.open_int (by first|with_reducible exact At.z|exact At.s At.z);obtain ⟨rfl,hI⟩:=hO)|(have hO:=hS.open_str (by first|with_reducible exact At.z|exact At.s At.z);obtain ⟨rfl,hI⟩:=hO)|(have hO:=hS.open_op (by first|with_reducible exact At.z|exact At.s At.z);obtain ⟨rfl,hI,hJ⟩:=hO)|(have hO:=hS.open_point (by first|with_reducible exact At.z|exact At.s At.z);obtain ⟨rfl,hI,hJ⟩:=hO)|(have hO:=hS.open_in (by first|with_reducible exact At.z|exact At.s At.z);clear hS;obtain ⟨A',n',c',rfl,hI,hJ,hS⟩:=hO)|(have hO:=hS.open_out (by first|with_reducible exact At.z|exact At.s At.z);clear hS;obtain ⟨A',n',c',rfl,hI,hS⟩:=hO)|(have hO:=hS.open_tx (by first|with_reducible exact At.z|exact At.s At.z);clear hS;obtain ⟨A',n',c',A2',n2',c2',rfl,hI,hS⟩:=hO)|(have hO:=hS.open_book (by first|with_reducible exact At.z|exact At.s At.z);clear hS;obtain ⟨A',n',c',rfl,hS⟩:=hO)|(have hO:=hS.open_undo (by first|with_reducible exact At.z|exact At.s At.z);clear hS;obtain ⟨A',n',c',rfl,hS⟩:=hO)|(have hO:=hS.open_coin (by first|with_reducible exact At.z|exact At.s At.z);clear hS;obtain ⟨A',n',c',rfl,hI,hJ,hK,hL,hS⟩:=hO)|(have hO:=hS.open_block (by first|with_reducible exact At.z|exact At.s At.z);clear hS;obtain ⟨A',n',c',rfl,hI,hJ,hK,hL,hS⟩:=hO)|(have hO:=hS.open_tree (by first|with_reducible exact At.z|exact At.s At.z);clear hS;obtain ⟨A',n',c',A2',n2',c2',rfl,hS⟩:=hO)|(have hO:=hS.open_node (by first|with_reducible exact At.z|exact At.s At.z);clear hS;obtain ⟨A',n',c',A2',n2',c2',A3',n3',c3',rfl,hI,hS⟩:=hO)))|((first|refine Sep.windexN hS rfl rfl rfl rfl (by repeat (first|with_reducible exact At.z|apply At.s)) (by exact z47) (by omega) ?_|refine Sep.windex hS rfl rfl rfl rfl (by repeat (first|with_reducible exact At.z|apply At.s)) (by exact z47) (by omega) (by omega) ?_);clear hS;intro b q z cs hz hS;(first|(have hO:=hS.open_int (At.s At.z);obtain ⟨rfl,hI⟩:=hO)|(have hO:=hS.open_str (At.s At.z);obtain ⟨rfl,hI⟩:=hO)|(have hO:=hS.open_op (At.s At.z);obtain ⟨rfl,hI,hJ⟩:=hO)|(have hO:=hS.open_point (At.s At.z);obtain ⟨rfl,hI,hJ⟩:=hO)|(have hO:=hS.open_in (At.s At.z);clear hS;obtain ⟨A',n',c',rfl,hI,hJ,hS⟩:=hO)|(have hO:=hS.open_out (At.s At.z);clear hS;obtain ⟨A',n',c',rfl,hI,hS⟩:=hO)|(have hO:=hS.open_tx (At.s At.z);clear hS;obtain ⟨A',n',c',A2',n2',c2',rfl,hI,hS⟩:=hO)|(have hO:=hS.open_book (At.s At.z);clear hS;obtain ⟨A',n',c',rfl,hS⟩:=hO)|(have hO:=hS.open_undo (At.s At.z);clear hS;obtain ⟨A',n',c',rfl,hS⟩:=hO)|(have hO:=hS.open_coin (At.s At.z);clear hS;obtain ⟨A',n',c',rfl,hI,hJ,hK,hL,hS⟩:=hO)|(have hO:=hS.open_block (At.s At.z);clear hS;obtain ⟨A',n',c',rfl,hI,hJ,hK,hL,hS⟩:=hO)|(have hO:=hS.open_tree (At.s At.z);clear hS;obtain ⟨A',n',c',A2',n2',c2',rfl,hS⟩:=hO)|(have hO:=hS.open_node (At.s At.z);clear hS;obtain ⟨A',n',c',A2',n2',c2',A3',n3',c3',rfl,hI,hS⟩:=hO)))))
 (refine ⟨fun h=>z43 (by kernel_rfl) h,?_⟩;try simp only [Act.put,List.setIfInBounds_toArray,List.set_cons_zero,List.set_cons_succ])
 refine z1d 14 (by kernel_rfl) rfl ?_
 go_wp2_with (((refine Sep.wstore1b hS rfl rfl rfl rfl (z7 rfl) rfl (by repeat (first|with_reducible exact At.z|apply At.s)) rfl rfl (by repeat (first|with_reducible exact Put.z|apply Put.s)) ?_;clear hS;intro W hS;simp only [Act.eval,Array.getD_eq_getD_getElem?,List.getElem?_toArray,List.getElem?_cons_succ,List.getElem?_cons_zero,Option.getD_some,List.set_cons_zero,List.set_cons_succ] at hS)))
 (refine ⟨fun h=>z43 (by kernel_rfl) h,?_⟩;try simp only [Act.put,List.setIfInBounds_toArray,List.set_cons_zero,List.set_cons_succ])
 refine z2z (by kernel_rfl) ?_
 go_wp2_with ((first|(refine Sep.wloadNb hS (by rfl) rfl rfl (by repeat (first|with_reducible exact At.z|apply At.s)) (z6 rfl) ?_)|(refine Sep.wstoreNb hS (by rfl) rfl rfl rfl (z6 rfl) (by simp [z13,Value.oneCell']) (by repeat (first|with_reducible exact At.z|apply At.s)) (by rfl) (by repeat (first|with_reducible exact Put.z|apply Put.s)) ?_;clear hS;intro W hS)))
 refine bodyPost_ret (z3f rfl (by exact Got.boxN hS rfl (by repeat (first|with_reducible exact At.z|apply At.s)) (z6 rfl)) (by exact Got.tmp rfl)) rfl ?_
 obtain ⟨A8,n8,c8,e8,-,hS⟩:=hS.freezeRow (S:=shInt) (xs:=t.names++[name]) (e:=3) (by repeat (first|with_reducible exact Del.z|apply Del.s))
 obtain ⟨A9,n9,c9,e9,-,hS⟩:=hS.freezeRow (S:=shBlock) (xs:=t.blocks++[b]) (e:=24) (by repeat (first|with_reducible exact Del.z|apply Del.s))
 simp only [Value.slice.injEq] at e8 e9
 obtain ⟨rfl,rfl,rfl⟩:=e8
 obtain ⟨rfl,rfl,rfl⟩:=e9
 have hS:=hS.mk_tree (ns:=t.names++[name]) (bs:=t.blocks++[b]) (by repeat (first|with_reducible exact At.z|apply At.s)) (by repeat (with_reducible exact At.z))
 rw [ZT.out,ZE.out]
 exact ⟨_,rfl,hS.sub (by repeat (first|with_reducible exact Sub.refl|refine Sub.take (by repeat (first|with_reducible exact Del.z|apply Del.s)) ?_|apply Sub.skip))⟩
end
section
open Go.RowKit
set_option maxRecDepth 100000
def z5g (ns:List Int) (bs:List Block):List Int→Int
 | []=>0
 | m::l=>(z16 bs (idx ns m)).work+z5g ns bs l
theorem zve (ns:List Int) (bs:List Block) (l r:List Int):z5g ns bs (l++r)=z5g ns bs l+z5g ns bs r:=by
 induction l with
 | nil=>simp [z5g]
 | cons x l ih=>simp only [List.cons_append,z5g,ih];omega
theorem z08e {ns:List Int} {bs:List Block} (hb:∀ b ∈ bs,0≤b.work∧b.work≤1000) (l:List Int):0≤z5g ns bs l∧z5g ns bs l≤1000 * l.length:=by
 induction l with
 | nil=>simp [z5g]
 | cons x l ih =>
  have:0≤(z16 bs (idx ns x)).work∧(z16 bs (idx ns x)).work≤1000:=by
   unfold z16
   match h:bs[(idx ns x).toNat]? with
   | some b=>exact hb b (List.mem_of_getElem? h)
   | none=>simp
  simp only [z5g,List.length_cons]
  omega
theorem zpq {b:Block} (h:zh b=0):0≤b.work∧b.work≤1000:=by
 have:=(zdk h).1
 unfold z4o at this
 omega
set_option maxHeartbeats 1000000 in
theorem z0db (t:Tree) (A1:Option Addr) (n1 c1:Nat) (A2:Option Addr) (n2 c2:Nat) (l:List Int) (A:Option Addr) (n c:Nat) {w0 W:World} {F0:Nat→Prop} {Γ:List Res} (hS:Sep w0 F0 Γ W) (h1:At Γ (rds t.names A1 n1 c1 shInt)) (h2:At Γ (rds t.blocks A2 n2 c2 shBlock)) (hl:At Γ (rds l A n c shInt))
  (ok:z01 t=0) (hin:∀ m ∈ l,0≤idx t.names m) (hn:l.length≤100000) :
  Calls Tryz.prog 78 #[.agg #[.slice A1 n1 c1,.slice A2 n2 c2],.slice A n c] W (RV w0 F0 Γ (.int .i64 (z5g t.names t.blocks l))):=by
 obtain ⟨rfl,_,_⟩:=hS.len h1
 obtain ⟨rfl,_,_⟩:=hS.len h2
 obtain ⟨rfl,_,_⟩:=hS.len hl
 have OK:=Lib.hid ((z0x t.names t.blocks).1 ok)
 have HB:=Lib.hid (fun b hb=>zpq (z6m ok b hb))
 have HI:=Lib.hid hin
 clear ok hin
 go_enter Tryz.func78,Tryz.ntmps78
 (go_wp2_with (first|(refine Sep.wbox hS (by rfl) rfl rfl ?_;clear hS;intro gt W hS;refine Stop.go ?_)|(refine Sep.walloc hS (by rfl) rfl (by first|exact z2p|exact z1i|exact z4r|exact z33|exact z4g|exact z26|exact z27|exact z28|exact z15|exact z1s|exact z29|exact z0t|exact z3g|exact z0f|exact z3h|exact z1j|exact z2a|exact z3i) ?_;clear hS;intro gt W hS;refine Stop.go ?_)|(first|(refine Sep.wload1b hS (by rfl) rfl rfl (z7 rfl) (by repeat (first|with_reducible exact At.z|assumption|apply At.s)) rfl ?_)|(refine Sep.wloadNb hS (by rfl) rfl rfl (by repeat (first|with_reducible exact At.z|assumption|apply At.s)) (z6 rfl) ?_)|(refine Sep.wload1z hS (by rfl) rfl rfl (z7 rfl) (by repeat (first|with_reducible exact At.z|assumption|apply At.s)) rfl ?_)|(refine Sep.wload1c hS (by rfl) rfl rfl (z7 rfl) (by repeat (first|with_reducible exact At.z|assumption|apply At.s)) rfl ?_)|(refine Sep.wloadNz hS (by rfl) rfl rfl (by repeat (first|with_reducible exact At.z|assumption|apply At.s)) (z6 rfl) ?_)|(refine Sep.walloc hS (by rfl) rfl (by first|exact z2p|exact z1i|exact z4r|exact z33|exact z4g|exact z26|exact z27|exact z28|exact z15|exact z1s|exact z29|exact z0t|exact z3g|exact z0f|exact z3h|exact z1j|exact z2a|exact z3i) ?_;clear hS;intro g W hS)|(refine Sep.wbox hS (by rfl) rfl rfl ?_;clear hS;intro g W hS)|(refine Sep.wstoreNb hS (by rfl) rfl rfl rfl (z6 rfl) (by simp [z13,Value.oneCell']) (by repeat (first|with_reducible exact At.z|assumption|apply At.s)) (by rfl) (by repeat (first|with_reducible exact Put.z|apply Put.s)) ?_;clear hS;intro W hS)));refine Stop.mk ?_)
 go_wp2_with ((first|(refine Sep.wload1b hS (by rfl) rfl rfl (z7 rfl) (by repeat (first|with_reducible exact At.z|assumption|apply At.s)) rfl ?_)|(refine Sep.wloadNb hS (by rfl) rfl rfl (by repeat (first|with_reducible exact At.z|assumption|apply At.s)) (z6 rfl) ?_)|(refine Sep.wload1z hS (by rfl) rfl rfl (z7 rfl) (by repeat (first|with_reducible exact At.z|assumption|apply At.s)) rfl ?_)|(refine Sep.wload1c hS (by rfl) rfl rfl (z7 rfl) (by repeat (first|with_reducible exact At.z|assumption|apply At.s)) rfl ?_)|(refine Sep.wloadNz hS (by rfl) rfl rfl (by repeat (first|with_reducible exact At.z|assumption|apply At.s)) (z6 rfl) ?_)|(refine Sep.walloc hS (by rfl) rfl (by first|exact z2p|exact z1i|exact z4r|exact z33|exact z4g|exact z26|exact z27|exact z28|exact z15|exact z1s|exact z29|exact z0t|exact z3g|exact z0f|exact z3h|exact z1j|exact z2a|exact z3i) ?_;clear hS;intro g W hS)|(refine Sep.wbox hS (by rfl) rfl rfl ?_;clear hS;intro g W hS)|(refine Sep.wstoreNb hS (by rfl) rfl rfl rfl (z6 rfl) (by simp [z13,Value.oneCell']) (by repeat (first|with_reducible exact At.z|assumption|apply At.s)) (by rfl) (by repeat (first|with_reducible exact Put.z|apply Put.s)) ?_;clear hS;intro W hS)))
 go_loopw [5,7,10] (fun s _ i wr=>∃ k:Nat,k≤l.length∧i = .int .i64 k∧s = .int .i64 (z5g t.names t.blocks (l.take k))∧Sep w0 F0 (box gt [.slice A1 t.names.length c1,.slice A2 t.blocks.length c2] 41::Γ) wr) (fun _ _ i _=>l.length - (intOf i).toNat)
 case atStart=>exact ⟨0,by omega,rfl,rfl,hS.sub (by repeat (first|with_reducible exact Sub.refl|with_reducible exact Sub.nil|refine Sub.take (by repeat (first|with_reducible exact Del.z|apply Del.s)) ?_|apply Sub.skip))⟩
 case round =>
  clear hS
  obtain ⟨k,hk,rfl,rfl,hS⟩:=hrel
  have bd:=z08e (ns:=t.names) HB.out (l.take k)
  have bl:(l.take k).length≤100000:=by simp;omega
  rcases Classical.em (k<l.length) with hlt|hlt
  ·go_wp2_with ((first
   | (refine Sep.wbox hS rfl rfl rfl ?_;clear hS;intro g W hS)
   | (refine Sep.walloc hS rfl rfl (by first|exact z2p|exact z1i|exact z4r|exact z33|exact z4g|exact z26|exact z27|exact z28|exact z15|exact z1s|exact z29|exact z0t|exact z3g|exact z0f|exact z3h|exact z1j|exact z2a|exact z3i) ?_;clear hS;intro g W hS)
   | (refine Sep.wload1b hS rfl rfl rfl (z7 rfl) (by repeat (first|with_reducible exact At.z|assumption|apply At.s)) rfl ?_)
   | (refine Sep.wloadNb hS rfl rfl rfl (by repeat (first|with_reducible exact At.z|assumption|apply At.s)) (z6 rfl) ?_)
   | (refine Sep.wload1z hS rfl rfl rfl (z7 rfl) (by repeat (first|with_reducible exact At.z|assumption|apply At.s)) rfl ?_)
   | (refine Sep.wload1c hS rfl rfl rfl (z7 rfl) (by repeat (first|with_reducible exact At.z|assumption|apply At.s)) rfl ?_)
   | (refine Sep.wloadNz hS rfl rfl rfl (by repeat (first|with_reducible exact At.z|assumption|apply At.s)) (z6 rfl) ?_)
   | (refine Sep.wstore1b hS rfl rfl rfl rfl (z7 rfl) rfl (by repeat (first|with_reducible exact At.z|assumption|apply At.s)) rfl rfl (by repeat (first|with_reducible exact Put.z|apply Put.s)) ?_;clear hS;intro W hS;simp only [Act.eval,Array.getD_eq_getD_getElem?,List.getElem?_toArray,List.getElem?_cons_succ,List.getElem?_cons_zero,Option.getD_some,List.set_cons_zero,List.set_cons_succ] at hS)
   | (refine Sep.wstoreNb hS rfl rfl rfl rfl (z6 rfl) (by simp [z13,Value.oneCell']) (by repeat (first|with_reducible exact At.z|assumption|apply At.s)) (by rfl) (by repeat (first|with_reducible exact Put.z|apply Put.s)) ?_;clear hS;intro W hS)
   | (refine Sep.wloadNr hS rfl rfl rfl (by repeat (first|with_reducible exact At.z|assumption|apply At.s)) (z6 rfl) (by omega) ?_;clear hS;intro z cs hz hS;(first|(have hO:=hS.open_int (by first|with_reducible exact At.z|exact At.s At.z);obtain ⟨rfl,hI⟩:=hO)|(have hO:=hS.open_str (by first|with_reducible exact At.z|exact At.s At.z);obtain ⟨rfl,hI⟩:=hO)|(have hO:=hS.open_op (by first|with_reducible exact At.z|exact At.s At.z);obtain ⟨rfl,hI,hJ⟩:=hO)|(have hO:=hS.open_point (by first|with_reducible exact At.z|exact At.s At.z);obtain ⟨rfl,hI,hJ⟩:=hO)|(have hO:=hS.open_in (by first|with_reducible exact At.z|exact At.s At.z);clear hS;obtain ⟨A',n',c',rfl,hI,hJ,hS⟩:=hO)|(have hO:=hS.open_out (by first|with_reducible exact At.z|exact At.s At.z);clear hS;obtain ⟨A',n',c',rfl,hI,hS⟩:=hO)|(have hO:=hS.open_tx (by first|with_reducible exact At.z|exact At.s At.z);clear hS;obtain ⟨A',n',c',A2',n2',c2',rfl,hI,hS⟩:=hO)|(have hO:=hS.open_book (by first|with_reducible exact At.z|exact At.s At.z);clear hS;obtain ⟨A',n',c',rfl,hS⟩:=hO)|(have hO:=hS.open_undo (by first|with_reducible exact At.z|exact At.s At.z);clear hS;obtain ⟨A',n',c',rfl,hS⟩:=hO)|(have hO:=hS.open_coin (by first|with_reducible exact At.z|exact At.s At.z);clear hS;obtain ⟨A',n',c',rfl,hI,hJ,hK,hL,hS⟩:=hO)|(have hO:=hS.open_block (by first|with_reducible exact At.z|exact At.s At.z);clear hS;obtain ⟨A',n',c',rfl,hI,hJ,hK,hL,hS⟩:=hO)|(have hO:=hS.open_tree (by first|with_reducible exact At.z|exact At.s At.z);clear hS;obtain ⟨A',n',c',A2',n2',c2',rfl,hS⟩:=hO)|(have hO:=hS.open_node (by first|with_reducible exact At.z|exact At.s At.z);clear hS;obtain ⟨A',n',c',A2',n2',c2',A3',n3',c3',rfl,hI,hS⟩:=hO)))
   | ((first|refine Sep.windexN hS rfl rfl rfl rfl (by repeat (first|with_reducible exact At.z|assumption|apply At.s)) (by first|exact z5s|exact z2q|exact z47|exact z4u|exact z5t|exact z2j|exact z2k|exact z1o|exact z3o|exact z1f|exact z0y|exact z3x|exact z4v) (by omega) ?_|refine Sep.windex hS rfl rfl rfl rfl (by repeat (first|with_reducible exact At.z|assumption|apply At.s)) (by first|exact z5s|exact z2q|exact z47|exact z4u|exact z5t|exact z2j|exact z2k|exact z1o|exact z3o|exact z1f|exact z0y|exact z3x|exact z4v) (by omega) (by omega) ?_);clear hS;intro b q z cs hz hS;(first|(have hO:=hS.open_int (At.s At.z);obtain ⟨rfl,hI⟩:=hO)|(have hO:=hS.open_str (At.s At.z);obtain ⟨rfl,hI⟩:=hO)|(have hO:=hS.open_op (At.s At.z);obtain ⟨rfl,hI,hJ⟩:=hO)|(have hO:=hS.open_point (At.s At.z);obtain ⟨rfl,hI,hJ⟩:=hO)|(have hO:=hS.open_in (At.s At.z);clear hS;obtain ⟨A',n',c',rfl,hI,hJ,hS⟩:=hO)|(have hO:=hS.open_out (At.s At.z);clear hS;obtain ⟨A',n',c',rfl,hI,hS⟩:=hO)|(have hO:=hS.open_tx (At.s At.z);clear hS;obtain ⟨A',n',c',A2',n2',c2',rfl,hI,hS⟩:=hO)|(have hO:=hS.open_book (At.s At.z);clear hS;obtain ⟨A',n',c',rfl,hS⟩:=hO)|(have hO:=hS.open_undo (At.s At.z);clear hS;obtain ⟨A',n',c',rfl,hS⟩:=hO)|(have hO:=hS.open_coin (At.s At.z);clear hS;obtain ⟨A',n',c',rfl,hI,hJ,hK,hL,hS⟩:=hO)|(have hO:=hS.open_block (At.s At.z);clear hS;obtain ⟨A',n',c',rfl,hI,hJ,hK,hL,hS⟩:=hO)|(have hO:=hS.open_tree (At.s At.z);clear hS;obtain ⟨A',n',c',A2',n2',c2',rfl,hS⟩:=hO)|(have hO:=hS.open_node (At.s At.z);clear hS;obtain ⟨A',n',c',A2',n2',c2',A3',n3',c3',rfl,hI,hS⟩:=hO)))))
   have hz1:=HI.out z (List.mem_of_getElem? hz.out)
   obtain ⟨j,hj,hjs⟩:=zee hz1
   have hjl:=(List.getElem?_eq_some_iff.1 hjs).1
   have hjb:j<t.blocks.length:=by have:=OK.out.len;omega
   have HJ:=Lib.hid hj
   have HZ:=hz
   clear hj hjs hz
   (refine Sep.regionT hS [] (by kernel_rfl) ?_;clear hS;intro W hS)
   (refine zm 0 rfl rfl (by (first|exact Yl.move rfl|exact Yl.assign rfl|exact Yl.load1b rfl rfl (z7 rfl) (by repeat (first|with_reducible exact At.z|assumption|apply At.s)) rfl|exact Yl.loadNb rfl rfl (by repeat (first|with_reducible exact At.z|assumption|apply At.s)) (z6 rfl)|exact Yl.load1z rfl rfl (z7 rfl) (by repeat (first|with_reducible exact At.z|assumption|apply At.s)) rfl|exact Yl.load1c rfl rfl (z7 rfl) (by repeat (first|with_reducible exact At.z|assumption|apply At.s)) rfl|exact Yl.loadNz rfl rfl (by repeat (first|with_reducible exact At.z|assumption|apply At.s)) (z6 rfl)|(apply Yl.pure;intro W;go_simp;with_reducible rfl))) (hS.sub (by repeat (first|with_reducible exact Sub.refl|with_reducible exact Sub.nil|refine Sub.take (by repeat (first|with_reducible exact Del.z|apply Del.s)) ?_|apply Sub.skip))) (by kernel_rfl) (fun _ _ _ h=>h) ?_;simp only [Act.put,List.setIfInBounds_toArray,List.set_cons_zero,List.set_cons_succ])
   (refine zm 1 rfl rfl (by (first|exact Yl.move rfl|exact Yl.assign rfl|exact Yl.load1b rfl rfl (z7 rfl) (by repeat (first|with_reducible exact At.z|assumption|apply At.s)) rfl|exact Yl.loadNb rfl rfl (by repeat (first|with_reducible exact At.z|assumption|apply At.s)) (z6 rfl)|exact Yl.load1z rfl rfl (z7 rfl) (by repeat (first|with_reducible exact At.z|assumption|apply At.s)) rfl|exact Yl.load1c rfl rfl (z7 rfl) (by repeat (first|with_reducible exact At.z|assumption|apply At.s)) rfl|exact Yl.loadNz rfl rfl (by repeat (first|with_reducible exact At.z|assumption|apply At.s)) (z6 rfl)|(apply Yl.pure;intro W;go_simp;with_reducible rfl))) (hS.sub (by repeat (first|with_reducible exact Sub.refl|with_reducible exact Sub.nil|refine Sub.take (by repeat (first|with_reducible exact Del.z|apply Del.s)) ?_|apply Sub.skip))) (by kernel_rfl) (fun _ _ _ h=>h) ?_;simp only [Act.put,List.setIfInBounds_toArray,List.set_cons_zero,List.set_cons_succ])
   (refine zm 2 rfl rfl (by (first|exact Yl.move rfl|exact Yl.assign rfl|exact Yl.load1b rfl rfl (z7 rfl) (by repeat (first|with_reducible exact At.z|assumption|apply At.s)) rfl|exact Yl.loadNb rfl rfl (by repeat (first|with_reducible exact At.z|assumption|apply At.s)) (z6 rfl)|exact Yl.load1z rfl rfl (z7 rfl) (by repeat (first|with_reducible exact At.z|assumption|apply At.s)) rfl|exact Yl.load1c rfl rfl (z7 rfl) (by repeat (first|with_reducible exact At.z|assumption|apply At.s)) rfl|exact Yl.loadNz rfl rfl (by repeat (first|with_reducible exact At.z|assumption|apply At.s)) (z6 rfl)|(apply Yl.pure;intro W;go_simp;with_reducible rfl))) (hS.sub (by repeat (first|with_reducible exact Sub.refl|with_reducible exact Sub.nil|refine Sub.take (by repeat (first|with_reducible exact Del.z|apply Del.s)) ?_|apply Sub.skip))) (by kernel_rfl) (fun _ _ _ h=>h) ?_;simp only [Act.put,List.setIfInBounds_toArray,List.set_cons_zero,List.set_cons_succ])
   (refine zm 3 rfl rfl (by (first|exact Yl.move rfl|exact Yl.assign rfl|exact Yl.load1b rfl rfl (z7 rfl) (by repeat (first|with_reducible exact At.z|assumption|apply At.s)) rfl|exact Yl.loadNb rfl rfl (by repeat (first|with_reducible exact At.z|assumption|apply At.s)) (z6 rfl)|exact Yl.load1z rfl rfl (z7 rfl) (by repeat (first|with_reducible exact At.z|assumption|apply At.s)) rfl|exact Yl.load1c rfl rfl (z7 rfl) (by repeat (first|with_reducible exact At.z|assumption|apply At.s)) rfl|exact Yl.loadNz rfl rfl (by repeat (first|with_reducible exact At.z|assumption|apply At.s)) (z6 rfl)|(apply Yl.pure;intro W;go_simp;with_reducible rfl))) (hS.sub (by repeat (first|with_reducible exact Sub.refl|with_reducible exact Sub.nil|refine Sub.take (by repeat (first|with_reducible exact Del.z|apply Del.s)) ?_|apply Sub.skip))) (by kernel_rfl) (fun _ _ _ h=>h) ?_;simp only [Act.put,List.setIfInBounds_toArray,List.set_cons_zero,List.set_cons_succ])
   (refine zm 4 rfl rfl (by (first|exact Yl.move rfl|exact Yl.assign rfl|exact Yl.load1b rfl rfl (z7 rfl) (by repeat (first|with_reducible exact At.z|assumption|apply At.s)) rfl|exact Yl.loadNb rfl rfl (by repeat (first|with_reducible exact At.z|assumption|apply At.s)) (z6 rfl)|exact Yl.load1z rfl rfl (z7 rfl) (by repeat (first|with_reducible exact At.z|assumption|apply At.s)) rfl|exact Yl.load1c rfl rfl (z7 rfl) (by repeat (first|with_reducible exact At.z|assumption|apply At.s)) rfl|exact Yl.loadNz rfl rfl (by repeat (first|with_reducible exact At.z|assumption|apply At.s)) (z6 rfl)|(apply Yl.pure;intro W;go_simp;with_reducible rfl))) (hS.sub (by repeat (first|with_reducible exact Sub.refl|with_reducible exact Sub.nil|refine Sub.take (by repeat (first|with_reducible exact Del.z|apply Del.s)) ?_|apply Sub.skip))) (by kernel_rfl) (fun _ _ _ h=>h) ?_;simp only [Act.put,List.setIfInBounds_toArray,List.set_cons_zero,List.set_cons_succ])
   (refine zm 5 rfl rfl (by (first|exact Yl.move rfl|exact Yl.assign rfl|exact Yl.load1b rfl rfl (z7 rfl) (by repeat (first|with_reducible exact At.z|assumption|apply At.s)) rfl|exact Yl.loadNb rfl rfl (by repeat (first|with_reducible exact At.z|assumption|apply At.s)) (z6 rfl)|exact Yl.load1z rfl rfl (z7 rfl) (by repeat (first|with_reducible exact At.z|assumption|apply At.s)) rfl|exact Yl.load1c rfl rfl (z7 rfl) (by repeat (first|with_reducible exact At.z|assumption|apply At.s)) rfl|exact Yl.loadNz rfl rfl (by repeat (first|with_reducible exact At.z|assumption|apply At.s)) (z6 rfl)|(apply Yl.pure;intro W;go_simp;with_reducible rfl))) (hS.sub (by repeat (first|with_reducible exact Sub.refl|with_reducible exact Sub.nil|refine Sub.take (by repeat (first|with_reducible exact Del.z|apply Del.s)) ?_|apply Sub.skip))) (by kernel_rfl) (fun _ _ _ h=>h) ?_;simp only [Act.put,List.setIfInBounds_toArray,List.set_cons_zero,List.set_cons_succ])
   refine z1d 6 (by kernel_rfl) rfl ?_
   go_wp2_with fail
   refine (hS.oldS (zcw t.names z _ _ _ _ _ (hS.ltsRds (by repeat (first|with_reducible exact At.z|assumption|apply At.s))))).mono ?_;clear hS;rintro e W ⟨rfl,hS⟩
   rw [HJ.out]
   go_wp2_with fail
   (refine ⟨fun _=>hS.sub (by repeat (first|with_reducible exact Sub.refl|with_reducible exact Sub.nil|refine Sub.take (by repeat (first|with_reducible exact Del.z|apply Del.s)) ?_|apply Sub.skip)),?_⟩;try simp only [Act.put,List.setIfInBounds_toArray,List.set_cons_zero,List.set_cons_succ])
   (refine z1d 7 (by kernel_rfl) rfl ?_;go_wp2_with ((first
   | (refine Sep.wbox hS rfl rfl rfl ?_;clear hS;intro g W hS)
   | (refine Sep.walloc hS rfl rfl (by first|exact z2p|exact z1i|exact z4r|exact z33|exact z4g|exact z26|exact z27|exact z28|exact z15|exact z1s|exact z29|exact z0t|exact z3g|exact z0f|exact z3h|exact z1j|exact z2a|exact z3i) ?_;clear hS;intro g W hS)
   | (refine Sep.wload1b hS rfl rfl rfl (z7 rfl) (by repeat (first|with_reducible exact At.z|assumption|apply At.s)) rfl ?_)
   | (refine Sep.wloadNb hS rfl rfl rfl (by repeat (first|with_reducible exact At.z|assumption|apply At.s)) (z6 rfl) ?_)
   | (refine Sep.wload1z hS rfl rfl rfl (z7 rfl) (by repeat (first|with_reducible exact At.z|assumption|apply At.s)) rfl ?_)
   | (refine Sep.wload1c hS rfl rfl rfl (z7 rfl) (by repeat (first|with_reducible exact At.z|assumption|apply At.s)) rfl ?_)
   | (refine Sep.wloadNz hS rfl rfl rfl (by repeat (first|with_reducible exact At.z|assumption|apply At.s)) (z6 rfl) ?_)
   | (refine Sep.wstore1b hS rfl rfl rfl rfl (z7 rfl) rfl (by repeat (first|with_reducible exact At.z|assumption|apply At.s)) rfl rfl (by repeat (first|with_reducible exact Put.z|apply Put.s)) ?_;clear hS;intro W hS;simp only [Act.eval,Array.getD_eq_getD_getElem?,List.getElem?_toArray,List.getElem?_cons_succ,List.getElem?_cons_zero,Option.getD_some,List.set_cons_zero,List.set_cons_succ] at hS)
   | (refine Sep.wstoreNb hS rfl rfl rfl rfl (z6 rfl) (by simp [z13,Value.oneCell']) (by repeat (first|with_reducible exact At.z|assumption|apply At.s)) (by rfl) (by repeat (first|with_reducible exact Put.z|apply Put.s)) ?_;clear hS;intro W hS)
   | (refine Sep.wloadNr hS rfl rfl rfl (by repeat (first|with_reducible exact At.z|assumption|apply At.s)) (z6 rfl) (by omega) ?_;clear hS;intro z cs hz hS;(first|(have hO:=hS.open_int (by first|with_reducible exact At.z|exact At.s At.z);obtain ⟨rfl,hI⟩:=hO)|(have hO:=hS.open_str (by first|with_reducible exact At.z|exact At.s At.z);obtain ⟨rfl,hI⟩:=hO)|(have hO:=hS.open_op (by first|with_reducible exact At.z|exact At.s At.z);obtain ⟨rfl,hI,hJ⟩:=hO)|(have hO:=hS.open_point (by first|with_reducible exact At.z|exact At.s At.z);obtain ⟨rfl,hI,hJ⟩:=hO)|(have hO:=hS.open_in (by first|with_reducible exact At.z|exact At.s At.z);clear hS;obtain ⟨A',n',c',rfl,hI,hJ,hS⟩:=hO)|(have hO:=hS.open_out (by first|with_reducible exact At.z|exact At.s At.z);clear hS;obtain ⟨A',n',c',rfl,hI,hS⟩:=hO)|(have hO:=hS.open_tx (by first|with_reducible exact At.z|exact At.s At.z);clear hS;obtain ⟨A',n',c',A2',n2',c2',rfl,hI,hS⟩:=hO)|(have hO:=hS.open_book (by first|with_reducible exact At.z|exact At.s At.z);clear hS;obtain ⟨A',n',c',rfl,hS⟩:=hO)|(have hO:=hS.open_undo (by first|with_reducible exact At.z|exact At.s At.z);clear hS;obtain ⟨A',n',c',rfl,hS⟩:=hO)|(have hO:=hS.open_coin (by first|with_reducible exact At.z|exact At.s At.z);clear hS;obtain ⟨A',n',c',rfl,hI,hJ,hK,hL,hS⟩:=hO)|(have hO:=hS.open_block (by first|with_reducible exact At.z|exact At.s At.z);clear hS;obtain ⟨A',n',c',rfl,hI,hJ,hK,hL,hS⟩:=hO)|(have hO:=hS.open_tree (by first|with_reducible exact At.z|exact At.s At.z);clear hS;obtain ⟨A',n',c',A2',n2',c2',rfl,hS⟩:=hO)|(have hO:=hS.open_node (by first|with_reducible exact At.z|exact At.s At.z);clear hS;obtain ⟨A',n',c',A2',n2',c2',A3',n3',c3',rfl,hI,hS⟩:=hO)))
   | ((first|refine Sep.windexN hS rfl rfl rfl rfl (by repeat (first|with_reducible exact At.z|assumption|apply At.s)) (by first|exact z5s|exact z2q|exact z47|exact z4u|exact z5t|exact z2j|exact z2k|exact z1o|exact z3o|exact z1f|exact z0y|exact z3x|exact z4v) (by omega) ?_|refine Sep.windex hS rfl rfl rfl rfl (by repeat (first|with_reducible exact At.z|assumption|apply At.s)) (by first|exact z5s|exact z2q|exact z47|exact z4u|exact z5t|exact z2j|exact z2k|exact z1o|exact z3o|exact z1f|exact z0y|exact z3x|exact z4v) (by omega) (by omega) ?_);clear hS;intro b q z cs hz hS;(first|(have hO:=hS.open_int (At.s At.z);obtain ⟨rfl,hI⟩:=hO)|(have hO:=hS.open_str (At.s At.z);obtain ⟨rfl,hI⟩:=hO)|(have hO:=hS.open_op (At.s At.z);obtain ⟨rfl,hI,hJ⟩:=hO)|(have hO:=hS.open_point (At.s At.z);obtain ⟨rfl,hI,hJ⟩:=hO)|(have hO:=hS.open_in (At.s At.z);clear hS;obtain ⟨A',n',c',rfl,hI,hJ,hS⟩:=hO)|(have hO:=hS.open_out (At.s At.z);clear hS;obtain ⟨A',n',c',rfl,hI,hS⟩:=hO)|(have hO:=hS.open_tx (At.s At.z);clear hS;obtain ⟨A',n',c',A2',n2',c2',rfl,hI,hS⟩:=hO)|(have hO:=hS.open_book (At.s At.z);clear hS;obtain ⟨A',n',c',rfl,hS⟩:=hO)|(have hO:=hS.open_undo (At.s At.z);clear hS;obtain ⟨A',n',c',rfl,hS⟩:=hO)|(have hO:=hS.open_coin (At.s At.z);clear hS;obtain ⟨A',n',c',rfl,hI,hJ,hK,hL,hS⟩:=hO)|(have hO:=hS.open_block (At.s At.z);clear hS;obtain ⟨A',n',c',rfl,hI,hJ,hK,hL,hS⟩:=hO)|(have hO:=hS.open_tree (At.s At.z);clear hS;obtain ⟨A',n',c',A2',n2',c2',rfl,hS⟩:=hO)|(have hO:=hS.open_node (At.s At.z);clear hS;obtain ⟨A',n',c',A2',n2',c2',A3',n3',c3',rfl,hI,hS⟩:=hO)))));(refine ⟨fun _=>hS.sub (by repeat (first|with_reducible exact Sub.refl|with_reducible exact Sub.nil|refine Sub.take (by repeat (first|with_reducible exact Del.z|apply Del.s)) ?_|apply Sub.skip)),?_⟩;try simp only [Act.put,List.setIfInBounds_toArray,List.set_cons_zero,List.set_cons_succ]))
   have hw:=HB.out z (List.mem_of_getElem? hz.out)
   have hb:z16 t.blocks (j:Int)=z:=by simp [z16,hz.out]
   have HBJ:=Lib.hid hb
   clear hb
   (refine z1d 8 (by kernel_rfl) rfl ?_;go_wp2_with ((first
   | (refine Sep.wbox hS rfl rfl rfl ?_;clear hS;intro g W hS)
   | (refine Sep.walloc hS rfl rfl (by first|exact z2p|exact z1i|exact z4r|exact z33|exact z4g|exact z26|exact z27|exact z28|exact z15|exact z1s|exact z29|exact z0t|exact z3g|exact z0f|exact z3h|exact z1j|exact z2a|exact z3i) ?_;clear hS;intro g W hS)
   | (refine Sep.wload1b hS rfl rfl rfl (z7 rfl) (by repeat (first|with_reducible exact At.z|assumption|apply At.s)) rfl ?_)
   | (refine Sep.wloadNb hS rfl rfl rfl (by repeat (first|with_reducible exact At.z|assumption|apply At.s)) (z6 rfl) ?_)
   | (refine Sep.wload1z hS rfl rfl rfl (z7 rfl) (by repeat (first|with_reducible exact At.z|assumption|apply At.s)) rfl ?_)
   | (refine Sep.wload1c hS rfl rfl rfl (z7 rfl) (by repeat (first|with_reducible exact At.z|assumption|apply At.s)) rfl ?_)
   | (refine Sep.wloadNz hS rfl rfl rfl (by repeat (first|with_reducible exact At.z|assumption|apply At.s)) (z6 rfl) ?_)
   | (refine Sep.wstore1b hS rfl rfl rfl rfl (z7 rfl) rfl (by repeat (first|with_reducible exact At.z|assumption|apply At.s)) rfl rfl (by repeat (first|with_reducible exact Put.z|apply Put.s)) ?_;clear hS;intro W hS;simp only [Act.eval,Array.getD_eq_getD_getElem?,List.getElem?_toArray,List.getElem?_cons_succ,List.getElem?_cons_zero,Option.getD_some,List.set_cons_zero,List.set_cons_succ] at hS)
   | (refine Sep.wstoreNb hS rfl rfl rfl rfl (z6 rfl) (by simp [z13,Value.oneCell']) (by repeat (first|with_reducible exact At.z|assumption|apply At.s)) (by rfl) (by repeat (first|with_reducible exact Put.z|apply Put.s)) ?_;clear hS;intro W hS)
   | (refine Sep.wloadNr hS rfl rfl rfl (by repeat (first|with_reducible exact At.z|assumption|apply At.s)) (z6 rfl) (by omega) ?_;clear hS;intro z cs hz hS;(first|(have hO:=hS.open_int (by first|with_reducible exact At.z|exact At.s At.z);obtain ⟨rfl,hI⟩:=hO)|(have hO:=hS.open_str (by first|with_reducible exact At.z|exact At.s At.z);obtain ⟨rfl,hI⟩:=hO)|(have hO:=hS.open_op (by first|with_reducible exact At.z|exact At.s At.z);obtain ⟨rfl,hI,hJ⟩:=hO)|(have hO:=hS.open_point (by first|with_reducible exact At.z|exact At.s At.z);obtain ⟨rfl,hI,hJ⟩:=hO)|(have hO:=hS.open_in (by first|with_reducible exact At.z|exact At.s At.z);clear hS;obtain ⟨A',n',c',rfl,hI,hJ,hS⟩:=hO)|(have hO:=hS.open_out (by first|with_reducible exact At.z|exact At.s At.z);clear hS;obtain ⟨A',n',c',rfl,hI,hS⟩:=hO)|(have hO:=hS.open_tx (by first|with_reducible exact At.z|exact At.s At.z);clear hS;obtain ⟨A',n',c',A2',n2',c2',rfl,hI,hS⟩:=hO)|(have hO:=hS.open_book (by first|with_reducible exact At.z|exact At.s At.z);clear hS;obtain ⟨A',n',c',rfl,hS⟩:=hO)|(have hO:=hS.open_undo (by first|with_reducible exact At.z|exact At.s At.z);clear hS;obtain ⟨A',n',c',rfl,hS⟩:=hO)|(have hO:=hS.open_coin (by first|with_reducible exact At.z|exact At.s At.z);clear hS;obtain ⟨A',n',c',rfl,hI,hJ,hK,hL,hS⟩:=hO)|(have hO:=hS.open_block (by first|with_reducible exact At.z|exact At.s At.z);clear hS;obtain ⟨A',n',c',rfl,hI,hJ,hK,hL,hS⟩:=hO)|(have hO:=hS.open_tree (by first|with_reducible exact At.z|exact At.s At.z);clear hS;obtain ⟨A',n',c',A2',n2',c2',rfl,hS⟩:=hO)|(have hO:=hS.open_node (by first|with_reducible exact At.z|exact At.s At.z);clear hS;obtain ⟨A',n',c',A2',n2',c2',A3',n3',c3',rfl,hI,hS⟩:=hO)))
   | ((first|refine Sep.windexN hS rfl rfl rfl rfl (by repeat (first|with_reducible exact At.z|assumption|apply At.s)) (by first|exact z5s|exact z2q|exact z47|exact z4u|exact z5t|exact z2j|exact z2k|exact z1o|exact z3o|exact z1f|exact z0y|exact z3x|exact z4v) (by omega) ?_|refine Sep.windex hS rfl rfl rfl rfl (by repeat (first|with_reducible exact At.z|assumption|apply At.s)) (by first|exact z5s|exact z2q|exact z47|exact z4u|exact z5t|exact z2j|exact z2k|exact z1o|exact z3o|exact z1f|exact z0y|exact z3x|exact z4v) (by omega) (by omega) ?_);clear hS;intro b q z cs hz hS;(first|(have hO:=hS.open_int (At.s At.z);obtain ⟨rfl,hI⟩:=hO)|(have hO:=hS.open_str (At.s At.z);obtain ⟨rfl,hI⟩:=hO)|(have hO:=hS.open_op (At.s At.z);obtain ⟨rfl,hI,hJ⟩:=hO)|(have hO:=hS.open_point (At.s At.z);obtain ⟨rfl,hI,hJ⟩:=hO)|(have hO:=hS.open_in (At.s At.z);clear hS;obtain ⟨A',n',c',rfl,hI,hJ,hS⟩:=hO)|(have hO:=hS.open_out (At.s At.z);clear hS;obtain ⟨A',n',c',rfl,hI,hS⟩:=hO)|(have hO:=hS.open_tx (At.s At.z);clear hS;obtain ⟨A',n',c',A2',n2',c2',rfl,hI,hS⟩:=hO)|(have hO:=hS.open_book (At.s At.z);clear hS;obtain ⟨A',n',c',rfl,hS⟩:=hO)|(have hO:=hS.open_undo (At.s At.z);clear hS;obtain ⟨A',n',c',rfl,hS⟩:=hO)|(have hO:=hS.open_coin (At.s At.z);clear hS;obtain ⟨A',n',c',rfl,hI,hJ,hK,hL,hS⟩:=hO)|(have hO:=hS.open_block (At.s At.z);clear hS;obtain ⟨A',n',c',rfl,hI,hJ,hK,hL,hS⟩:=hO)|(have hO:=hS.open_tree (At.s At.z);clear hS;obtain ⟨A',n',c',A2',n2',c2',rfl,hS⟩:=hO)|(have hO:=hS.open_node (At.s At.z);clear hS;obtain ⟨A',n',c',A2',n2',c2',A3',n3',c3',rfl,hI,hS⟩:=hO)))));(refine ⟨fun _=>hS.sub (by repeat (first|with_reducible exact Sub.refl|with_reducible exact Sub.nil|refine Sub.take (by repeat (first|with_reducible exact Del.z|apply Del.s)) ?_|apply Sub.skip)),?_⟩;try simp only [Act.put,List.setIfInBounds_toArray,List.set_cons_zero,List.set_cons_succ]))
   (refine z1d 9 (by kernel_rfl) rfl ?_;go_wp2_with ((first
   | (refine Sep.wbox hS rfl rfl rfl ?_;clear hS;intro g W hS)
   | (refine Sep.walloc hS rfl rfl (by first|exact z2p|exact z1i|exact z4r|exact z33|exact z4g|exact z26|exact z27|exact z28|exact z15|exact z1s|exact z29|exact z0t|exact z3g|exact z0f|exact z3h|exact z1j|exact z2a|exact z3i) ?_;clear hS;intro g W hS)
   | (refine Sep.wload1b hS rfl rfl rfl (z7 rfl) (by repeat (first|with_reducible exact At.z|assumption|apply At.s)) rfl ?_)
   | (refine Sep.wloadNb hS rfl rfl rfl (by repeat (first|with_reducible exact At.z|assumption|apply At.s)) (z6 rfl) ?_)
   | (refine Sep.wload1z hS rfl rfl rfl (z7 rfl) (by repeat (first|with_reducible exact At.z|assumption|apply At.s)) rfl ?_)
   | (refine Sep.wload1c hS rfl rfl rfl (z7 rfl) (by repeat (first|with_reducible exact At.z|assumption|apply At.s)) rfl ?_)
   | (refine Sep.wloadNz hS rfl rfl rfl (by repeat (first|with_reducible exact At.z|assumption|apply At.s)) (z6 rfl) ?_)
   | (refine Sep.wstore1b hS rfl rfl rfl rfl (z7 rfl) rfl (by repeat (first|with_reducible exact At.z|assumption|apply At.s)) rfl rfl (by repeat (first|with_reducible exact Put.z|apply Put.s)) ?_;clear hS;intro W hS;simp only [Act.eval,Array.getD_eq_getD_getElem?,List.getElem?_toArray,List.getElem?_cons_succ,List.getElem?_cons_zero,Option.getD_some,List.set_cons_zero,List.set_cons_succ] at hS)
   | (refine Sep.wstoreNb hS rfl rfl rfl rfl (z6 rfl) (by simp [z13,Value.oneCell']) (by repeat (first|with_reducible exact At.z|assumption|apply At.s)) (by rfl) (by repeat (first|with_reducible exact Put.z|apply Put.s)) ?_;clear hS;intro W hS)
   | (refine Sep.wloadNr hS rfl rfl rfl (by repeat (first|with_reducible exact At.z|assumption|apply At.s)) (z6 rfl) (by omega) ?_;clear hS;intro z cs hz hS;(first|(have hO:=hS.open_int (by first|with_reducible exact At.z|exact At.s At.z);obtain ⟨rfl,hI⟩:=hO)|(have hO:=hS.open_str (by first|with_reducible exact At.z|exact At.s At.z);obtain ⟨rfl,hI⟩:=hO)|(have hO:=hS.open_op (by first|with_reducible exact At.z|exact At.s At.z);obtain ⟨rfl,hI,hJ⟩:=hO)|(have hO:=hS.open_point (by first|with_reducible exact At.z|exact At.s At.z);obtain ⟨rfl,hI,hJ⟩:=hO)|(have hO:=hS.open_in (by first|with_reducible exact At.z|exact At.s At.z);clear hS;obtain ⟨A',n',c',rfl,hI,hJ,hS⟩:=hO)|(have hO:=hS.open_out (by first|with_reducible exact At.z|exact At.s At.z);clear hS;obtain ⟨A',n',c',rfl,hI,hS⟩:=hO)|(have hO:=hS.open_tx (by first|with_reducible exact At.z|exact At.s At.z);clear hS;obtain ⟨A',n',c',A2',n2',c2',rfl,hI,hS⟩:=hO)|(have hO:=hS.open_book (by first|with_reducible exact At.z|exact At.s At.z);clear hS;obtain ⟨A',n',c',rfl,hS⟩:=hO)|(have hO:=hS.open_undo (by first|with_reducible exact At.z|exact At.s At.z);clear hS;obtain ⟨A',n',c',rfl,hS⟩:=hO)|(have hO:=hS.open_coin (by first|with_reducible exact At.z|exact At.s At.z);clear hS;obtain ⟨A',n',c',rfl,hI,hJ,hK,hL,hS⟩:=hO)|(have hO:=hS.open_block (by first|with_reducible exact At.z|exact At.s At.z);clear hS;obtain ⟨A',n',c',rfl,hI,hJ,hK,hL,hS⟩:=hO)|(have hO:=hS.open_tree (by first|with_reducible exact At.z|exact At.s At.z);clear hS;obtain ⟨A',n',c',A2',n2',c2',rfl,hS⟩:=hO)|(have hO:=hS.open_node (by first|with_reducible exact At.z|exact At.s At.z);clear hS;obtain ⟨A',n',c',A2',n2',c2',A3',n3',c3',rfl,hI,hS⟩:=hO)))
   | ((first|refine Sep.windexN hS rfl rfl rfl rfl (by repeat (first|with_reducible exact At.z|assumption|apply At.s)) (by first|exact z5s|exact z2q|exact z47|exact z4u|exact z5t|exact z2j|exact z2k|exact z1o|exact z3o|exact z1f|exact z0y|exact z3x|exact z4v) (by omega) ?_|refine Sep.windex hS rfl rfl rfl rfl (by repeat (first|with_reducible exact At.z|assumption|apply At.s)) (by first|exact z5s|exact z2q|exact z47|exact z4u|exact z5t|exact z2j|exact z2k|exact z1o|exact z3o|exact z1f|exact z0y|exact z3x|exact z4v) (by omega) (by omega) ?_);clear hS;intro b q z cs hz hS;(first|(have hO:=hS.open_int (At.s At.z);obtain ⟨rfl,hI⟩:=hO)|(have hO:=hS.open_str (At.s At.z);obtain ⟨rfl,hI⟩:=hO)|(have hO:=hS.open_op (At.s At.z);obtain ⟨rfl,hI,hJ⟩:=hO)|(have hO:=hS.open_point (At.s At.z);obtain ⟨rfl,hI,hJ⟩:=hO)|(have hO:=hS.open_in (At.s At.z);clear hS;obtain ⟨A',n',c',rfl,hI,hJ,hS⟩:=hO)|(have hO:=hS.open_out (At.s At.z);clear hS;obtain ⟨A',n',c',rfl,hI,hS⟩:=hO)|(have hO:=hS.open_tx (At.s At.z);clear hS;obtain ⟨A',n',c',A2',n2',c2',rfl,hI,hS⟩:=hO)|(have hO:=hS.open_book (At.s At.z);clear hS;obtain ⟨A',n',c',rfl,hS⟩:=hO)|(have hO:=hS.open_undo (At.s At.z);clear hS;obtain ⟨A',n',c',rfl,hS⟩:=hO)|(have hO:=hS.open_coin (At.s At.z);clear hS;obtain ⟨A',n',c',rfl,hI,hJ,hK,hL,hS⟩:=hO)|(have hO:=hS.open_block (At.s At.z);clear hS;obtain ⟨A',n',c',rfl,hI,hJ,hK,hL,hS⟩:=hO)|(have hO:=hS.open_tree (At.s At.z);clear hS;obtain ⟨A',n',c',A2',n2',c2',rfl,hS⟩:=hO)|(have hO:=hS.open_node (At.s At.z);clear hS;obtain ⟨A',n',c',A2',n2',c2',A3',n3',c3',rfl,hI,hS⟩:=hO)))));(refine ⟨fun _=>hS.sub (by repeat (first|with_reducible exact Sub.refl|with_reducible exact Sub.nil|refine Sub.take (by repeat (first|with_reducible exact Del.z|apply Del.s)) ?_|apply Sub.skip)),?_⟩;try simp only [Act.put,List.setIfInBounds_toArray,List.set_cons_zero,List.set_cons_succ]))
   (refine z1d 10 (by kernel_rfl) rfl ?_;go_wp2_with ((first
   | (refine Sep.wbox hS rfl rfl rfl ?_;clear hS;intro g W hS)
   | (refine Sep.walloc hS rfl rfl (by first|exact z2p|exact z1i|exact z4r|exact z33|exact z4g|exact z26|exact z27|exact z28|exact z15|exact z1s|exact z29|exact z0t|exact z3g|exact z0f|exact z3h|exact z1j|exact z2a|exact z3i) ?_;clear hS;intro g W hS)
   | (refine Sep.wload1b hS rfl rfl rfl (z7 rfl) (by repeat (first|with_reducible exact At.z|assumption|apply At.s)) rfl ?_)
   | (refine Sep.wloadNb hS rfl rfl rfl (by repeat (first|with_reducible exact At.z|assumption|apply At.s)) (z6 rfl) ?_)
   | (refine Sep.wload1z hS rfl rfl rfl (z7 rfl) (by repeat (first|with_reducible exact At.z|assumption|apply At.s)) rfl ?_)
   | (refine Sep.wload1c hS rfl rfl rfl (z7 rfl) (by repeat (first|with_reducible exact At.z|assumption|apply At.s)) rfl ?_)
   | (refine Sep.wloadNz hS rfl rfl rfl (by repeat (first|with_reducible exact At.z|assumption|apply At.s)) (z6 rfl) ?_)
   | (refine Sep.wstore1b hS rfl rfl rfl rfl (z7 rfl) rfl (by repeat (first|with_reducible exact At.z|assumption|apply At.s)) rfl rfl (by repeat (first|with_reducible exact Put.z|apply Put.s)) ?_;clear hS;intro W hS;simp only [Act.eval,Array.getD_eq_getD_getElem?,List.getElem?_toArray,List.getElem?_cons_succ,List.getElem?_cons_zero,Option.getD_some,List.set_cons_zero,List.set_cons_succ] at hS)
   | (refine Sep.wstoreNb hS rfl rfl rfl rfl (z6 rfl) (by simp [z13,Value.oneCell']) (by repeat (first|with_reducible exact At.z|assumption|apply At.s)) (by rfl) (by repeat (first|with_reducible exact Put.z|apply Put.s)) ?_;clear hS;intro W hS)
   | (refine Sep.wloadNr hS rfl rfl rfl (by repeat (first|with_reducible exact At.z|assumption|apply At.s)) (z6 rfl) (by omega) ?_;clear hS;intro z cs hz hS;(first|(have hO:=hS.open_int (by first|with_reducible exact At.z|exact At.s At.z);obtain ⟨rfl,hI⟩:=hO)|(have hO:=hS.open_str (by first|with_reducible exact At.z|exact At.s At.z);obtain ⟨rfl,hI⟩:=hO)|(have hO:=hS.open_op (by first|with_reducible exact At.z|exact At.s At.z);obtain ⟨rfl,hI,hJ⟩:=hO)|(have hO:=hS.open_point (by first|with_reducible exact At.z|exact At.s At.z);obtain ⟨rfl,hI,hJ⟩:=hO)|(have hO:=hS.open_in (by first|with_reducible exact At.z|exact At.s At.z);clear hS;obtain ⟨A',n',c',rfl,hI,hJ,hS⟩:=hO)|(have hO:=hS.open_out (by first|with_reducible exact At.z|exact At.s At.z);clear hS;obtain ⟨A',n',c',rfl,hI,hS⟩:=hO)|(have hO:=hS.open_tx (by first|with_reducible exact At.z|exact At.s At.z);clear hS;obtain ⟨A',n',c',A2',n2',c2',rfl,hI,hS⟩:=hO)|(have hO:=hS.open_book (by first|with_reducible exact At.z|exact At.s At.z);clear hS;obtain ⟨A',n',c',rfl,hS⟩:=hO)|(have hO:=hS.open_undo (by first|with_reducible exact At.z|exact At.s At.z);clear hS;obtain ⟨A',n',c',rfl,hS⟩:=hO)|(have hO:=hS.open_coin (by first|with_reducible exact At.z|exact At.s At.z);clear hS;obtain ⟨A',n',c',rfl,hI,hJ,hK,hL,hS⟩:=hO)|(have hO:=hS.open_block (by first|with_reducible exact At.z|exact At.s At.z);clear hS;obtain ⟨A',n',c',rfl,hI,hJ,hK,hL,hS⟩:=hO)|(have hO:=hS.open_tree (by first|with_reducible exact At.z|exact At.s At.z);clear hS;obtain ⟨A',n',c',A2',n2',c2',rfl,hS⟩:=hO)|(have hO:=hS.open_node (by first|with_reducible exact At.z|exact At.s At.z);clear hS;obtain ⟨A',n',c',A2',n2',c2',A3',n3',c3',rfl,hI,hS⟩:=hO)))
   | ((first|refine Sep.windexN hS rfl rfl rfl rfl (by repeat (first|with_reducible exact At.z|assumption|apply At.s)) (by first|exact z5s|exact z2q|exact z47|exact z4u|exact z5t|exact z2j|exact z2k|exact z1o|exact z3o|exact z1f|exact z0y|exact z3x|exact z4v) (by omega) ?_|refine Sep.windex hS rfl rfl rfl rfl (by repeat (first|with_reducible exact At.z|assumption|apply At.s)) (by first|exact z5s|exact z2q|exact z47|exact z4u|exact z5t|exact z2j|exact z2k|exact z1o|exact z3o|exact z1f|exact z0y|exact z3x|exact z4v) (by omega) (by omega) ?_);clear hS;intro b q z cs hz hS;(first|(have hO:=hS.open_int (At.s At.z);obtain ⟨rfl,hI⟩:=hO)|(have hO:=hS.open_str (At.s At.z);obtain ⟨rfl,hI⟩:=hO)|(have hO:=hS.open_op (At.s At.z);obtain ⟨rfl,hI,hJ⟩:=hO)|(have hO:=hS.open_point (At.s At.z);obtain ⟨rfl,hI,hJ⟩:=hO)|(have hO:=hS.open_in (At.s At.z);clear hS;obtain ⟨A',n',c',rfl,hI,hJ,hS⟩:=hO)|(have hO:=hS.open_out (At.s At.z);clear hS;obtain ⟨A',n',c',rfl,hI,hS⟩:=hO)|(have hO:=hS.open_tx (At.s At.z);clear hS;obtain ⟨A',n',c',A2',n2',c2',rfl,hI,hS⟩:=hO)|(have hO:=hS.open_book (At.s At.z);clear hS;obtain ⟨A',n',c',rfl,hS⟩:=hO)|(have hO:=hS.open_undo (At.s At.z);clear hS;obtain ⟨A',n',c',rfl,hS⟩:=hO)|(have hO:=hS.open_coin (At.s At.z);clear hS;obtain ⟨A',n',c',rfl,hI,hJ,hK,hL,hS⟩:=hO)|(have hO:=hS.open_block (At.s At.z);clear hS;obtain ⟨A',n',c',rfl,hI,hJ,hK,hL,hS⟩:=hO)|(have hO:=hS.open_tree (At.s At.z);clear hS;obtain ⟨A',n',c',A2',n2',c2',rfl,hS⟩:=hO)|(have hO:=hS.open_node (At.s At.z);clear hS;obtain ⟨A',n',c',A2',n2',c2',A3',n3',c3',rfl,hI,hS⟩:=hO)))));(refine ⟨fun _=>hS.sub (by repeat (first|with_reducible exact Sub.refl|with_reducible exact Sub.nil|refine Sub.take (by repeat (first|with_reducible exact Del.z|apply Del.s)) ?_|apply Sub.skip)),?_⟩;try simp only [Act.put,List.setIfInBounds_toArray,List.set_cons_zero,List.set_cons_succ]))
   (refine z1d 11 (by kernel_rfl) rfl ?_;go_wp2_with ((first
   | (refine Sep.wbox hS rfl rfl rfl ?_;clear hS;intro g W hS)
   | (refine Sep.walloc hS rfl rfl (by first|exact z2p|exact z1i|exact z4r|exact z33|exact z4g|exact z26|exact z27|exact z28|exact z15|exact z1s|exact z29|exact z0t|exact z3g|exact z0f|exact z3h|exact z1j|exact z2a|exact z3i) ?_;clear hS;intro g W hS)
   | (refine Sep.wload1b hS rfl rfl rfl (z7 rfl) (by repeat (first|with_reducible exact At.z|assumption|apply At.s)) rfl ?_)
   | (refine Sep.wloadNb hS rfl rfl rfl (by repeat (first|with_reducible exact At.z|assumption|apply At.s)) (z6 rfl) ?_)
   | (refine Sep.wload1z hS rfl rfl rfl (z7 rfl) (by repeat (first|with_reducible exact At.z|assumption|apply At.s)) rfl ?_)
   | (refine Sep.wload1c hS rfl rfl rfl (z7 rfl) (by repeat (first|with_reducible exact At.z|assumption|apply At.s)) rfl ?_)
   | (refine Sep.wloadNz hS rfl rfl rfl (by repeat (first|with_reducible exact At.z|assumption|apply At.s)) (z6 rfl) ?_)
   | (refine Sep.wstore1b hS rfl rfl rfl rfl (z7 rfl) rfl (by repeat (first|with_reducible exact At.z|assumption|apply At.s)) rfl rfl (by repeat (first|with_reducible exact Put.z|apply Put.s)) ?_;clear hS;intro W hS;simp only [Act.eval,Array.getD_eq_getD_getElem?,List.getElem?_toArray,List.getElem?_cons_succ,List.getElem?_cons_zero,Option.getD_some,List.set_cons_zero,List.set_cons_succ] at hS)
   | (refine Sep.wstoreNb hS rfl rfl rfl rfl (z6 rfl) (by simp [z13,Value.oneCell']) (by repeat (first|with_reducible exact At.z|assumption|apply At.s)) (by rfl) (by repeat (first|with_reducible exact Put.z|apply Put.s)) ?_;clear hS;intro W hS)
   | (refine Sep.wloadNr hS rfl rfl rfl (by repeat (first|with_reducible exact At.z|assumption|apply At.s)) (z6 rfl) (by omega) ?_;clear hS;intro z cs hz hS;(first|(have hO:=hS.open_int (by first|with_reducible exact At.z|exact At.s At.z);obtain ⟨rfl,hI⟩:=hO)|(have hO:=hS.open_str (by first|with_reducible exact At.z|exact At.s At.z);obtain ⟨rfl,hI⟩:=hO)|(have hO:=hS.open_op (by first|with_reducible exact At.z|exact At.s At.z);obtain ⟨rfl,hI,hJ⟩:=hO)|(have hO:=hS.open_point (by first|with_reducible exact At.z|exact At.s At.z);obtain ⟨rfl,hI,hJ⟩:=hO)|(have hO:=hS.open_in (by first|with_reducible exact At.z|exact At.s At.z);clear hS;obtain ⟨A',n',c',rfl,hI,hJ,hS⟩:=hO)|(have hO:=hS.open_out (by first|with_reducible exact At.z|exact At.s At.z);clear hS;obtain ⟨A',n',c',rfl,hI,hS⟩:=hO)|(have hO:=hS.open_tx (by first|with_reducible exact At.z|exact At.s At.z);clear hS;obtain ⟨A',n',c',A2',n2',c2',rfl,hI,hS⟩:=hO)|(have hO:=hS.open_book (by first|with_reducible exact At.z|exact At.s At.z);clear hS;obtain ⟨A',n',c',rfl,hS⟩:=hO)|(have hO:=hS.open_undo (by first|with_reducible exact At.z|exact At.s At.z);clear hS;obtain ⟨A',n',c',rfl,hS⟩:=hO)|(have hO:=hS.open_coin (by first|with_reducible exact At.z|exact At.s At.z);clear hS;obtain ⟨A',n',c',rfl,hI,hJ,hK,hL,hS⟩:=hO)|(have hO:=hS.open_block (by first|with_reducible exact At.z|exact At.s At.z);clear hS;obtain ⟨A',n',c',rfl,hI,hJ,hK,hL,hS⟩:=hO)|(have hO:=hS.open_tree (by first|with_reducible exact At.z|exact At.s At.z);clear hS;obtain ⟨A',n',c',A2',n2',c2',rfl,hS⟩:=hO)|(have hO:=hS.open_node (by first|with_reducible exact At.z|exact At.s At.z);clear hS;obtain ⟨A',n',c',A2',n2',c2',A3',n3',c3',rfl,hI,hS⟩:=hO)))
   | ((first|refine Sep.windexN hS rfl rfl rfl rfl (by repeat (first|with_reducible exact At.z|assumption|apply At.s)) (by first|exact z5s|exact z2q|exact z47|exact z4u|exact z5t|exact z2j|exact z2k|exact z1o|exact z3o|exact z1f|exact z0y|exact z3x|exact z4v) (by omega) ?_|refine Sep.windex hS rfl rfl rfl rfl (by repeat (first|with_reducible exact At.z|assumption|apply At.s)) (by first|exact z5s|exact z2q|exact z47|exact z4u|exact z5t|exact z2j|exact z2k|exact z1o|exact z3o|exact z1f|exact z0y|exact z3x|exact z4v) (by omega) (by omega) ?_);clear hS;intro b q z cs hz hS;(first|(have hO:=hS.open_int (At.s At.z);obtain ⟨rfl,hI⟩:=hO)|(have hO:=hS.open_str (At.s At.z);obtain ⟨rfl,hI⟩:=hO)|(have hO:=hS.open_op (At.s At.z);obtain ⟨rfl,hI,hJ⟩:=hO)|(have hO:=hS.open_point (At.s At.z);obtain ⟨rfl,hI,hJ⟩:=hO)|(have hO:=hS.open_in (At.s At.z);clear hS;obtain ⟨A',n',c',rfl,hI,hJ,hS⟩:=hO)|(have hO:=hS.open_out (At.s At.z);clear hS;obtain ⟨A',n',c',rfl,hI,hS⟩:=hO)|(have hO:=hS.open_tx (At.s At.z);clear hS;obtain ⟨A',n',c',A2',n2',c2',rfl,hI,hS⟩:=hO)|(have hO:=hS.open_book (At.s At.z);clear hS;obtain ⟨A',n',c',rfl,hS⟩:=hO)|(have hO:=hS.open_undo (At.s At.z);clear hS;obtain ⟨A',n',c',rfl,hS⟩:=hO)|(have hO:=hS.open_coin (At.s At.z);clear hS;obtain ⟨A',n',c',rfl,hI,hJ,hK,hL,hS⟩:=hO)|(have hO:=hS.open_block (At.s At.z);clear hS;obtain ⟨A',n',c',rfl,hI,hJ,hK,hL,hS⟩:=hO)|(have hO:=hS.open_tree (At.s At.z);clear hS;obtain ⟨A',n',c',A2',n2',c2',rfl,hS⟩:=hO)|(have hO:=hS.open_node (At.s At.z);clear hS;obtain ⟨A',n',c',A2',n2',c2',A3',n3',c3',rfl,hI,hS⟩:=hO)))));(refine ⟨fun _=>hS.sub (by repeat (first|with_reducible exact Sub.refl|with_reducible exact Sub.nil|refine Sub.take (by repeat (first|with_reducible exact Del.z|apply Del.s)) ?_|apply Sub.skip)),?_⟩;try simp only [Act.put,List.setIfInBounds_toArray,List.set_cons_zero,List.set_cons_succ]))
   refine z2z (by kernel_rfl) ?_
   go_wp2_with ((first|(refine Sep.wload1b hS (by rfl) rfl rfl (z7 rfl) (by repeat (first|with_reducible exact At.z|assumption|apply At.s)) rfl ?_)|(refine Sep.wloadNb hS (by rfl) rfl rfl (by repeat (first|with_reducible exact At.z|assumption|apply At.s)) (z6 rfl) ?_)|(refine Sep.wload1z hS (by rfl) rfl rfl (z7 rfl) (by repeat (first|with_reducible exact At.z|assumption|apply At.s)) rfl ?_)|(refine Sep.wload1c hS (by rfl) rfl rfl (z7 rfl) (by repeat (first|with_reducible exact At.z|assumption|apply At.s)) rfl ?_)|(refine Sep.wloadNz hS (by rfl) rfl rfl (by repeat (first|with_reducible exact At.z|assumption|apply At.s)) (z6 rfl) ?_)|(refine Sep.walloc hS (by rfl) rfl (by first|exact z2p|exact z1i|exact z4r|exact z33|exact z4g|exact z26|exact z27|exact z28|exact z15|exact z1s|exact z29|exact z0t|exact z3g|exact z0f|exact z3h|exact z1j|exact z2a|exact z3i) ?_;clear hS;intro g W hS)|(refine Sep.wbox hS (by rfl) rfl rfl ?_;clear hS;intro g W hS)|(refine Sep.wstoreNb hS (by rfl) rfl rfl rfl (z6 rfl) (by simp [z13,Value.oneCell']) (by repeat (first|with_reducible exact At.z|assumption|apply At.s)) (by rfl) (by repeat (first|with_reducible exact Put.z|apply Put.s)) ?_;clear hS;intro W hS)))
   go_roundw
   case measure=>simp [intOf];omega
   case rel=>exact ⟨k+1,by omega,by go_num,z09f (by rw [z3q HZ.out,zve];simp only [z5g];rw [HJ.out,HBJ.out];omega),hS.sub (by repeat (first|with_reducible exact Sub.refl|with_reducible exact Sub.nil|refine Sub.take (by repeat (first|with_reducible exact Del.z|apply Del.s)) ?_|apply Sub.skip))⟩
  ·obtain rfl:k=l.length:=by omega
   rw [List.take_length] at *
   go_wp2_with ((first|(refine Sep.wload1b hS (by rfl) rfl rfl (z7 rfl) (by repeat (first|with_reducible exact At.z|assumption|apply At.s)) rfl ?_)|(refine Sep.wloadNb hS (by rfl) rfl rfl (by repeat (first|with_reducible exact At.z|assumption|apply At.s)) (z6 rfl) ?_)|(refine Sep.wload1z hS (by rfl) rfl rfl (z7 rfl) (by repeat (first|with_reducible exact At.z|assumption|apply At.s)) rfl ?_)|(refine Sep.wload1c hS (by rfl) rfl rfl (z7 rfl) (by repeat (first|with_reducible exact At.z|assumption|apply At.s)) rfl ?_)|(refine Sep.wloadNz hS (by rfl) rfl rfl (by repeat (first|with_reducible exact At.z|assumption|apply At.s)) (z6 rfl) ?_)|(refine Sep.walloc hS (by rfl) rfl (by first|exact z2p|exact z1i|exact z4r|exact z33|exact z4g|exact z26|exact z27|exact z28|exact z15|exact z1s|exact z29|exact z0t|exact z3g|exact z0f|exact z3h|exact z1j|exact z2a|exact z3i) ?_;clear hS;intro g W hS)|(refine Sep.wbox hS (by rfl) rfl rfl ?_;clear hS;intro g W hS)|(refine Sep.wstoreNb hS (by rfl) rfl rfl rfl (z6 rfl) (by simp [z13,Value.oneCell']) (by repeat (first|with_reducible exact At.z|assumption|apply At.s)) (by rfl) (by repeat (first|with_reducible exact Put.z|apply Put.s)) ?_;clear hS;intro W hS)))
   go_ret
   exact ⟨rfl,hS.sub (by repeat (first|with_reducible exact Sub.refl|with_reducible exact Sub.nil|refine Sub.take (by repeat (first|with_reducible exact Del.z|apply Del.s)) ?_|apply Sub.skip))⟩
def z58 (ns:List Int) (bs:List Block) (p:Int × Int) (n:Int):Int × Int:=if p.2<z5g ns bs (z12 ns bs n)∨(z5g ns bs (z12 ns bs n)=p.2∧n<p.1) then (n,z5g ns bs (z12 ns bs n)) else p
def z02j (ns:List Int) (bs:List Block):Int:=(ns.foldl (z58 ns bs) (0,0)).1
def z35 (t:Tree):Int × Int:=if z01 t≠0 then (0,z01 t) else (z02j t.names t.blocks,0)
theorem z08f {ns:List Int} {bs:List Block} (ok:TreeOK ns bs) {m:Int} (hm:m=0∨0≤idx ns m):∀ v ∈ z12 ns bs m,0≤idx ns v:=by
 intro v hv
 obtain ⟨k,hk⟩:=List.getElem?_of_mem hv
 exact (z02i ok _ (Nat.le_refl _) hm hk).2
theorem zd4 {ns:List Int} {bs:List Block} (ok:TreeOK ns bs) {m:Int} (hm:m=0∨0≤idx ns m):(z12 ns bs m).length≤24:=by
 have h1:∀ r,∀ m:Int,z5q ns m≤r→(m=0∨0≤idx ns m)→(z12 ns bs m).length≤z5q ns m:=by
  intro r
  induction r with
  | zero =>
   intro m hr hm
   rcases hm with h|h
   ·rw [h,z3j];simp
   ·have:=(z50 ok h).2.2;omega
  | succ r ih =>
   intro m hr hm
   rcases hm with h|h
   ·rw [h,z3j];simp
   ·obtain ⟨e,hp,hl⟩:=z50 ok h
    have:=ih _ (by omega) hp
    rw [e];simp;omega
 have:=h1 _ m (Nat.le_refl _) hm
 have:=z00p ok hm
 have:=ok.le
 omega
theorem z0dc (t:Tree) (m:Int) (A1:Option Addr) (n1 c1:Nat) (A2:Option Addr) (n2 c2:Nat) {w0 W:World} {F0:Nat→Prop} {Γ:List Res} (hS:Sep w0 F0 Γ W) (h1:At Γ (rds t.names A1 n1 c1 shInt)) (h2:At Γ (rds t.blocks A2 n2 c2 shBlock)) (ok:TreeOK t.names t.blocks) (hm:m=0∨0≤idx t.names m) :
  Calls Tryz.prog 140 #[.agg #[.slice A1 n1 c1,.slice A2 n2 c2],.int .i64 m] W (RL w0 F0 Γ shInt (z12 t.names t.blocks m)):=by
 obtain ⟨rfl,_,_⟩:=hS.len h1
 obtain ⟨rfl,_,_⟩:=hS.len h2
 rw [← ok.len] at *
 refine (zj7 t.names t.blocks m _ _ _ _ _ W _ (hS.ltsRds h1) (hS.ltsRds h2) (fun b hb=>hb) ok hm).mono ?_
 rintro e W' ⟨A,n,c,rfl,hr,hb⟩
 exact ⟨A,n,c,rfl,hS.addMid hb hr⟩
theorem z0dd (t:Tree) (cs:List Value) (m:Int) {w0 W:World} {F0:Nat→Prop} {Γ:List Res} (hS:Sep w0 F0 Γ W) (ht:At Γ (rep t cs shTree)) :
  Calls Tryz.prog 77 #[.agg cs.toArray,.int .i64 m] W (RLE w0 F0 Γ shInt (z3v t m).1 (z3v t m).2):=by
 refine (z08d t cs m W _ (hS.ltsRep ht) (fun b hb=>hb)).mono ?_
 rintro e W' ⟨A,n,c,rfl,hr,hb⟩
 exact ⟨A,n,c,rfl,hS.addMid hb hr⟩
set_option maxHeartbeats 1000000 in
theorem z0de (t:Tree) (cs:List Value) {w0 W:World} {F0:Nat→Prop} {Γ:List Res} (hS:Sep w0 F0 Γ W) (ht:At Γ (rep t cs shTree)) :
  Calls Tryz.prog 73 #[.agg cs.toArray] W (RV w0 F0 Γ (.tuple #[.int .i64 (z35 t).1,.int .i64 (z35 t).2])):=by
 (have hO:=hS.open_tree (by repeat (first|exact ht|apply At.s));clear hS;obtain ⟨A,n,c,A2,n2,c2,rfl,hS⟩:=hO)
 obtain ⟨rfl,_,_⟩:=hS.len (xs:=t.names) (by repeat (first|with_reducible exact At.z|assumption|apply At.s))
 go_enter Tryz.func73,Tryz.ntmps73
 (go_wp2_with (first|(refine Sep.wbox hS (by rfl) rfl rfl ?_;clear hS;intro gt W hS;refine Stop.go ?_)|(refine Sep.walloc hS (by rfl) rfl (by first|exact z2p|exact z1i|exact z4r|exact z33|exact z4g|exact z26|exact z27|exact z28|exact z15|exact z1s|exact z29|exact z0t|exact z3g|exact z0f|exact z3h|exact z1j|exact z2a|exact z3i) ?_;clear hS;intro gt W hS;refine Stop.go ?_)|(first|(refine Sep.wload1b hS (by rfl) rfl rfl (z7 rfl) (by repeat (first|with_reducible exact At.z|assumption|apply At.s)) rfl ?_)|(refine Sep.wloadNb hS (by rfl) rfl rfl (by repeat (first|with_reducible exact At.z|assumption|apply At.s)) (z6 rfl) ?_)|(refine Sep.wload1z hS (by rfl) rfl rfl (z7 rfl) (by repeat (first|with_reducible exact At.z|assumption|apply At.s)) rfl ?_)|(refine Sep.wload1c hS (by rfl) rfl rfl (z7 rfl) (by repeat (first|with_reducible exact At.z|assumption|apply At.s)) rfl ?_)|(refine Sep.wloadNz hS (by rfl) rfl rfl (by repeat (first|with_reducible exact At.z|assumption|apply At.s)) (z6 rfl) ?_)|(refine Sep.walloc hS (by rfl) rfl (by first|exact z2p|exact z1i|exact z4r|exact z33|exact z4g|exact z26|exact z27|exact z28|exact z15|exact z1s|exact z29|exact z0t|exact z3g|exact z0f|exact z3h|exact z1j|exact z2a|exact z3i) ?_;clear hS;intro g W hS)|(refine Sep.wbox hS (by rfl) rfl rfl ?_;clear hS;intro g W hS)|(refine Sep.wstoreNb hS (by rfl) rfl rfl rfl (z6 rfl) (by simp [z13,Value.oneCell']) (by repeat (first|with_reducible exact At.z|assumption|apply At.s)) (by rfl) (by repeat (first|with_reducible exact Put.z|apply Put.s)) ?_;clear hS;intro W hS)));refine Stop.mk ?_)
 go_wp2_with ((first|(refine Sep.wload1b hS (by rfl) rfl rfl (z7 rfl) (by repeat (first|with_reducible exact At.z|assumption|apply At.s)) rfl ?_)|(refine Sep.wloadNb hS (by rfl) rfl rfl (by repeat (first|with_reducible exact At.z|assumption|apply At.s)) (z6 rfl) ?_)|(refine Sep.wload1z hS (by rfl) rfl rfl (z7 rfl) (by repeat (first|with_reducible exact At.z|assumption|apply At.s)) rfl ?_)|(refine Sep.wload1c hS (by rfl) rfl rfl (z7 rfl) (by repeat (first|with_reducible exact At.z|assumption|apply At.s)) rfl ?_)|(refine Sep.wloadNz hS (by rfl) rfl rfl (by repeat (first|with_reducible exact At.z|assumption|apply At.s)) (z6 rfl) ?_)|(refine Sep.walloc hS (by rfl) rfl (by first|exact z2p|exact z1i|exact z4r|exact z33|exact z4g|exact z26|exact z27|exact z28|exact z15|exact z1s|exact z29|exact z0t|exact z3g|exact z0f|exact z3h|exact z1j|exact z2a|exact z3i) ?_;clear hS;intro g W hS)|(refine Sep.wbox hS (by rfl) rfl rfl ?_;clear hS;intro g W hS)|(refine Sep.wstoreNb hS (by rfl) rfl rfl rfl (z6 rfl) (by simp [z13,Value.oneCell']) (by repeat (first|with_reducible exact At.z|assumption|apply At.s)) (by rfl) (by repeat (first|with_reducible exact Put.z|apply Put.s)) ?_;clear hS;intro W hS)))
 refine (hS.old (z8c t [_,_] _ _ (hS.ltsRep (by repeat (first|with_reducible exact At.z|assumption|apply At.s))) (fun b hb=>hb))).mono ?_;clear hS;rintro e W ⟨rfl,hS⟩
 by_cases h0:z01 t=0
 ·have OK:=Lib.hid ((z0x t.names t.blocks).1 h0)
  have E:=Lib.hid (show z35 t=(z02j t.names t.blocks,0) by unfold z35;rw [if_neg (by simp [h0])])
  have Z:=Lib.hid h0
  rw [h0]
  clear h0
  go_wp2_with ((first|(refine Sep.wload1b hS (by rfl) rfl rfl (z7 rfl) (by repeat (first|with_reducible exact At.z|assumption|apply At.s)) rfl ?_)|(refine Sep.wloadNb hS (by rfl) rfl rfl (by repeat (first|with_reducible exact At.z|assumption|apply At.s)) (z6 rfl) ?_)|(refine Sep.wload1z hS (by rfl) rfl rfl (z7 rfl) (by repeat (first|with_reducible exact At.z|assumption|apply At.s)) rfl ?_)|(refine Sep.wload1c hS (by rfl) rfl rfl (z7 rfl) (by repeat (first|with_reducible exact At.z|assumption|apply At.s)) rfl ?_)|(refine Sep.wloadNz hS (by rfl) rfl rfl (by repeat (first|with_reducible exact At.z|assumption|apply At.s)) (z6 rfl) ?_)|(refine Sep.walloc hS (by rfl) rfl (by first|exact z2p|exact z1i|exact z4r|exact z33|exact z4g|exact z26|exact z27|exact z28|exact z15|exact z1s|exact z29|exact z0t|exact z3g|exact z0f|exact z3h|exact z1j|exact z2a|exact z3i) ?_;clear hS;intro g W hS)|(refine Sep.wbox hS (by rfl) rfl rfl ?_;clear hS;intro g W hS)|(refine Sep.wstoreNb hS (by rfl) rfl rfl rfl (z6 rfl) (by simp [z13,Value.oneCell']) (by repeat (first|with_reducible exact At.z|assumption|apply At.s)) (by rfl) (by repeat (first|with_reducible exact Put.z|apply Put.s)) ?_;clear hS;intro W hS)))
  go_loopw [5,6,8,9,18] (fun b m _ _ i wr=>∃ (k:Nat) (p:Int × Int),k≤t.names.length∧i = .int .i64 k∧b = .int .i64 p.1∧m = .int .i64 p.2∧Hid (p=(t.names.take k).foldl (z58 t.names t.blocks) (0,0))∧Sep w0 F0 (rds t.names A t.names.length c shInt::rds t.blocks A2 n2 c2 shBlock::box gt [.slice A t.names.length c,.slice A2 n2 c2] 41::Γ) wr) (fun _ _ _ _ i _=>t.names.length - (intOf i).toNat)
  case atStart=>exact ⟨0,(0,0),by omega,rfl,rfl,rfl,Lib.hid rfl,hS.sub (by repeat (first|with_reducible exact Sub.refl|with_reducible exact Sub.nil|refine Sub.take (by repeat (first|with_reducible exact Del.z|apply Del.s)) ?_|apply Sub.skip))⟩
  case round =>
   clear hS
   obtain ⟨k,p,hk,rfl,rfl,rfl,hp,hS⟩:=hrel
   rcases Classical.em (k<t.names.length) with hlt|hlt
   ·go_wp2_with ((first
   | (refine Sep.wbox hS rfl rfl rfl ?_;clear hS;intro g W hS)
   | (refine Sep.walloc hS rfl rfl (by first|exact z2p|exact z1i|exact z4r|exact z33|exact z4g|exact z26|exact z27|exact z28|exact z15|exact z1s|exact z29|exact z0t|exact z3g|exact z0f|exact z3h|exact z1j|exact z2a|exact z3i) ?_;clear hS;intro g W hS)
   | (refine Sep.wload1b hS rfl rfl rfl (z7 rfl) (by repeat (first|with_reducible exact At.z|assumption|apply At.s)) rfl ?_)
   | (refine Sep.wloadNb hS rfl rfl rfl (by repeat (first|with_reducible exact At.z|assumption|apply At.s)) (z6 rfl) ?_)
   | (refine Sep.wload1z hS rfl rfl rfl (z7 rfl) (by repeat (first|with_reducible exact At.z|assumption|apply At.s)) rfl ?_)
   | (refine Sep.wload1c hS rfl rfl rfl (z7 rfl) (by repeat (first|with_reducible exact At.z|assumption|apply At.s)) rfl ?_)
   | (refine Sep.wloadNz hS rfl rfl rfl (by repeat (first|with_reducible exact At.z|assumption|apply At.s)) (z6 rfl) ?_)
   | (refine Sep.wstore1b hS rfl rfl rfl rfl (z7 rfl) rfl (by repeat (first|with_reducible exact At.z|assumption|apply At.s)) rfl rfl (by repeat (first|with_reducible exact Put.z|apply Put.s)) ?_;clear hS;intro W hS;simp only [Act.eval,Array.getD_eq_getD_getElem?,List.getElem?_toArray,List.getElem?_cons_succ,List.getElem?_cons_zero,Option.getD_some,List.set_cons_zero,List.set_cons_succ] at hS)
   | (refine Sep.wstoreNb hS rfl rfl rfl rfl (z6 rfl) (by simp [z13,Value.oneCell']) (by repeat (first|with_reducible exact At.z|assumption|apply At.s)) (by rfl) (by repeat (first|with_reducible exact Put.z|apply Put.s)) ?_;clear hS;intro W hS)
   | (refine Sep.wloadNr hS rfl rfl rfl (by repeat (first|with_reducible exact At.z|assumption|apply At.s)) (z6 rfl) (by omega) ?_;clear hS;intro z cs hz hS;(first|(have hO:=hS.open_int (by first|with_reducible exact At.z|exact At.s At.z);obtain ⟨rfl,hI⟩:=hO)|(have hO:=hS.open_str (by first|with_reducible exact At.z|exact At.s At.z);obtain ⟨rfl,hI⟩:=hO)|(have hO:=hS.open_op (by first|with_reducible exact At.z|exact At.s At.z);obtain ⟨rfl,hI,hJ⟩:=hO)|(have hO:=hS.open_point (by first|with_reducible exact At.z|exact At.s At.z);obtain ⟨rfl,hI,hJ⟩:=hO)|(have hO:=hS.open_in (by first|with_reducible exact At.z|exact At.s At.z);clear hS;obtain ⟨A',n',c',rfl,hI,hJ,hS⟩:=hO)|(have hO:=hS.open_out (by first|with_reducible exact At.z|exact At.s At.z);clear hS;obtain ⟨A',n',c',rfl,hI,hS⟩:=hO)|(have hO:=hS.open_tx (by first|with_reducible exact At.z|exact At.s At.z);clear hS;obtain ⟨A',n',c',A2',n2',c2',rfl,hI,hS⟩:=hO)|(have hO:=hS.open_book (by first|with_reducible exact At.z|exact At.s At.z);clear hS;obtain ⟨A',n',c',rfl,hS⟩:=hO)|(have hO:=hS.open_undo (by first|with_reducible exact At.z|exact At.s At.z);clear hS;obtain ⟨A',n',c',rfl,hS⟩:=hO)|(have hO:=hS.open_coin (by first|with_reducible exact At.z|exact At.s At.z);clear hS;obtain ⟨A',n',c',rfl,hI,hJ,hK,hL,hS⟩:=hO)|(have hO:=hS.open_block (by first|with_reducible exact At.z|exact At.s At.z);clear hS;obtain ⟨A',n',c',rfl,hI,hJ,hK,hL,hS⟩:=hO)|(have hO:=hS.open_tree (by first|with_reducible exact At.z|exact At.s At.z);clear hS;obtain ⟨A',n',c',A2',n2',c2',rfl,hS⟩:=hO)|(have hO:=hS.open_node (by first|with_reducible exact At.z|exact At.s At.z);clear hS;obtain ⟨A',n',c',A2',n2',c2',A3',n3',c3',rfl,hI,hS⟩:=hO)))
   | ((first|refine Sep.windexN hS rfl rfl rfl rfl (by repeat (first|with_reducible exact At.z|assumption|apply At.s)) (by first|exact z5s|exact z2q|exact z47|exact z4u|exact z5t|exact z2j|exact z2k|exact z1o|exact z3o|exact z1f|exact z0y|exact z3x|exact z4v) (by omega) ?_|refine Sep.windex hS rfl rfl rfl rfl (by repeat (first|with_reducible exact At.z|assumption|apply At.s)) (by first|exact z5s|exact z2q|exact z47|exact z4u|exact z5t|exact z2j|exact z2k|exact z1o|exact z3o|exact z1f|exact z0y|exact z3x|exact z4v) (by omega) (by omega) ?_);clear hS;intro b q z cs hz hS;(first|(have hO:=hS.open_int (At.s At.z);obtain ⟨rfl,hI⟩:=hO)|(have hO:=hS.open_str (At.s At.z);obtain ⟨rfl,hI⟩:=hO)|(have hO:=hS.open_op (At.s At.z);obtain ⟨rfl,hI,hJ⟩:=hO)|(have hO:=hS.open_point (At.s At.z);obtain ⟨rfl,hI,hJ⟩:=hO)|(have hO:=hS.open_in (At.s At.z);clear hS;obtain ⟨A',n',c',rfl,hI,hJ,hS⟩:=hO)|(have hO:=hS.open_out (At.s At.z);clear hS;obtain ⟨A',n',c',rfl,hI,hS⟩:=hO)|(have hO:=hS.open_tx (At.s At.z);clear hS;obtain ⟨A',n',c',A2',n2',c2',rfl,hI,hS⟩:=hO)|(have hO:=hS.open_book (At.s At.z);clear hS;obtain ⟨A',n',c',rfl,hS⟩:=hO)|(have hO:=hS.open_undo (At.s At.z);clear hS;obtain ⟨A',n',c',rfl,hS⟩:=hO)|(have hO:=hS.open_coin (At.s At.z);clear hS;obtain ⟨A',n',c',rfl,hI,hJ,hK,hL,hS⟩:=hO)|(have hO:=hS.open_block (At.s At.z);clear hS;obtain ⟨A',n',c',rfl,hI,hJ,hK,hL,hS⟩:=hO)|(have hO:=hS.open_tree (At.s At.z);clear hS;obtain ⟨A',n',c',A2',n2',c2',rfl,hS⟩:=hO)|(have hO:=hS.open_node (At.s At.z);clear hS;obtain ⟨A',n',c',A2',n2',c2',A3',n3',c3',rfl,hI,hS⟩:=hO)))))
    have hm:idx t.names z ≥ 0:=(zj8 _ _).1 (by unfold z4e;simpa using List.mem_of_getElem? hz.out)
    have hin:=Lib.hid (z08f OK.out (.inr hm))
    have hlen:=zd4 OK.out (.inr hm)
    have HM:=Lib.hid hm
    have hfold:(t.names.take (k+1)).foldl (z58 t.names t.blocks) (0,0)=z58 t.names t.blocks p z:=by rw [z3q hz.out,List.foldl_append,hp.out];rfl
    have HF:=Lib.hid hfold
    clear hm hfold
    (refine Sep.regionT hS [] (by kernel_rfl) ?_;clear hS;intro W hS)
    (refine zm 0 rfl rfl (by (first|exact Yl.move rfl|exact Yl.assign rfl|exact Yl.load1b rfl rfl (z7 rfl) (by repeat (first|with_reducible exact At.z|assumption|apply At.s)) rfl|exact Yl.loadNb rfl rfl (by repeat (first|with_reducible exact At.z|assumption|apply At.s)) (z6 rfl)|exact Yl.load1z rfl rfl (z7 rfl) (by repeat (first|with_reducible exact At.z|assumption|apply At.s)) rfl|exact Yl.load1c rfl rfl (z7 rfl) (by repeat (first|with_reducible exact At.z|assumption|apply At.s)) rfl|exact Yl.loadNz rfl rfl (by repeat (first|with_reducible exact At.z|assumption|apply At.s)) (z6 rfl)|(apply Yl.pure;intro W;go_simp;with_reducible rfl))) (hS.sub (by repeat (first|with_reducible exact Sub.refl|with_reducible exact Sub.nil|refine Sub.take (by repeat (first|with_reducible exact Del.z|apply Del.s)) ?_|apply Sub.skip))) (by kernel_rfl) (fun _ _ _ h=>h) ?_;simp only [Act.put,List.setIfInBounds_toArray,List.set_cons_zero,List.set_cons_succ])
    (refine zm 1 rfl rfl (by (first|exact Yl.move rfl|exact Yl.assign rfl|exact Yl.load1b rfl rfl (z7 rfl) (by repeat (first|with_reducible exact At.z|assumption|apply At.s)) rfl|exact Yl.loadNb rfl rfl (by repeat (first|with_reducible exact At.z|assumption|apply At.s)) (z6 rfl)|exact Yl.load1z rfl rfl (z7 rfl) (by repeat (first|with_reducible exact At.z|assumption|apply At.s)) rfl|exact Yl.load1c rfl rfl (z7 rfl) (by repeat (first|with_reducible exact At.z|assumption|apply At.s)) rfl|exact Yl.loadNz rfl rfl (by repeat (first|with_reducible exact At.z|assumption|apply At.s)) (z6 rfl)|(apply Yl.pure;intro W;go_simp;with_reducible rfl))) (hS.sub (by repeat (first|with_reducible exact Sub.refl|with_reducible exact Sub.nil|refine Sub.take (by repeat (first|with_reducible exact Del.z|apply Del.s)) ?_|apply Sub.skip))) (by kernel_rfl) (fun _ _ _ h=>h) ?_;simp only [Act.put,List.setIfInBounds_toArray,List.set_cons_zero,List.set_cons_succ])
    (refine zm 2 rfl rfl (by (first|exact Yl.move rfl|exact Yl.assign rfl|exact Yl.load1b rfl rfl (z7 rfl) (by repeat (first|with_reducible exact At.z|assumption|apply At.s)) rfl|exact Yl.loadNb rfl rfl (by repeat (first|with_reducible exact At.z|assumption|apply At.s)) (z6 rfl)|exact Yl.load1z rfl rfl (z7 rfl) (by repeat (first|with_reducible exact At.z|assumption|apply At.s)) rfl|exact Yl.load1c rfl rfl (z7 rfl) (by repeat (first|with_reducible exact At.z|assumption|apply At.s)) rfl|exact Yl.loadNz rfl rfl (by repeat (first|with_reducible exact At.z|assumption|apply At.s)) (z6 rfl)|(apply Yl.pure;intro W;go_simp;with_reducible rfl))) (hS.sub (by repeat (first|with_reducible exact Sub.refl|with_reducible exact Sub.nil|refine Sub.take (by repeat (first|with_reducible exact Del.z|apply Del.s)) ?_|apply Sub.skip))) (by kernel_rfl) (fun _ _ _ h=>h) ?_;simp only [Act.put,List.setIfInBounds_toArray,List.set_cons_zero,List.set_cons_succ])
    refine z1d 3 (by kernel_rfl) rfl ?_
    go_wp2_with fail
    refine (z0dc t z _ _ _ _ _ _ hS (by repeat (first|with_reducible exact At.z|assumption|apply At.s)) (by repeat (first|with_reducible exact At.z|assumption|apply At.s)) OK.out (.inr HM.out)).mono ?_
    clear hS;rintro e W ⟨A3,n3,c3,rfl,hS⟩
    go_wp2_with fail
    (refine ⟨fun _=>hS.sub (by repeat (first|with_reducible exact Sub.refl|with_reducible exact Sub.nil|refine Sub.take (by repeat (first|with_reducible exact Del.z|apply Del.s)) ?_|apply Sub.skip)),?_⟩;try simp only [Act.put,List.setIfInBounds_toArray,List.set_cons_zero,List.set_cons_succ])
    refine z1d 4 (by kernel_rfl) rfl ?_
    go_wp2_with fail
    refine (z0db t _ _ _ _ _ _ _ A3 n3 c3 hS (by repeat (first|with_reducible exact At.z|assumption|apply At.s)) (by repeat (first|with_reducible exact At.z|assumption|apply At.s)) (by repeat (first|with_reducible exact At.z|assumption|apply At.s)) Z.out hin.out (by omega)).mono ?_
    clear hS;rintro e W ⟨rfl,hS⟩
    go_wp2_with fail
    (refine ⟨fun _=>hS.sub (by repeat (first|with_reducible exact Sub.refl|with_reducible exact Sub.nil|refine Sub.take (by repeat (first|with_reducible exact Del.z|apply Del.s)) ?_|apply Sub.skip)),?_⟩;try simp only [Act.put,List.setIfInBounds_toArray,List.set_cons_zero,List.set_cons_succ])
    (refine z1d 5 (by kernel_rfl) rfl ?_;go_wp2_with ((first
   | (refine Sep.wbox hS rfl rfl rfl ?_;clear hS;intro g W hS)
   | (refine Sep.walloc hS rfl rfl (by first|exact z2p|exact z1i|exact z4r|exact z33|exact z4g|exact z26|exact z27|exact z28|exact z15|exact z1s|exact z29|exact z0t|exact z3g|exact z0f|exact z3h|exact z1j|exact z2a|exact z3i) ?_;clear hS;intro g W hS)
   | (refine Sep.wload1b hS rfl rfl rfl (z7 rfl) (by repeat (first|with_reducible exact At.z|assumption|apply At.s)) rfl ?_)
   | (refine Sep.wloadNb hS rfl rfl rfl (by repeat (first|with_reducible exact At.z|assumption|apply At.s)) (z6 rfl) ?_)
   | (refine Sep.wload1z hS rfl rfl rfl (z7 rfl) (by repeat (first|with_reducible exact At.z|assumption|apply At.s)) rfl ?_)
   | (refine Sep.wload1c hS rfl rfl rfl (z7 rfl) (by repeat (first|with_reducible exact At.z|assumption|apply At.s)) rfl ?_)
   | (refine Sep.wloadNz hS rfl rfl rfl (by repeat (first|with_reducible exact At.z|assumption|apply At.s)) (z6 rfl) ?_)
   | (refine Sep.wstore1b hS rfl rfl rfl rfl (z7 rfl) rfl (by repeat (first|with_reducible exact At.z|assumption|apply At.s)) rfl rfl (by repeat (first|with_reducible exact Put.z|apply Put.s)) ?_;clear hS;intro W hS;simp only [Act.eval,Array.getD_eq_getD_getElem?,List.getElem?_toArray,List.getElem?_cons_succ,List.getElem?_cons_zero,Option.getD_some,List.set_cons_zero,List.set_cons_succ] at hS)
   | (refine Sep.wstoreNb hS rfl rfl rfl rfl (z6 rfl) (by simp [z13,Value.oneCell']) (by repeat (first|with_reducible exact At.z|assumption|apply At.s)) (by rfl) (by repeat (first|with_reducible exact Put.z|apply Put.s)) ?_;clear hS;intro W hS)
   | (refine Sep.wloadNr hS rfl rfl rfl (by repeat (first|with_reducible exact At.z|assumption|apply At.s)) (z6 rfl) (by omega) ?_;clear hS;intro z cs hz hS;(first|(have hO:=hS.open_int (by first|with_reducible exact At.z|exact At.s At.z);obtain ⟨rfl,hI⟩:=hO)|(have hO:=hS.open_str (by first|with_reducible exact At.z|exact At.s At.z);obtain ⟨rfl,hI⟩:=hO)|(have hO:=hS.open_op (by first|with_reducible exact At.z|exact At.s At.z);obtain ⟨rfl,hI,hJ⟩:=hO)|(have hO:=hS.open_point (by first|with_reducible exact At.z|exact At.s At.z);obtain ⟨rfl,hI,hJ⟩:=hO)|(have hO:=hS.open_in (by first|with_reducible exact At.z|exact At.s At.z);clear hS;obtain ⟨A',n',c',rfl,hI,hJ,hS⟩:=hO)|(have hO:=hS.open_out (by first|with_reducible exact At.z|exact At.s At.z);clear hS;obtain ⟨A',n',c',rfl,hI,hS⟩:=hO)|(have hO:=hS.open_tx (by first|with_reducible exact At.z|exact At.s At.z);clear hS;obtain ⟨A',n',c',A2',n2',c2',rfl,hI,hS⟩:=hO)|(have hO:=hS.open_book (by first|with_reducible exact At.z|exact At.s At.z);clear hS;obtain ⟨A',n',c',rfl,hS⟩:=hO)|(have hO:=hS.open_undo (by first|with_reducible exact At.z|exact At.s At.z);clear hS;obtain ⟨A',n',c',rfl,hS⟩:=hO)|(have hO:=hS.open_coin (by first|with_reducible exact At.z|exact At.s At.z);clear hS;obtain ⟨A',n',c',rfl,hI,hJ,hK,hL,hS⟩:=hO)|(have hO:=hS.open_block (by first|with_reducible exact At.z|exact At.s At.z);clear hS;obtain ⟨A',n',c',rfl,hI,hJ,hK,hL,hS⟩:=hO)|(have hO:=hS.open_tree (by first|with_reducible exact At.z|exact At.s At.z);clear hS;obtain ⟨A',n',c',A2',n2',c2',rfl,hS⟩:=hO)|(have hO:=hS.open_node (by first|with_reducible exact At.z|exact At.s At.z);clear hS;obtain ⟨A',n',c',A2',n2',c2',A3',n3',c3',rfl,hI,hS⟩:=hO)))
   | ((first|refine Sep.windexN hS rfl rfl rfl rfl (by repeat (first|with_reducible exact At.z|assumption|apply At.s)) (by first|exact z5s|exact z2q|exact z47|exact z4u|exact z5t|exact z2j|exact z2k|exact z1o|exact z3o|exact z1f|exact z0y|exact z3x|exact z4v) (by omega) ?_|refine Sep.windex hS rfl rfl rfl rfl (by repeat (first|with_reducible exact At.z|assumption|apply At.s)) (by first|exact z5s|exact z2q|exact z47|exact z4u|exact z5t|exact z2j|exact z2k|exact z1o|exact z3o|exact z1f|exact z0y|exact z3x|exact z4v) (by omega) (by omega) ?_);clear hS;intro b q z cs hz hS;(first|(have hO:=hS.open_int (At.s At.z);obtain ⟨rfl,hI⟩:=hO)|(have hO:=hS.open_str (At.s At.z);obtain ⟨rfl,hI⟩:=hO)|(have hO:=hS.open_op (At.s At.z);obtain ⟨rfl,hI,hJ⟩:=hO)|(have hO:=hS.open_point (At.s At.z);obtain ⟨rfl,hI,hJ⟩:=hO)|(have hO:=hS.open_in (At.s At.z);clear hS;obtain ⟨A',n',c',rfl,hI,hJ,hS⟩:=hO)|(have hO:=hS.open_out (At.s At.z);clear hS;obtain ⟨A',n',c',rfl,hI,hS⟩:=hO)|(have hO:=hS.open_tx (At.s At.z);clear hS;obtain ⟨A',n',c',A2',n2',c2',rfl,hI,hS⟩:=hO)|(have hO:=hS.open_book (At.s At.z);clear hS;obtain ⟨A',n',c',rfl,hS⟩:=hO)|(have hO:=hS.open_undo (At.s At.z);clear hS;obtain ⟨A',n',c',rfl,hS⟩:=hO)|(have hO:=hS.open_coin (At.s At.z);clear hS;obtain ⟨A',n',c',rfl,hI,hJ,hK,hL,hS⟩:=hO)|(have hO:=hS.open_block (At.s At.z);clear hS;obtain ⟨A',n',c',rfl,hI,hJ,hK,hL,hS⟩:=hO)|(have hO:=hS.open_tree (At.s At.z);clear hS;obtain ⟨A',n',c',A2',n2',c2',rfl,hS⟩:=hO)|(have hO:=hS.open_node (At.s At.z);clear hS;obtain ⟨A',n',c',A2',n2',c2',A3',n3',c3',rfl,hI,hS⟩:=hO)))));(refine ⟨fun _=>hS.sub (by repeat (first|with_reducible exact Sub.refl|with_reducible exact Sub.nil|refine Sub.take (by repeat (first|with_reducible exact Del.z|apply Del.s)) ?_|apply Sub.skip)),?_⟩;try simp only [Act.put,List.setIfInBounds_toArray,List.set_cons_zero,List.set_cons_succ]))
    refine z2z (by kernel_rfl) ?_
    generalize hwl:z5g t.names t.blocks (z12 t.names t.blocks z)=wl
    have HW:=Lib.hid hwl
    clear hwl
    rcases Classical.em (p.2<wl) with c1|c1
    ·go_wp2_with ((first|(refine Sep.wload1b hS (by rfl) rfl rfl (z7 rfl) (by repeat (first|with_reducible exact At.z|assumption|apply At.s)) rfl ?_)|(refine Sep.wloadNb hS (by rfl) rfl rfl (by repeat (first|with_reducible exact At.z|assumption|apply At.s)) (z6 rfl) ?_)|(refine Sep.wload1z hS (by rfl) rfl rfl (z7 rfl) (by repeat (first|with_reducible exact At.z|assumption|apply At.s)) rfl ?_)|(refine Sep.wload1c hS (by rfl) rfl rfl (z7 rfl) (by repeat (first|with_reducible exact At.z|assumption|apply At.s)) rfl ?_)|(refine Sep.wloadNz hS (by rfl) rfl rfl (by repeat (first|with_reducible exact At.z|assumption|apply At.s)) (z6 rfl) ?_)|(refine Sep.walloc hS (by rfl) rfl (by first|exact z2p|exact z1i|exact z4r|exact z33|exact z4g|exact z26|exact z27|exact z28|exact z15|exact z1s|exact z29|exact z0t|exact z3g|exact z0f|exact z3h|exact z1j|exact z2a|exact z3i) ?_;clear hS;intro g W hS)|(refine Sep.wbox hS (by rfl) rfl rfl ?_;clear hS;intro g W hS)|(refine Sep.wstoreNb hS (by rfl) rfl rfl rfl (z6 rfl) (by simp [z13,Value.oneCell']) (by repeat (first|with_reducible exact At.z|assumption|apply At.s)) (by rfl) (by repeat (first|with_reducible exact Put.z|apply Put.s)) ?_;clear hS;intro W hS)))
     go_roundw;(case measure=>simp [intOf];omega)
     case rel=>exact ⟨k+1,(z,wl),by omega,by go_num,rfl,rfl,Lib.hid (by rw [HF.out];unfold z58;rw [HW.out,if_pos (.inl c1)]),hS.sub (by repeat (first|with_reducible exact Sub.refl|with_reducible exact Sub.nil|refine Sub.take (by repeat (first|with_reducible exact Del.z|apply Del.s)) ?_|apply Sub.skip))⟩
    ·rcases Classical.em (wl=p.2) with c2|c2
     ·subst c2
      rcases Classical.em (z<p.1) with c3|c3
      ·go_wp2_with ((first|(refine Sep.wload1b hS (by rfl) rfl rfl (z7 rfl) (by repeat (first|with_reducible exact At.z|assumption|apply At.s)) rfl ?_)|(refine Sep.wloadNb hS (by rfl) rfl rfl (by repeat (first|with_reducible exact At.z|assumption|apply At.s)) (z6 rfl) ?_)|(refine Sep.wload1z hS (by rfl) rfl rfl (z7 rfl) (by repeat (first|with_reducible exact At.z|assumption|apply At.s)) rfl ?_)|(refine Sep.wload1c hS (by rfl) rfl rfl (z7 rfl) (by repeat (first|with_reducible exact At.z|assumption|apply At.s)) rfl ?_)|(refine Sep.wloadNz hS (by rfl) rfl rfl (by repeat (first|with_reducible exact At.z|assumption|apply At.s)) (z6 rfl) ?_)|(refine Sep.walloc hS (by rfl) rfl (by first|exact z2p|exact z1i|exact z4r|exact z33|exact z4g|exact z26|exact z27|exact z28|exact z15|exact z1s|exact z29|exact z0t|exact z3g|exact z0f|exact z3h|exact z1j|exact z2a|exact z3i) ?_;clear hS;intro g W hS)|(refine Sep.wbox hS (by rfl) rfl rfl ?_;clear hS;intro g W hS)|(refine Sep.wstoreNb hS (by rfl) rfl rfl rfl (z6 rfl) (by simp [z13,Value.oneCell']) (by repeat (first|with_reducible exact At.z|assumption|apply At.s)) (by rfl) (by repeat (first|with_reducible exact Put.z|apply Put.s)) ?_;clear hS;intro W hS)))
       go_roundw;(case measure=>simp [intOf];omega)
       case rel=>exact ⟨k+1,(z,p.2),by omega,by go_num,rfl,rfl,Lib.hid (by rw [HF.out];unfold z58;rw [HW.out,if_pos (.inr ⟨rfl,c3⟩)]),hS.sub (by repeat (first|with_reducible exact Sub.refl|with_reducible exact Sub.nil|refine Sub.take (by repeat (first|with_reducible exact Del.z|apply Del.s)) ?_|apply Sub.skip))⟩
      ·go_wp2_with ((first|(refine Sep.wload1b hS (by rfl) rfl rfl (z7 rfl) (by repeat (first|with_reducible exact At.z|assumption|apply At.s)) rfl ?_)|(refine Sep.wloadNb hS (by rfl) rfl rfl (by repeat (first|with_reducible exact At.z|assumption|apply At.s)) (z6 rfl) ?_)|(refine Sep.wload1z hS (by rfl) rfl rfl (z7 rfl) (by repeat (first|with_reducible exact At.z|assumption|apply At.s)) rfl ?_)|(refine Sep.wload1c hS (by rfl) rfl rfl (z7 rfl) (by repeat (first|with_reducible exact At.z|assumption|apply At.s)) rfl ?_)|(refine Sep.wloadNz hS (by rfl) rfl rfl (by repeat (first|with_reducible exact At.z|assumption|apply At.s)) (z6 rfl) ?_)|(refine Sep.walloc hS (by rfl) rfl (by first|exact z2p|exact z1i|exact z4r|exact z33|exact z4g|exact z26|exact z27|exact z28|exact z15|exact z1s|exact z29|exact z0t|exact z3g|exact z0f|exact z3h|exact z1j|exact z2a|exact z3i) ?_;clear hS;intro g W hS)|(refine Sep.wbox hS (by rfl) rfl rfl ?_;clear hS;intro g W hS)|(refine Sep.wstoreNb hS (by rfl) rfl rfl rfl (z6 rfl) (by simp [z13,Value.oneCell']) (by repeat (first|with_reducible exact At.z|assumption|apply At.s)) (by rfl) (by repeat (first|with_reducible exact Put.z|apply Put.s)) ?_;clear hS;intro W hS)))
       go_roundw;(case measure=>simp [intOf];omega)
       case rel=>exact ⟨k+1,p,by omega,by go_num,rfl,rfl,Lib.hid (by rw [HF.out];unfold z58;rw [HW.out,if_neg (by omega)]),hS.sub (by repeat (first|with_reducible exact Sub.refl|with_reducible exact Sub.nil|refine Sub.take (by repeat (first|with_reducible exact Del.z|apply Del.s)) ?_|apply Sub.skip))⟩
     ·have c3:(wl == p.2)=false:=by simpa using c2
      have C2:=Lib.hid c2
      clear c2
      go_wp2_with ((first|(refine Sep.wload1b hS (by rfl) rfl rfl (z7 rfl) (by repeat (first|with_reducible exact At.z|assumption|apply At.s)) rfl ?_)|(refine Sep.wloadNb hS (by rfl) rfl rfl (by repeat (first|with_reducible exact At.z|assumption|apply At.s)) (z6 rfl) ?_)|(refine Sep.wload1z hS (by rfl) rfl rfl (z7 rfl) (by repeat (first|with_reducible exact At.z|assumption|apply At.s)) rfl ?_)|(refine Sep.wload1c hS (by rfl) rfl rfl (z7 rfl) (by repeat (first|with_reducible exact At.z|assumption|apply At.s)) rfl ?_)|(refine Sep.wloadNz hS (by rfl) rfl rfl (by repeat (first|with_reducible exact At.z|assumption|apply At.s)) (z6 rfl) ?_)|(refine Sep.walloc hS (by rfl) rfl (by first|exact z2p|exact z1i|exact z4r|exact z33|exact z4g|exact z26|exact z27|exact z28|exact z15|exact z1s|exact z29|exact z0t|exact z3g|exact z0f|exact z3h|exact z1j|exact z2a|exact z3i) ?_;clear hS;intro g W hS)|(refine Sep.wbox hS (by rfl) rfl rfl ?_;clear hS;intro g W hS)|(refine Sep.wstoreNb hS (by rfl) rfl rfl rfl (z6 rfl) (by simp [z13,Value.oneCell']) (by repeat (first|with_reducible exact At.z|assumption|apply At.s)) (by rfl) (by repeat (first|with_reducible exact Put.z|apply Put.s)) ?_;clear hS;intro W hS)))
      go_roundw;(case measure=>simp [intOf];omega)
      case rel=>exact ⟨k+1,p,by omega,by go_num,rfl,rfl,Lib.hid (by have:=C2.out;rw [HF.out];unfold z58;rw [HW.out,if_neg (by omega)]),hS.sub (by repeat (first|with_reducible exact Sub.refl|with_reducible exact Sub.nil|refine Sub.take (by repeat (first|with_reducible exact Del.z|apply Del.s)) ?_|apply Sub.skip))⟩
   ·obtain rfl:k=t.names.length:=by omega
    go_wp2_with ((first|(refine Sep.wload1b hS (by rfl) rfl rfl (z7 rfl) (by repeat (first|with_reducible exact At.z|assumption|apply At.s)) rfl ?_)|(refine Sep.wloadNb hS (by rfl) rfl rfl (by repeat (first|with_reducible exact At.z|assumption|apply At.s)) (z6 rfl) ?_)|(refine Sep.wload1z hS (by rfl) rfl rfl (z7 rfl) (by repeat (first|with_reducible exact At.z|assumption|apply At.s)) rfl ?_)|(refine Sep.wload1c hS (by rfl) rfl rfl (z7 rfl) (by repeat (first|with_reducible exact At.z|assumption|apply At.s)) rfl ?_)|(refine Sep.wloadNz hS (by rfl) rfl rfl (by repeat (first|with_reducible exact At.z|assumption|apply At.s)) (z6 rfl) ?_)|(refine Sep.walloc hS (by rfl) rfl (by first|exact z2p|exact z1i|exact z4r|exact z33|exact z4g|exact z26|exact z27|exact z28|exact z15|exact z1s|exact z29|exact z0t|exact z3g|exact z0f|exact z3h|exact z1j|exact z2a|exact z3i) ?_;clear hS;intro g W hS)|(refine Sep.wbox hS (by rfl) rfl rfl ?_;clear hS;intro g W hS)|(refine Sep.wstoreNb hS (by rfl) rfl rfl rfl (z6 rfl) (by simp [z13,Value.oneCell']) (by repeat (first|with_reducible exact At.z|assumption|apply At.s)) (by rfl) (by repeat (first|with_reducible exact Put.z|apply Put.s)) ?_;clear hS;intro W hS)))
    refine bodyPost_ret (z3f rfl (by first|exact Got.tmp rfl|exact Got.boxN hS rfl (by repeat (first|with_reducible exact At.z|assumption|apply At.s)) (z6 rfl)|exact Got.box1 hS rfl (by repeat (first|with_reducible exact At.z|assumption|apply At.s)) (z7 rfl)) (by first|exact Got.tmp rfl|exact Got.boxN hS rfl (by repeat (first|with_reducible exact At.z|assumption|apply At.s)) (z6 rfl)|exact Got.box1 hS rfl (by repeat (first|with_reducible exact At.z|assumption|apply At.s)) (z7 rfl))) rfl ?_
    rw [E.out]
    refine ⟨?_,hS.sub (by repeat (first|with_reducible exact Sub.refl|with_reducible exact Sub.nil|refine Sub.take (by repeat (first|with_reducible exact Del.z|apply Del.s)) ?_|apply Sub.skip))⟩
    have:=hp.out
    rw [List.take_length] at this
    rw [this];rfl
 ·have E:=Lib.hid (show z35 t=(0,z01 t) by unfold z35;rw [if_pos h0])
  have hb:(z01 t != 0)=true:=by simpa using h0
  clear h0
  go_wp2_with ((first|(refine Sep.wload1b hS (by rfl) rfl rfl (z7 rfl) (by repeat (first|with_reducible exact At.z|assumption|apply At.s)) rfl ?_)|(refine Sep.wloadNb hS (by rfl) rfl rfl (by repeat (first|with_reducible exact At.z|assumption|apply At.s)) (z6 rfl) ?_)|(refine Sep.wload1z hS (by rfl) rfl rfl (z7 rfl) (by repeat (first|with_reducible exact At.z|assumption|apply At.s)) rfl ?_)|(refine Sep.wload1c hS (by rfl) rfl rfl (z7 rfl) (by repeat (first|with_reducible exact At.z|assumption|apply At.s)) rfl ?_)|(refine Sep.wloadNz hS (by rfl) rfl rfl (by repeat (first|with_reducible exact At.z|assumption|apply At.s)) (z6 rfl) ?_)|(refine Sep.walloc hS (by rfl) rfl (by first|exact z2p|exact z1i|exact z4r|exact z33|exact z4g|exact z26|exact z27|exact z28|exact z15|exact z1s|exact z29|exact z0t|exact z3g|exact z0f|exact z3h|exact z1j|exact z2a|exact z3i) ?_;clear hS;intro g W hS)|(refine Sep.wbox hS (by rfl) rfl rfl ?_;clear hS;intro g W hS)|(refine Sep.wstoreNb hS (by rfl) rfl rfl rfl (z6 rfl) (by simp [z13,Value.oneCell']) (by repeat (first|with_reducible exact At.z|assumption|apply At.s)) (by rfl) (by repeat (first|with_reducible exact Put.z|apply Put.s)) ?_;clear hS;intro W hS)))
  refine bodyPost_ret (z3f rfl (by first|exact Got.tmp rfl|exact Got.boxN hS rfl (by repeat (first|with_reducible exact At.z|assumption|apply At.s)) (z6 rfl)|exact Got.box1 hS rfl (by repeat (first|with_reducible exact At.z|assumption|apply At.s)) (z7 rfl)) (by first|exact Got.tmp rfl|exact Got.boxN hS rfl (by repeat (first|with_reducible exact At.z|assumption|apply At.s)) (z6 rfl)|exact Got.box1 hS rfl (by repeat (first|with_reducible exact At.z|assumption|apply At.s)) (z7 rfl))) rfl ?_
  rw [E.out]
  exact ⟨rfl,hS.sub (by repeat (first|with_reducible exact Sub.refl|with_reducible exact Sub.nil|refine Sub.take (by repeat (first|with_reducible exact Del.z|apply Del.s)) ?_|apply Sub.skip))⟩
def z6n:Block:=⟨0,0,0,0,[]⟩
theorem Sep.zero_block {w0 W:World} {F0:Nat→Prop} {Γ:List Res} (h:Sep w0 F0 Γ W):Sep w0 F0 (rep z6n [.int .i64 0,.int .i64 0,.int .i64 0,.int .i64 0,.slice none 0 0] shBlock::Γ) W :=
 h.addRep (zrf (x:=z6n) ⟨by decide,by decide⟩ ⟨by decide,by decide⟩ ⟨by decide,by decide⟩ ⟨by decide,by decide⟩ (Rds.nil _ _ _))
def z0v (t:Tree) (m:Int):Int:=if z01 t≠0 then z01 t else if idx t.names m<0 then 5 else 0
def z0w (t:Tree) (m:Int):Block:=if z0v t m=0 then z16 t.blocks (idx t.names m) else z6n
set_option maxHeartbeats 1000000 in
theorem z0b2 (t:Tree) (cs:List Value) (m:Int) {w0 W:World} {F0:Nat→Prop} {Γ:List Res} (hS:Sep w0 F0 Γ W) (ht:At Γ (rep t cs shTree)) :
  Calls Tryz.prog 21 #[.agg cs.toArray,.int .i64 m] W (RSE w0 F0 Γ shBlock (z0w t m) (z0v t m)):=by
 (have hO:=hS.open_tree (by repeat (exact ht));clear hS;obtain ⟨A,n,c,A2,n2,c2,rfl,hS⟩:=hO)
 obtain ⟨rfl,_,_⟩:=hS.len (xs:=t.names) (by repeat (with_reducible exact At.z))
 obtain ⟨rfl,_,_⟩:=hS.len (xs:=t.blocks) (by repeat (first|with_reducible exact At.z|apply At.s))
 have hfail:∀ (x:Int) (W:World),x≠0→z0v t m=x→Sep w0 F0 Γ W→RSE w0 F0 Γ shBlock (z0w t m) (z0v t m) (.returned (.tuple #[.agg #[.int .i64 0,.int .i64 0,.int .i64 0,.int .i64 0,.slice none 0 0],.int .i64 x])) W:=fun x W h0 he hS=>by
  unfold z0w
  rw [he,if_neg h0]
  exact ⟨[_,_,_,_,_],rfl,hS.zero_block⟩
 have HF:=Lib.hid hfail
 clear hfail
 go_enter Tryz.func21,Tryz.ntmps21
 (go_wp2_with ((refine Sep.wbox hS (by rfl) rfl rfl ?_;clear hS;intro gt W hS;refine Stop.go ?_));refine Stop.mk ?_)
 (go_wp2_with ((refine Sep.walloc hS (by rfl) rfl (by exact z15) ?_;clear hS;intro gr W hS;refine Stop.go ?_));refine Stop.mk ?_)
 go_wp2_with (((refine Sep.wloadNb hS (by rfl) rfl rfl (by repeat (first|with_reducible exact At.z|apply At.s)) (z6 rfl) ?_)))
 refine (hS.old (z8c t [_,_] _ _ (hS.ltsRep (by repeat (first|assumption|apply At.s))) (fun b hb=>hb))).mono ?_;clear hS;rintro e W ⟨rfl,hS⟩
 go_wp2_with ((first|(refine Sep.wload1b hS (by rfl) rfl rfl (z7 rfl) (by repeat (first|with_reducible exact At.z|apply At.s)) rfl ?_)|(refine Sep.wstoreNb hS (by rfl) rfl rfl rfl (z6 rfl) (by simp [z13,Value.oneCell']) (by repeat (with_reducible exact At.z)) (by rfl) (by repeat (with_reducible exact Put.z)) ?_;clear hS;intro W hS)))
 any_goals ((refine bodyPost_ret (z3f rfl (by exact Got.boxN hS rfl (by repeat (with_reducible exact At.z)) (z6 rfl)) (by exact Got.tmp rfl)) rfl ?_);exact HF.out _ _ (by (simp_all;done)) (by first|(simp_all [z0v];done)) (hS.sub (by repeat (first|with_reducible exact Sub.refl|apply Sub.skip))))
 have z1:z01 t=0:=by simp_all
 have ok:=Lib.hid ((z0x t.names t.blocks).1 z1)
 refine (hS.oldS (zcw t.names m _ _ _ _ _ (hS.ltsRds (by repeat (first|with_reducible exact At.z|apply At.s))))).mono ?_;clear hS;rintro e W ⟨rfl,hS⟩
 rcases Classical.em (idx t.names m<0) with hi|hi
 ·go_wp2_with (((refine Sep.wstoreNb hS (by rfl) rfl rfl rfl (z6 rfl) (by simp [z13,Value.oneCell']) (by repeat (with_reducible exact At.z)) (by rfl) (by repeat (with_reducible exact Put.z)) ?_;clear hS;intro W hS)))
  any_goals ((refine bodyPost_ret (z3f rfl (by exact Got.boxN hS rfl (by repeat (with_reducible exact At.z)) (z6 rfl)) (by exact Got.tmp rfl)) rfl ?_);exact HF.out _ _ (by decide) (by first|(simp_all [z0v];done)) (hS.sub (by repeat (first|with_reducible exact Sub.refl|apply Sub.skip))))
 ·obtain ⟨j,hj,hjs⟩:=zee (show 0≤idx t.names m by omega)
  have hjl:=(List.getElem?_eq_some_iff.1 hjs).1
  have hjb:j<t.blocks.length:=by have:=ok.out.len;omega
  have ZE:=Lib.hid (show z0v t m=0 by unfold z0v;rw [if_neg (by simp [z1]),if_neg hi])
  have HJ:=Lib.hid hj
  have ZB:=Lib.hid (fun b hb=>za2 (z6m z1 b hb))
  rw [hj]
  clear hj hjs hi HF
  go_wp2_with ((first|(refine Sep.wload1b hS rfl rfl rfl (z7 rfl) (by repeat (first|with_reducible exact At.z|apply At.s)) rfl ?_)|(refine Sep.wloadNz hS rfl rfl rfl (by repeat (first|with_reducible exact At.z|apply At.s)) (z6 rfl) ?_)|((refine Sep.windexN hS rfl rfl rfl rfl (by repeat (first|with_reducible exact At.z|apply At.s)) (by first|exact z47|exact z2k|exact z1o) (by omega) ?_);clear hS;intro b q z cs hz hS;((have hO:=hS.open_block (At.s At.z);clear hS;obtain ⟨A',n',c',rfl,hI,hJ,hK,hL,hS⟩:=hO)))))
  have hb:z0w t m=z:=by unfold z0w;rw [if_pos ZE.out,HJ.out];simp [z16,hz.out]
  have HB:=Lib.hid hb
  clear hb
  refine (zdj z [_,_,_,_,_] hS (by repeat (first|with_reducible exact At.z|apply At.s)) (ZB.out z (List.mem_of_getElem? hz.out))).mono ?_
  clear hS;rintro e W ⟨cs,rfl,hS⟩
  obtain ⟨A5,n5,c5,rfl,-,-,-,-,-⟩:=hS.open_block At.z
  go_wp2_with (((refine Sep.wstoreNb hS (by rfl) rfl rfl rfl (z6 rfl) (by simp [z13,Value.oneCell']) (by repeat (first|with_reducible exact At.z|apply At.s)) (by rfl) (by repeat (first|with_reducible exact Put.z|apply Put.s)) ?_;clear hS;intro W hS)))
  refine bodyPost_ret (z3f rfl (by exact Got.boxN hS rfl (by repeat (first|with_reducible exact At.z|apply At.s)) (z6 rfl)) (by exact Got.tmp rfl)) rfl ?_
  rw [HB.out,ZE.out]
  exact ⟨_,rfl,hS.sub (by repeat (first|with_reducible exact Sub.refl|refine Sub.take (by repeat (first|with_reducible exact Del.z|apply Del.s)) ?_|apply Sub.skip))⟩
end
section
open Go.RowKit
set_option maxRecDepth 100000
end
section
open Go.RowKit
set_option maxRecDepth 100000
end
end Go.Proofs.YtdpbicpeimhopaaGreatDoor
