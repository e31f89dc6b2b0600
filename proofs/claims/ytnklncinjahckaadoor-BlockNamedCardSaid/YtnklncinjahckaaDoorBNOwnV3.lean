/- Own texts, put together by wip/bundle.py: VdS, VdU, VdV. -/
import Derived.Test.YtnklncinjahckaaDoorBNOwnB
import Derived.Test.YtnklncinjahckaaDoorBNOwnV2
set_option linter.unusedVariables false
set_option linter.unusedSimpArgs false
namespace Go.Proofs.YtnklncinjahckaaDoor
section
open Go.RowKit
abbrev I (n : Int) : Dt := .i .i64 n
def z12 (n : Int) : List Dt := [I n]
def ze4 (x : Bool) : List Dt := [.b x]
def z1m (x : List UInt8) : List Dt := [.s x]
def eSl {α : Type} (sz : Nat) (e : α → List Dt) (xs : List α) : List Dt := [.l sz (xs.map e)]
def eOp (x : Op) : List Dt := [I x.kind, I x.n]
def z3c (x : Point) : List Dt := [I x.tx, I x.at_]
def eIn (x : In) : List Dt := [I x.p.tx, I x.p.at_, .l 2 (x.key.map eOp)]
def z2a (x : Out) : List Dt := [I x.coin, .l 2 (x.lock.map eOp)]
def eTx (x : Tx) : List Dt := [I x.height, .l 3 (x.ins.map eIn), .l 2 (x.outs.map z2a)]
def zw (x : Coin) : List Dt := [I x.p.tx, I x.p.at_, I x.o.coin, .l 2 (x.o.lock.map eOp), I x.height, .b x.reward]
def z82 (x : Undo) : List Dt := [.l 6 (x.spent.map zw)]
def z83 (x : Book) : List Dt := [.l 1 (x.texts.map z1m)]
def z4i (x : Block) : List Dt := [I x.parent, I x.height, I x.work, I x.nonce, .l 3 (x.txs.map eTx)]
def ze5 (x : Tree) : List Dt := [.l 1 (x.names.map z12), .l 5 (x.blocks.map z4i)]
structure ShE {α : Type} (S : Sh α) (e : α → List Dt) : Prop where
 len : ∀ x, (e x).length = S.size
 to : ∀ {w : World} {F : Nat → Prop} {x : α} {cs : List Value}, S.rep w F x cs → Reps w F (e x) cs
 of : ∀ {w : World} {F : Nat → Prop} {x : α} {cs : List Value}, Reps w F (e x) cs → S.rep w F x cs
theorem wrap_i64 {n : Int} (h : -9223372036854775808 ≤ n ∧ n ≤ 9223372036854775807) : IntKind.i64.wrap n = n := by
 unfold IntKind.wrap
 simp only [IntKind.bits, IntKind.signed, Bool.true_and, ge_iff_le, decide_eq_true_eq]
 split <;> omega
theorem zjp {n : Int} (h : IntKind.i64.wrap n = n) : -9223372036854775808 ≤ n ∧ n ≤ 9223372036854775807 := by
 unfold IntKind.wrap at h
 simp only [IntKind.bits, IntKind.signed, Bool.true_and, ge_iff_le, decide_eq_true_eq] at h
 split at h <;> omega
theorem z27 : ShE shInt z12 where
 len x := rfl
 to := by rintro w F x cs ⟨rfl, h⟩; exact ⟨.i _ _ (wrap_i64 h), trivial⟩
 of := by
  intro w F x cs h
  match cs, h with
  | [v], h => obtain ⟨rfl, h1⟩ := z1l h.1; exact ⟨rfl, zjp h1⟩
theorem z00d : ShE shBool ze4 where
 len x := rfl
 to := by rintro w F x cs rfl; exact ⟨.b _, trivial⟩
 of := by
  intro w F x cs h
  match cs, h with
  | [v], h => obtain rfl := z4a h.1; rfl
theorem ze6 : ShE shStr z1m where
 len x := rfl
 to := by rintro w F x cs ⟨rfl, h⟩; exact ⟨.s _ h, trivial⟩
 of := by
  intro w F x cs h
  match cs, h with
  | [v], h => obtain ⟨rfl, h1⟩ := zfy h.1; exact ⟨rfl, h1⟩
theorem zam {α : Type} {S : Sh α} {e : α → List Dt} (h : ShE S e) {w : World} {F : Nat → Prop} {xs : List α} {A : Option Addr} {n c : Nat} (hr : Rds S w F xs A n c) : Rep w F (.l S.size (xs.map e)) (.slice A n c) := by
 obtain ⟨h1, h2, h3, h4⟩ := hr
 have hsz : ∀ x ∈ xs.map e, x.length = S.size := by
  intro x hx
  obtain ⟨y, _, rfl⟩ := List.mem_map.1 hx
  exact h.len y
 rcases Nat.eq_zero_or_pos n with h0 | h0
 ·have : xs = [] := List.eq_nil_of_length_eq_zero (by omega)
  subst this
  exact .l _ _ A n c 0 0 (fun _ _ => undef) (by simp [h1.symm]) (by simp) h3 (by simp) (by simp) (by simp) (by simp)
 ·obtain ⟨b, off, rfl, hF, hc⟩ := h4 h0
  have hc' : ∀ i : Nat, ∃ cs : List Value, ∀ hi : i < xs.length, S.rep w F xs[i] cs ∧ ∀ j v, cs[j]? = some v → w.cell? ⟨b, off + i * S.size + j, none⟩ = some v := fun i => by
   by_cases hi : i < xs.length
   ·obtain ⟨cs, g1, g2⟩ := hc i hi
    exact ⟨cs, fun _ => ⟨g1, g2⟩⟩
   ·exact ⟨[], fun h => absurd h hi⟩
  have key : ∀ i j x d, (xs.map e)[i]? = some x → x[j]? = some d → w.cell? ⟨b, off + i * S.size + j, none⟩ = some ((Classical.choose (hc' i)).getD j undef) ∧ Rep w F d ((Classical.choose (hc' i)).getD j undef) := by
   intro i j x d hx hd
   rw [List.getElem?_map, Option.map_eq_some_iff] at hx
   obtain ⟨y, hy, rfl⟩ := hx
   have hi := (List.getElem?_eq_some_iff.1 hy).1
   rw [List.getElem?_eq_getElem hi] at hy
   injection hy with hy
   obtain ⟨g1, g2⟩ := Classical.choose_spec (hc' i) hi
   rw [hy] at g1
   obtain ⟨v, hv, hr⟩ := (h.to g1).get hd
   have e1 : (Classical.choose (hc' i)).getD j undef = v := by rw [List.getD_eq_getElem?_getD, hv]; rfl
   rw [e1]
   exact ⟨g2 j v hv, hr⟩
  exact .l _ _ _ n c b off (fun i j => (Classical.choose (hc' i)).getD j undef) (by simp [h1]) (by simp; omega) h3 hsz (fun _ => ⟨rfl, hF⟩) (fun i j x d hx hd => (key i j x d hx hd).1) (fun i j x d hx hd => (key i j x d hx hd).2)
theorem z4w {α : Type} {S : Sh α} {e : α → List Dt} (h : ShE S e) {w : World} {F : Nat → Prop} {xs : List α} {v : Value} (hr : Rep w F (.l S.size (xs.map e)) v) : ∃ A n c, v = .slice A n c ∧ Rds S w F xs A n c := by
 generalize hd : Dt.l S.size (xs.map e) = d at hr
 cases hr with
 | l sz ys A n c b o vs g0 g1 g2 g3 g4 g5 g6 =>
  injection hd with e1 e2
  subst e1; subst e2
  simp only [List.length_map] at g0 g1
  refine ⟨A, n, c, rfl, g0.symm, by omega, g2, fun h0 => ?_⟩
  obtain ⟨rfl, hF⟩ := g4 (by simp; omega)
  refine ⟨b, o, rfl, hF, fun i hi => ⟨(List.range S.size).map (vs i), h.of ?_, fun j v hv => ?_⟩⟩
  ·refine Reps.of (by simp [h.len]) fun j d u hd hu => ?_
   obtain ⟨hj, rfl⟩ := z1b hu
   exact g6 i j (e xs[i]) d (by simp [hi]) hd
  ·obtain ⟨hj, rfl⟩ := z1b hv
   have hlt : j < (e xs[i]).length := by rw [h.len]; exact hj
   exact g5 i j (e xs[i]) _ (by simp [hi]) (List.getElem?_eq_getElem hlt)
 | _ => cases hd
theorem z5s {α : Type} {S : Sh α} {e : α → List Dt} (h : ShE S e) {sz : Nat} (hs : S.size = sz) : ShE (z0j S) (eSl sz e) where
 len x := rfl
 to := by rintro w F x cs ⟨A, n, c, rfl, hr⟩; subst hs; exact ⟨zam h hr, trivial⟩
 of := by
  intro w F x cs hr
  subst hs
  match cs, hr with
  | [v], hr => obtain ⟨A, n, c, rfl, h1⟩ := z4w h hr.1; exact ⟨A, n, c, rfl, h1⟩
theorem Reps.split {w : World} {F : Nat → Prop} : ∀ {d1 d2 : List Dt} {cs : List Value}, Reps w F (d1 ++ d2) cs → ∃ c1 c2, cs = c1 ++ c2 ∧ Reps w F d1 c1 ∧ Reps w F d2 c2
 | [], d2, cs, h => ⟨[], cs, rfl, trivial, h⟩
 | d :: d1, d2, [], h => absurd h id
 | d :: d1, d2, c :: cs, h => by
  obtain ⟨c1, c2, rfl, h1, h2⟩ := Reps.split h.2
  exact ⟨c :: c1, c2, rfl, ⟨h.1, h1⟩, h2⟩
theorem z4j {α β τ : Type} {S0 : Sh α} {S1 : Sh β} {f : α → β → τ} {e0 : α → List Dt} {e1 : β → List Dt} {e : τ → List Dt} (h0 : ShE S0 e0) (h1 : ShE S1 e1) (hf : ∀ x, ∃ a b, x = f a b) (he : ∀ a b, e (f a b) = e0 a ++ e1 b) : ShE (z2q S0 S1 f) e where
 len x := by obtain ⟨a, b, rfl⟩ := hf x; rw [he, List.length_append, h0.len, h1.len]; rfl
 to := by
  rintro w F x cs ⟨a, b, ca, cb, rfl, rfl, ha, hb⟩
  rw [he]
  exact (h0.to ha).append (h1.to hb)
 of := by
  intro w F x cs hr
  obtain ⟨a, b, rfl⟩ := hf x
  rw [he] at hr
  obtain ⟨c1, c2, rfl, g1, g2⟩ := hr.split
  exact ⟨a, b, c1, c2, rfl, rfl, h0.of g1, h1.of g2⟩
theorem z04q {α τ : Type} {S0 : Sh α} {f : α → τ} {e0 : α → List Dt} {e : τ → List Dt} (h0 : ShE S0 e0) (hf : ∀ x, ∃ a, x = f a) (he : ∀ a, e (f a) = e0 a) : ShE (zv4 S0 f) e where
 len x := by obtain ⟨a, rfl⟩ := hf x; rw [he, h0.len]; rfl
 to := by rintro w F x cs ⟨a, rfl, ha⟩; rw [he]; exact h0.to ha
 of := by intro w F x cs hr; obtain ⟨a, rfl⟩ := hf x; rw [he] at hr; exact ⟨a, rfl, h0.of hr⟩
theorem z7d : ShE shOp eOp := z4j z27 z27 (fun x => ⟨x.kind, x.n, rfl⟩) (fun a b => rfl)
theorem zjq : ShE shPoint z3c := z4j z27 z27 (fun x => ⟨x.tx, x.at_, rfl⟩) (fun a b => rfl)
theorem z04r : ShE shIn eIn := z4j zjq (z5s z7d rfl) (fun x => ⟨x.p, x.key, rfl⟩) (fun a b => rfl)
theorem ztx : ShE shOut z2a := z4j z27 (z5s z7d rfl) (fun x => ⟨x.coin, x.lock, rfl⟩) (fun a b => rfl)
def z74 {α β : Type} (e0 : α → List Dt) (e1 : β → List Dt) (p : α × β) : List Dt := e0 p.1 ++ e1 p.2
theorem zf8 {α β : Type} {S0 : Sh α} {S1 : Sh β} {e0 : α → List Dt} {e1 : β → List Dt} (h0 : ShE S0 e0) (h1 : ShE S1 e1) : ShE (z2q S0 S1 Prod.mk) (z74 e0 e1) := z4j h0 h1 (fun x => ⟨x.1, x.2, rfl⟩) (fun a b => rfl)
theorem she_tx : ShE shTx eTx := z4j (e1 := z74 (eSl 3 eIn) (eSl 2 z2a)) z27 (zf8 (z5s z04r rfl) (z5s ztx rfl)) (fun x => ⟨x.height, (x.ins, x.outs), rfl⟩) (fun a b => rfl)
theorem she_book : ShE shBook z83 := z04q (e0 := eSl 1 z1m) (z5s ze6 rfl) (fun x => ⟨x.texts, rfl⟩) (fun a => rfl)
theorem zmv : ShE shCoin zw := by
 refine z4j (e0 := z3c) (e1 := z74 z2a (z74 z12 ze4)) zjq ?_ (fun x => ⟨x.p, (x.o, x.height, x.reward), rfl⟩) (fun a b => rfl)
 exact z4j ztx (zf8 z27 z00d) (fun x => ⟨x.1, (x.2.1, x.2.2), rfl⟩) (fun a b => rfl)
theorem she_block : ShE shBlock z4i := by
 refine z4j (e0 := z12) (e1 := z74 z12 (z74 z12 (z74 z12 (eSl 3 eTx)))) z27 ?_ (fun x => ⟨x.parent, (x.height, x.work, x.nonce, x.txs), rfl⟩) (fun a b => rfl)
 refine z4j (e1 := z74 z12 (z74 z12 (eSl 3 eTx))) z27 ?_ (fun x => ⟨x.1, (x.2.1, x.2.2.1, x.2.2.2), rfl⟩) (fun a b => rfl)
 refine z4j (e1 := z74 z12 (eSl 3 eTx)) z27 ?_ (fun x => ⟨x.1, (x.2.1, x.2.2), rfl⟩) (fun a b => rfl)
 exact zf8 z27 (z5s she_tx rfl)
theorem z2h {α β : Type} {f : α → β} (h : ∀ x y, f x = f y → x = y) : ∀ {xs ys : List α}, xs.map f = ys.map f → xs = ys
 | [], [], _ => rfl
 | x :: xs, y :: ys, e => by
  simp only [List.map_cons, List.cons.injEq] at e
  rw [h _ _ e.1, z2h h e.2]
 | [], _ :: _, e => by simp at e
 | _ :: _, [], e => by simp at e
theorem zmw (x y : Int) (h : z12 x = z12 y) : x = y := by simpa [z12] using h
theorem zmx (x y : List UInt8) (h : z1m x = z1m y) : x = y := by simpa [z1m] using h
theorem ze7 (x y : Op) (h : eOp x = eOp y) : x = y := by cases x; cases y; simpa [eOp] using h
theorem z6c (x y : Point) (h : z3c x = z3c y) : x = y := by cases x; cases y; simpa [z3c] using h
theorem zty (x y : In) (h : eIn x = eIn y) : x = y := by
 obtain ⟨⟨a, b⟩, k⟩ := x
 obtain ⟨⟨a', b'⟩, k'⟩ := y
 simp only [eIn, List.cons.injEq, Dt.i.injEq, true_and, Dt.l.injEq, and_true] at h
 obtain ⟨rfl, rfl, h⟩ := h
 rw [z2h ze7 h]
theorem zmy (x y : Out) (h : z2a x = z2a y) : x = y := by
 obtain ⟨a, k⟩ := x
 obtain ⟨a', k'⟩ := y
 simp only [z2a, List.cons.injEq, Dt.i.injEq, true_and, Dt.l.injEq, and_true] at h
 obtain ⟨rfl, h⟩ := h
 rw [z2h ze7 h]
theorem ztz (x y : Tx) (h : eTx x = eTx y) : x = y := by
 obtain ⟨a, k, l⟩ := x
 obtain ⟨a', k', l'⟩ := y
 simp only [eTx, List.cons.injEq, Dt.i.injEq, true_and, Dt.l.injEq, and_true] at h
 obtain ⟨rfl, h, h'⟩ := h
 rw [z2h zty h, z2h zmy h']
theorem z9l (x y : Coin) (h : zw x = zw y) : x = y := by
 obtain ⟨⟨a, b⟩, ⟨c, k⟩, d, r⟩ := x
 obtain ⟨⟨a', b'⟩, ⟨c', k'⟩, d', r'⟩ := y
 simp only [zw, List.cons.injEq, Dt.i.injEq, true_and, Dt.l.injEq, Dt.b.injEq, and_true] at h
 obtain ⟨rfl, rfl, rfl, h, rfl, rfl⟩ := h
 rw [z2h ze7 h]
theorem zxf (x y : Undo) (h : z82 x = z82 y) : x = y := by
 obtain ⟨k⟩ := x
 obtain ⟨k'⟩ := y
 simp only [z82, List.cons.injEq, true_and, Dt.l.injEq, and_true] at h
 rw [z2h z9l h]
theorem zxg (x y : Book) (h : z83 x = z83 y) : x = y := by
 obtain ⟨k⟩ := x
 obtain ⟨k'⟩ := y
 simp only [z83, List.cons.injEq, true_and, Dt.l.injEq, and_true] at h
 rw [z2h zmx h]
theorem zg9 (x y : Block) (h : z4i x = z4i y) : x = y := by
 obtain ⟨a, b, c, d, k⟩ := x
 obtain ⟨a', b', c', d', k'⟩ := y
 simp only [z4i, List.cons.injEq, Dt.i.injEq, true_and, Dt.l.injEq, and_true] at h
 obtain ⟨rfl, rfl, rfl, rfl, h⟩ := h
 rw [z2h ztz h]
theorem zxh (x y : Tree) (h : ze5 x = ze5 y) : x = y := by
 obtain ⟨a, k⟩ := x
 obtain ⟨a', k'⟩ := y
 simp only [ze5, List.cons.injEq, true_and, Dt.l.injEq, and_true] at h
 rw [z2h zmw h.1, z2h zg9 h.2]
noncomputable def z0h {α : Type} (e : α → List Dt) (f : α → List Dt) : z9 := fun ds => open Classical in if h : ∃ x, e x = ds then some (f (Classical.choose h)) else none
theorem z4k {α : Type} {e : α → List Dt} {f : α → List Dt} (hi : ∀ x y, e x = e y → x = y) (x : α) : z0h e f (e x) = some (f x) := by
 have h : ∃ y, e y = e x := ⟨x, rfl⟩
 unfold z0h
 rw [dif_pos h, hi _ _ (Classical.choose_spec h)]
theorem z1n {α : Type} {e : α → List Dt} {f : α → List Dt} {ds rs : List Dt} (h : z0h e f ds = some rs) : ∃ x, ds = e x ∧ rs = f x := by
 unfold z0h at h
 split at h
 ·rename_i hx
  injection h with h
  exact ⟨_, (Classical.choose_spec hx).symm, h.symm⟩
 ·cases h
end
section
open Go.RowKit
section
variable {P : Program} {W : World} {F : Nat → Prop}
theorem z3d {ds : List Dt} {us : List Value} (h : PKRs W F [] ds us) : us = [] := h.2
theorem z02t {n : Nat} {ps : List PK} {d1 d2 : List Dt} {us : List Value} (h : PKRs W F (.agg n :: ps) (d1 ++ d2) us) (hn : d1.length = n) : ∃ cs vs : List Value, us = .agg cs.toArray :: vs ∧ Reps W F d1 cs ∧ PKRs W F ps d2 vs := by
 obtain ⟨e1, e2, v, vs, he, rfl, ⟨hl, cs, rfl, hr⟩, h2⟩ := h
 obtain ⟨rfl, rfl⟩ := List.append_inj he (by omega)
 exact ⟨cs, vs, rfl, hr, h2⟩
theorem zf9 {n : Nat} {ds : List Dt} {us : List Value} (h : PKRs W F [.agg n] ds us) : ∃ cs : List Value, us = [.agg cs.toArray] ∧ Reps W F ds cs := by
 obtain ⟨e1, e2, v, vs, rfl, rfl, ⟨hl, cs, rfl, hr⟩, rfl, rfl⟩ := h
 exact ⟨cs, rfl, by simpa using hr⟩
theorem z1r {ps : List PK} {d : Dt} {ds : List Dt} {us : List Value} (h : PKRs W F (.one :: ps) (d :: ds) us) : ∃ v vs, us = v :: vs ∧ Rep W F d v ∧ PKRs W F ps ds vs := by
 obtain ⟨e1, e2, v, vs, he, rfl, ⟨x, rfl, hr⟩, h2⟩ := h
 simp only [List.singleton_append, List.cons.injEq] at he
 obtain ⟨rfl, rfl⟩ := he
 exact ⟨v, vs, rfl, hr, h2⟩
theorem zga : PKRs W F [] [] [] := ⟨rfl, rfl⟩
theorem zgb {ps : List PK} {d : Dt} {ds : List Dt} {v : Value} {us : List Value} (h : Rep W F d v) (h2 : PKRs W F ps ds us) : PKRs W F (.one :: ps) (d :: ds) (v :: us) := ⟨[d], ds, v, us, rfl, rfl, ⟨d, rfl, h⟩, h2⟩
theorem zbf {n : Nat} {ps : List PK} {d1 d2 : List Dt} {cs us : List Value} (h : Reps W F d1 cs) (hn : d1.length = n) (h2 : PKRs W F ps d2 us) : PKRs W F (.agg n :: ps) (d1 ++ d2) (.agg cs.toArray :: us) := ⟨d1, d2, _, us, rfl, rfl, ⟨hn, cs, rfl, h⟩, h2⟩
def En (P : Program) (f : Nat) : Prop := ∃ fn c, P.funcs[f]? = some fn ∧ (fn.name == "runtime.NumGoroutine") = false ∧ fn.body = some c
theorem En.run {f : Nat} (h : En P f) (args : Array Value) (w : World) : (callFunc f args).run P w = .ok (.enter f args) w := let ⟨_, _, h1, h2, h3⟩ := h; zco h1 h2 h3 args w
theorem zfa {s : List PK} {l : Bool} {W' : World} {d : Dt} {v : Value} (hd : d.scal = true) (hr : Rep W' F d v) : ∃ us F', ResR W F W' ⟨s, [(false, [.scal])], l⟩ [d] v us F' := by
 refine ⟨[v], F, ⟨⟨rfl, rfl⟩, rfl, rfl, fun j f x u hf hx hu => ?_, fun b hb => .inl hb, fun j e sz u b hf => ?_, fun j j' e sz e' sz' u u' b hf => ?_⟩⟩
 ·cases j with
  | zero =>
   simp only [zk, List.flatMap_cons, List.flatMap_nil, List.append_nil, List.getElem?_cons_zero, Option.some.injEq] at hf hx hu
   subst hf; subst hx; subst hu
   exact ⟨hd, hr⟩
  | succ j => simp [zk] at hf
 ·cases j <;> simp [zk] at hf
 ·cases j <;> simp [zk] at hf
theorem zrx {spec : z9} {f : Nat} {pk : List PK} {b : Bool} (hpk : z2x pk = false) (hen : En P f) (hM : Meets P spec f ⟨pk, [(false, [.scal])], true⟩) {ds : List Dt} {us : List Value} (hF : z8u F W) (hs : spec ds = some [.b b]) (hargs : PKRs W F pk ds us) :
  Calls P f us.toArray W fun e w' => e = .returned (.bool b) ∧ Below W.heap.size W w' := by
 rcases hM.1 hpk W F ds us _ hF hargs hs with ⟨_, h⟩ | ⟨v, W', h1, _⟩
 ·refine h.mono fun e w' ⟨v, h1, h2, us, F', hR⟩ => ⟨?_, h2⟩
  obtain ⟨rfl, _⟩ := hR.val
  have := (hR.cells 0 .scal (.b b) v rfl rfl rfl).2
  rw [h1, z4a this]
 ·rw [hen.run] at h1; cases h1
end
end
section
open Go.RowKit
section
variable {sp : Nat → z9} {N : Nat} {E : Env} {ks : List (List Dt → Option (List Dt))} {res : Option (List Dt)}
theorem z4 {as0 : List Atom} {ds : List Dt} (h : vals E as0 = some ds) (hr : some ds = res) : den sp N (.ret as0) E ks = res := by simp only [den]; rw [h]; exact hr
theorem z5 {x : X} {k : T} {d : Dt} {E' : Env} (h : denX sp E x = some d) (hk : den sp N k E' ks = res) (hE : E ++ [d] = E' := by (simp only [List.cons_append, List.nil_append]; try exact rfl)) : den sp N (.lets [x] [] k) E ks = res := by
 subst hE
 simp only [den, z0s, h, z1h, Option.bind_eq_bind, Option.bind_some, Option.pure_def, if_true]; exact hk
theorem zcp {xs : List X} {k : T} (h : z1h sp E xs = true) (hk : den sp N k E ks = res) : den sp N (.lets [] xs k) E ks = res := by
 simp only [den, z0s, List.append_nil, h, if_true]; exact hk
theorem z6u {xs : List X} {k : T} {ds : List Dt} {E' : Env} (h : z0s sp E xs = some ds) (hk : den sp N k E' ks = res) (hE : E ++ ds = E' := by (simp only [List.cons_append, List.nil_append]; try exact rfl)) : den sp N (.lets xs [] k) E ks = res := by
 subst hE
 simp only [den, h, z1h, if_true]; exact hk
theorem z0k {a : Atom} {t e : T} {c : Bool} (h : a.val E = some (.b c)) (ht : c = true → den sp N t E ks = res) (he : c = false → den sp N e E ks = res) : den sp N (.ite a t e) E ks = res := by
 simp only [den, h]
 cases c
 ·exact he rfl
 ·exact ht rfl
theorem zcq : z0s sp E [] = some [] := rfl
theorem z1f {x : X} {xs : List X} {d : Dt} {ds : List Dt} (h : denX sp E x = some d) (hs : z0s sp E xs = some ds) : z0s sp E (x :: xs) = some (d :: ds) := by
 simp only [z0s, h, hs, Option.bind_eq_bind, Option.bind_some, Option.pure_def]
theorem z1t {ci j : Nat} {args : List Atom} {ds rs : List Dt} {d : Dt} (h : vals E args = some ds) (hs : sp ci ds = some rs) (hj : rs[j]? = some d) : denX sp E (.call ci args j) = some d := by
 simp only [denX, h, hs, Option.bind_eq_bind, Option.bind_some]; exact hj
theorem zjr {ci : Nat} {args : List Atom} {ds rs : List Dt} (h : vals E args = some ds) (hs : sp ci ds = some rs) : z0s sp E ((List.range rs.length).map fun j => .call ci args j) = some rs := by
 have key : ∀ (n k : Nat), k + n = rs.length → z0s sp E ((List.range' k n).map fun j => .call ci args j) = some (rs.drop k) := by
  intro n
  induction n with
  | zero => intro k hk; simp [z0s, List.drop_of_length_le (show rs.length ≤ k by omega)]
  | succ n ih =>
   intro k hk
   rw [List.range'_succ, List.map_cons, List.drop_eq_getElem_cons (by omega : k < rs.length)]
   exact z1f (z1t h hs (List.getElem?_eq_getElem _)) (ih (k + 1) (by omega))
 have := key rs.length 0 (by omega)
 rw [List.range_eq_range']
 simpa using this
theorem zfb {as0 : List Atom} {body : T} {ds : List Dt} (h : vals E as0 = some ds) (hi : z5e (fun again ds => den sp N body (E ++ ds) (ks ++ [again])) N ds = res) : den sp N (.loop as0 body) E ks = res := by
 simp only [den, h]; exact hi
theorem ze {lvl : Nat} {as0 : List Atom} {ds : List Dt} {k : List Dt → Option (List Dt)} (hk : ks[lvl]? = some k) (h : vals E as0 = some ds) (hr : k ds = res) : den sp N (.again lvl as0) E ks = res := by
 simp only [den, hk, h]; exact hr
theorem z02u {sz n : Nat} {a i : Atom} {xs : List (List Dt)} {m : Int} (ha : a.val E = some (.l sz xs)) (hi : i.val E = some (I m)) (h0 : 0 ≤ m) (h1 : m < xs.length) : denX sp E (.inr sz a i) = some (.b true) := by
 simp only [denX, ha, hi, asI, if_true]; simp [h0, h1]
theorem z92 {sz : Nat} {a i : Atom} {xs : List (List Dt)} {m : Int} (ha : a.val E = some (.l sz xs)) (hi : i.val E = some (I m)) (h0 : 0 ≤ m) (h1 : m < xs.length) : z1h sp E [.inr sz a i] = true := by
 simp only [z1h, z02u (sp := sp) (n := 0) ha hi h0 h1]
theorem z4x {sz j : Nat} {a i : Atom} {xs : List (List Dt)} {m : Int} {x : List Dt} {d : Dt} (ha : a.val E = some (.l sz xs)) (hi : i.val E = some (I m)) (h0 : 0 ≤ m) (hx : xs[m.toNat]? = some x) (hj : x[j]? = some d) : denX sp E (.idx a i j) = some d := by
 simp only [denX, ha, hi, asI, if_pos h0, hx, Option.bind_some]; exact hj
theorem z02v {sz : Nat} {a b : Atom} {xs ys : List (List Dt)} (ha : a.val E = some (.l sz xs)) (hb : b.val E = some (.l sz ys)) (h : xs.length + ys.length ≤ 1000000) : denX sp E (.app sz a b) = some (.l sz (xs ++ ys)) := by
 simp only [denX, ha, hb]; simp [h]
theorem z4l {sz : Nat} {rows : List (List Atom)} {r : List (List Dt)} (h : valss E rows = some r) (hs : r.all (fun x => x.length == sz) = true) (hl : r.length ≤ 1000000) : denX sp E (.mk sz rows) = some (.l sz r) := by
 simp only [denX, h, Option.bind_eq_bind, Option.bind_some]; simp only [hs, hl, and_self, if_true]
end
section
variable {P : Program}
theorem z07 (f : Nat) (s : Sig) : Meets P (fun _ => none) f s := by
 refine ⟨?_, ?_⟩
 ·intro _ W F ds args rs _ _ h
  cases h
 ·intro e sz ps _ W F base v xs vs ds args rs _ _ _ _ _ _ _ h
  cases h
theorem z0o {sp : Nat → z9} {f0 : Nat} {s0 : Sig} {l : List (Nat × Sig)} (h0 : Meets P (sp 0) f0 s0) (h : ∀ ci f s, l[ci]? = some (f, s) → Meets P ((fun c => sp (c + 1)) ci) f s) : ∀ ci f s, ((f0, s0) :: l)[ci]? = some (f, s) → Meets P (sp ci) f s
 | 0, f, s, e => by simp only [List.getElem?_cons_zero, Option.some.injEq, Prod.mk.injEq] at e; obtain ⟨rfl, rfl⟩ := e; exact h0
 | ci + 1, f, s, e => h ci f s (by simpa using e)
end
end
end Go.Proofs.YtnklncinjahckaaDoor
