/- Own texts, put together by wip/bundle.py: VdW, VEr, VAdd1, VAdd2, VAdd3, VAdd4. -/
import Derived.Test.YtnnbnjanekibpaaProg
import Derived.KernelRfl
import Derived.Test.YtnnbnjanekibpaaTreeAddOwnB2
import Derived.Test.YtnnbnjanekibpaaTreeAddOwnC2
import Derived.Test.YtnnbnjanekibpaaTreeAddOwnR
import Derived.Test.YtnnbnjanekibpaaTreeAddOwnS
import Derived.Test.YtnnbnjanekibpaaTreeAddOwnT
import Derived.Test.YtnnbnjanekibpaaTreeAddOwnV2
namespace Go.Proofs.Ytnnbnjanekibpaa
open Go.RowKit
set_option linter.unusedVariables false
def tyTab : TyTab := [(3, ⟨1, false, [.i .i64 0], [], false, none, some .i64⟩), (5, ⟨1, false, [.i .u8 0], [], false, none, some .u8⟩), (4, ⟨1, false, [.b false], [], false, none, none⟩), (9, ⟨1, false, [.s []], [], false, none, none⟩), (22, ⟨1, false, [.i .i64 0], [], false, none, some .i64⟩), (24, ⟨1, false, [.nil 1], [], false, some (3, 1, 8), none⟩), (23, ⟨1, false, [.nil 1], [], false, some (22, 1, 8), none⟩), (37, ⟨1, false, [.nil 1], [], false, some (9, 1, 16), none⟩), (89, ⟨1, false, [.nil 2], [], false, some (108, 2, 16), none⟩), (167, ⟨1, false, [.nil 2], [], false, some (88, 2, 16), none⟩), (78, ⟨1, false, [.nil 3], [], false, some (91, 3, 40), none⟩), (79, ⟨1, false, [.nil 2], [], false, some (98, 2, 32), none⟩), (64, ⟨1, false, [.nil 3], [], false, some (81, 3, 56), none⟩), (77, ⟨1, false, [.nil 6], [], false, some (100, 6, 64), none⟩), (54, ⟨1, false, [.nil 5], [], false, some (66, 5, 56), none⟩), (108, ⟨2, true, [.i .i64 0, .i .i64 0], [(0, 1), (1, 1)], true, none, none⟩), (88, ⟨2, true, [.i .i64 0, .i .i64 0], [(0, 1), (1, 1)], true, none, none⟩), (91, ⟨3, true, [.i .i64 0, .i .i64 0, .nil 2], [(0, 2), (2, 1)], false, none, none⟩), (98, ⟨2, true, [.i .i64 0, .nil 2], [(0, 1), (1, 1)], false, none, none⟩), (81, ⟨3, true, [.i .i64 0, .nil 3, .nil 2], [(0, 1), (1, 1), (2, 1)], false, none, none⟩), (39, ⟨1, true, [.nil 1], [(0, 1)], false, none, none⟩), (100, ⟨6, true, [.i .i64 0, .i .i64 0, .i .i64 0, .nil 2, .i .i64 0, .b false], [(0, 2), (2, 2), (4, 1), (5, 1)], false, none, none⟩), (83, ⟨1, true, [.nil 6], [(0, 1)], false, none, none⟩), (66, ⟨5, true, [.i .i64 0, .i .i64 0, .i .i64 0, .i .i64 0, .nil 3], [(0, 1), (1, 1), (2, 1), (3, 1), (4, 1)], false, none, none⟩), (56, ⟨2, true, [.nil 1, .nil 5], [(0, 1), (1, 1)], false, none, none⟩), (177, ⟨3, true, [.nil 1, .i .i64 0, .b false], [(0, 1), (1, 1), (2, 1)], false, none, none⟩)]
theorem tab_tyTab : tabB Try.prog tyTab = true := by kernel_rfl
theorem mixed_ok : Try.prog.follows .mixedOrders = true := by kernel_rfl
def fxOf (ty : TyTab) (sigs : List (Nat × Sig)) (fn : Func) (cut : List Nat) (hints : List Hint) (fns : List FnI) (dep : Nat) : Fx :=
  ⟨⟨ty, sigs, cut⟩, fn.ntmps, hints, fns, 4 * fn.ntmps + dep * 400, if dep = 0 then 4 * fn.ntmps + 10 else 4 * fn.ntmps + dep * 400 + 100, dep, 4⟩
theorem meets_dec {sp : Nat → Spec} {sigs : List (Nat × Sig)} {cut : List Nat} {hints : List Hint} {sig : Sig} {f : Nat} {fn : Func} {t : T} {spec : Spec} (hf : Try.prog.funcs[f]? = some fn) (hname : (fn.name == "runtime.NumGoroutine") = false)
    (hdec : decomp (fxOf tyTab sigs fn cut hints [] 0) sig fn = some t) (hsig : ∀ ci f s, sigs[ci]? = some (f, s) → Meets Try.prog (sp ci) f s) (hspec : ∀ ds rs, (∀ d ∈ ds, d.ok) → spec ds = some rs → (∃ N, den sp N t ds [] = some rs) ∧ scalOk sig rs) : Meets Try.prog spec f sig :=
  meets_of hf hname hdec tab_tyTab mixed_ok (fun g h => by cases h) hsig hspec
theorem en_of {P : Program} {f : Nat} {fn : Func} (h1 : P.funcs[f]? = some fn) (h2 : (fn.name == "runtime.NumGoroutine") = false) (h3 : fn.body.isSome = true) : En P f := by
  obtain ⟨c, hc⟩ := Option.isSome_iff_exists.1 h3
  exact ⟨fn, c, h1, h2, hc⟩
unseal rep fact in
theorem sep_two {α β : Type} {S : Sh α} {S' : Sh β} {x : α} {cs : List Value} {y : β} {cy : List Value} {w : World} {F : Nat → Prop} (hF : ∀ b, F b → b < w.heap.size) (h : S.rep w F x cs) (h' : S'.rep w F y cy) : Sep w F [rep x cs S, rep y cy S'] w := by
  have h1 : Sep w F [rep y cy S'] w := Sep.start1 hF h'
  refine h1.add (r := rep x cs S) rfl ?_
  exact S.more (F := F) (fun b hb => ⟨.inl hb, by simp [rep, fact]⟩) h
unseal rep fact in
theorem Sep.outRep {w0 W : World} {F0 : Nat → Prop} {Γ : List Res} {α : Type} {S : Sh α} {x : α} {cs : List Value} (hS : Sep w0 F0 (rep x cs S :: Γ) W) : S.rep W (All w0.heap.size F0 W) x cs := hS.out At.z
section
variable {P : Program} {W W' : World} {F F' : Nat → Prop}
theorem res_pure {s : Sig} {rs : List Dt} {v : Value} {us : List Value} (hv : ResV s.res v us) (hc : ∀ c ∈ cfsOf s, c = .scal ∨ c = .pure) (hs : ∀ (j : Nat) (d : Dt), (cfsOf s)[j]? = some .scal → rs[j]? = some d → d.scal = true)
    (hl : rs.length = (cfsOf s).length) (hr : Reps W' F' rs us) (hF' : ∀ b, F' b → F b ∨ (W.heap.size ≤ b ∧ b < W'.heap.size)) : ResR W F W' s rs v us F' where
  val := hv
  lrs := hl
  lus := by rw [← hr.len, hl]
  cells := fun j f d u hf hd hu => by
    obtain ⟨u', hu', hR⟩ := hr.get hd
    rw [hu] at hu'
    cases hu'
    rcases hc f (List.mem_of_getElem? hf) with rfl | rfl
    · exact ⟨hs j d hf hd, hR⟩
    · exact hR
  own := hF'
  apart := fun j e sz u b hf => by rcases hc _ (List.mem_of_getElem? hf) with h | h <;> cases h
  dj := fun j j' e sz e' sz' u u' b hf => by rcases hc _ (List.mem_of_getElem? hf) with h | h <;> cases h
theorem meets_clone {α β : Type} {S : Sh β} {eS : β → List Dt} (hE : ShE S eS) {e : α → List Dt} {xs : α → List β} {pk : List PK} {t sz : Nat} {f : Nat} (hpk : isMine pk = false) (hsz : S.size = sz) (hpos : 0 < S.size) (hen : En P f)
    (h : ∀ x W F us, (∀ b, F b → b < W.heap.size) → PKRs W F pk (e x) us → Calls P f us.toArray W fun r W' => ∃ n, Cloned S t W F (xs x) n r W') :
    Meets P (specOf e fun x => [.l sz ((xs x).map eS)]) f ⟨pk, [(false, [.fresh t sz])], false⟩ := by
  refine .mk hpk ?_
  intro W F ds args rs hF hargs hsp
  obtain ⟨x, rfl, rfl⟩ := specOf_some hsp
  refine .inl ⟨hen.run _ _, (h x W F args hF hargs).mono ?_⟩
  rintro r W' ⟨n, v, zs, rfl, hz, hr, ho, hb⟩
  subst hsz
  have hag : Agree F W W' := fun b hb' => hb.block b (hF b hb')
  have hzl : zs.length = n := by
    have h1 := ho.1
    rw [flat_length fun z hz => S.len (hr z hz)] at h1
    exact Nat.eq_of_mul_eq_mul_right hpos h1
  refine ⟨v, rfl, hb, [v], F, ⟨⟨rfl, rfl⟩, rfl, rfl, fun j c d u hf hd hu => ?_, fun b hb => .inl hb, fun j e' sz' u b hf hu hbl hFb => ?_, fun j j' e sz e' sz' u u' b hf hu hf' hu' _ _ => ?_⟩⟩
  · cases j with
    | succ j => simp [cfsOf] at hf
    | zero =>
      simp only [cfsOf, List.flatMap_cons, List.flatMap_nil, List.append_nil, List.getElem?_cons_zero, Option.some.injEq] at hf hd hu
      subst hf; subst hd; subst hu
      refine ⟨_, flat zs, rfl, fun y hy => ?_, ?_, ?_⟩
      · obtain ⟨z, _, rfl⟩ := List.mem_map.1 hy
        exact hE.len z
      · rw [List.length_map, ← hz, List.length_map, hzl]; exact ho
      · rw [← hz]
        clear ho hz hzl
        induction zs with
        | nil => exact trivial
        | cons z zs ih =>
          simp only [flat, List.map_cons, List.flatten_cons]
          exact (hE.to (S.keep hag (hr z (List.mem_cons_self ..)))).append (ih fun z hz => hr z (List.mem_cons_of_mem _ hz))
  · cases j with
    | succ j => simp [cfsOf] at hf
    | zero =>
      simp only [List.getElem?_cons_zero, Option.some.injEq] at hu
      subst hu
      have h1 := own_ge ho hbl
      have h2 := hF b hFb
      omega
  · cases j <;> cases j' <;> simp [cfsOf] at hf hf' ⊢
theorem meets_scal2 {α : Type} {e : α → List Dt} {d : α → Dt} {pk : List PK} {f : Nat} (hpk : isMine pk = false) (hen : En P f) (hd : ∀ x, (d x).scal = true)
    (h : ∀ x W F us, (∀ b, F b → b < W.heap.size) → PKRs W F pk (e x) us → Calls P f us.toArray W fun r W' => ∃ v, r = .returned v ∧ Below W.heap.size W W' ∧ Rep W' (fun _ => False) (d x) v) : Meets P (specOf e fun x => [d x]) f ⟨pk, [(false, [.scal])], true⟩ := by
  refine .mk hpk ?_
  intro W F ds args rs hF hargs hs
  obtain ⟨x, rfl, rfl⟩ := specOf_some hs
  refine .inl ⟨hen.run _ _, (h x W F args hF hargs).mono fun e w' ⟨v, h1, h2, h3⟩ => ⟨v, h1, h2, res_scal (hd x) (h3.mono (fun _ h => h.elim) (fun _ h => h.elim))⟩⟩
theorem res_aggE {β : Type} {S : Sh β} {eS : β → List Dt} (hE : ShE S eS) {fs : List CF} {x : β} {cs : List Value} {n : Int} {pk : List PK} {l : Bool} (hfs : ∀ c ∈ fs, c = .scal ∨ c = .pure) (hln : fs.length = S.size)
    (hs : ∀ (j : Nat) (d : Dt), fs[j]? = some .scal → (eS x)[j]? = some d → d.scal = true) (hn : -9223372036854775808 ≤ n ∧ n ≤ 9223372036854775807) (hr : S.rep W' F' x cs) (hF' : ∀ b, F' b → F b ∨ (W.heap.size ≤ b ∧ b < W'.heap.size)) :
    ResR W F W' ⟨pk, [(true, fs), (false, [.scal])], l⟩ (eS x ++ [I n]) (.tuple #[.agg cs.toArray, .int .i64 n]) (cs ++ [.int .i64 n]) F' := by
  have hcf : cfsOf ⟨pk, [(true, fs), (false, [.scal])], l⟩ = fs ++ [.scal] := by simp [cfsOf]
  have hx := hE.len x
  refine res_pure ⟨[.agg cs.toArray, .int .i64 n], rfl, _, _, _, _, rfl, rfl, ⟨rfl, by rw [S.len hr, hln]⟩, _, _, _, [], rfl, by simp, ⟨rfl, rfl⟩, rfl, rfl⟩ ?_ ?_ ?_ ((hE.to hr).append ⟨.i _ _ (wrap_i64 hn), trivial⟩) hF'
  · rw [hcf]
    intro c hc
    rcases List.mem_append.1 hc with h | h
    · exact hfs c h
    · simp only [List.mem_singleton] at h; exact .inl h
  · rw [hcf]
    intro j d hj hd
    by_cases hlt : j < fs.length
    · rw [List.getElem?_append_left hlt] at hj
      rw [List.getElem?_append_left (by omega)] at hd
      exact hs j d hj hd
    · rw [List.getElem?_append_right (by omega)] at hd
      cases hk : j - (eS x).length with
      | zero => rw [hk] at hd; simp only [List.getElem?_cons_zero, Option.some.injEq] at hd; subst hd; rfl
      | succ k => rw [hk] at hd; simp at hd
  · rw [hcf]; simp [hx, hln]
theorem meets_RSE {α β : Type} {S : Sh β} {eS : β → List Dt} (hE : ShE S eS) {e : α → List Dt} {g : α → β} {m : α → Int} {pk : List PK} {fs : List CF} {f : Nat} (hpk : isMine pk = false) (hen : En P f) (hfs : ∀ c ∈ fs, c = .scal ∨ c = .pure) (hln : fs.length = S.size)
    (hs : ∀ (x : β) (j : Nat) (d : Dt), fs[j]? = some .scal → (eS x)[j]? = some d → d.scal = true) (hn : ∀ x, -9223372036854775808 ≤ m x ∧ m x ≤ 9223372036854775807)
    (h : ∀ x W F us, (∀ b, F b → b < W.heap.size) → PKRs W F pk (e x) us → ∃ Γ, Calls P f us.toArray W (RSE W F Γ S (g x) (m x))) :
    Meets P (specOf e fun x => eS (g x) ++ [I (m x)]) f ⟨pk, [(true, fs), (false, [.scal])], false⟩ := by
  refine .mk hpk ?_
  intro W F ds args rs hF hargs hsp
  obtain ⟨x, rfl, rfl⟩ := specOf_some hsp
  obtain ⟨Γ, h⟩ := h x W F args hF hargs
  refine .inl ⟨hen.run _ _, h.mono ?_⟩
  rintro r W' ⟨cs, rfl, hS⟩
  exact ⟨_, rfl, hS.below, _, _, res_aggE hE hfs hln (hs _) (hn x) hS.outRep fun b hb => hb⟩
end
end Go.Proofs.Ytnnbnjanekibpaa
namespace Go.Proofs.Ytnnbnjanekibpaa
open Go.RowKit
set_option linter.unusedVariables false
def Er (n : Int) : Prop := 0 ≤ n ∧ n ≤ 12
theorem Er.i64 {n : Int} (h : Er n) : -9223372036854775808 ≤ n ∧ n ≤ 9223372036854775807 := ⟨by have := h.1; omega, by have := h.2; omega⟩
theorem er_ite {c : Prop} [Decidable c] {a b : Int} (ha : Er a) (hb : Er b) : Er (if c then a else b) := by split <;> assumption
theorem er_lit (n : Int) (h : decide (0 ≤ n ∧ n ≤ 12) = true) : Er n := by unfold Er; exact of_decide_eq_true h
theorem er_op (o : Op) : Er (opBad o) := er_ite (er_lit _ rfl) (er_ite (er_lit _ rfl) (er_lit _ rfl))
theorem er_opsGo : ∀ l : List Op, Er (opsGo l)
  | [] => er_lit _ rfl
  | o :: l => er_ite (er_op o) (er_opsGo l)
theorem er_ops (l : List Op) : Er (opsCheck l) := er_ite (er_lit _ rfl) (er_opsGo l)
theorem er_inBad (x : In) : Er (inBad x) := by unfold inBad; exact er_ite (er_lit _ rfl) (er_ops _)
theorem er_insGo : ∀ l s : List In, Er (insGo l s)
  | [], _ => er_lit _ rfl
  | x :: l, s => er_ite (er_inBad x) (er_ite (er_lit _ rfl) (er_insGo l _))
theorem er_outs : ∀ l : List Out, Er (outsGo l)
  | [] => er_lit _ rfl
  | x :: l => er_ite (er_ite (er_lit _ rfl) (er_ops _)) (er_outs l)
theorem er_sumGo : ∀ (l : List Int) (s : Int), Er (sumGo l s).2
  | [], _ => er_lit _ rfl
  | x :: l, s => by
    unfold sumGo
    repeat' split
    all_goals first | exact er_lit _ rfl | exact er_sumGo _ _
theorem er_tx (t : Tx) : Er (txCheck t) := er_ite (er_ite (er_lit _ rfl) (er_ite (er_lit _ rfl) (er_ite (er_lit _ rfl) (er_lit _ rfl)))) (er_ite (er_insGo _ _) (er_ite (er_outs _) (er_sumGo _ _)))
theorem er_txsGo (h : Int) : ∀ (l : List Tx) (i : Nat), Er (txsGo h l i)
  | [], _ => er_lit _ rfl
  | t :: l, i => er_ite (er_tx t) (er_ite (er_lit _ rfl) (er_txsGo h l _))
theorem er_blk (b : Block) : Er (blkCheck b) := er_ite (er_ite (er_lit _ rfl) (er_ite (er_lit _ rfl) (er_ite (er_lit _ rfl) (er_lit _ rfl)))) (er_txsGo _ _ _)
theorem er_stands (ns : List Int) (bs : List Block) (b : Block) (m : Nat) : Er (standsE ns bs b m) := er_ite (er_ite (er_lit _ rfl) (er_lit _ rfl)) (er_ite (er_lit _ rfl) (er_ite (er_lit _ rfl) (er_lit _ rfl)))
theorem er_treeStep (ns : List Int) (bs : List Block) (k : Nat) (n : Int) (b : Block) : Er (treeStep ns bs k n b) := er_ite (er_lit _ rfl) (er_ite (er_blk _) (er_ite (er_lit _ rfl) (er_stands ..)))
theorem er_treeGo (ns : List Int) (bs : List Block) : ∀ f k : Nat, Er (treeGo ns bs k f)
  | 0, k => by unfold treeGo; exact er_lit _ rfl
  | f + 1, k => by unfold treeGo; exact er_ite (er_treeStep ..) (er_treeGo ns bs f _)
theorem er_tree (t : Tree) : Er (treeCheck t) := er_ite (er_lit _ rfl) (er_ite (er_lit _ rfl) (er_treeGo ..))
theorem er_treeAdd (t : Tree) (n : Int) (b : Block) : Er (treeAddE t n b) :=
  er_ite (er_tree _) (er_ite (er_lit _ rfl) (er_ite (er_blk _) (er_ite (er_lit _ rfl) (er_ite (er_stands ..) (er_ite (er_lit _ rfl) (er_lit _ rfl))))))
end Go.Proofs.Ytnnbnjanekibpaa
namespace Go.Proofs.Ytnnbnjanekibpaa
open Go.RowKit
set_option linter.unusedVariables false
set_option linter.unusedSimpArgs false
set_option maxRecDepth 100000
def tAdded : T :=
  .lets [.bin .lss (.v 2) (.c (.i .i64 1))] [] (.ite (.v 8) (.ret [.c (.nil 1), .c (.nil 5), .c (.i .i64 3)]) (.lets [.bin .gtr (.v 2) (.c (.i .i64 120))] [] (.ite (.v 9) (.ret [.c
    (.nil 1), .c (.nil 5), .c (.i .i64 3)]) (.lets [.call 5 [.v 0] 0] [] (.lets [.mk 1 [[.v 2]]] [] (.lets [.app 1 (.v 10) (.v 11)] [] (.lets [.call 6 [.v 1] 0] [] (.lets [.mk 5 [[.v 3,
    .v 4, .v 5, .v 6, .v 7]]] [] (.lets [.app 5 (.v 13) (.v 14)] [] (.lets [.call 1 [.v 3, .v 4, .v 5, .v 6, .v 7] 0] [] (.lets [.bin .eql (.v 16) (.c (.i .i64 0))] [] (.ite (.v 17)
    (.lets [.call 2 [.v 12, .v 15] 0] [] (.lets [.bin .eql (.v 18) (.c (.i .i64 2))] [] (.ite (.v 19) (.lets [.call 3 [.v 0, .v 2] 0] [] (.ite (.v 20) (.lets [.bin .neq (.c (.i .i64 6))
    (.c (.i .i64 0))] [] (.ite (.v 21) (.ret [.c (.nil 1), .c (.nil 5), .c (.i .i64 6)]) (.ret [.v 12, .v 15, .c (.i .i64 0)]))) (.lets [.call 4 [.v 0, .v 3] 0] [] (.lets [.bin .neq (.v
    3) (.c (.i .i64 0))] [] (.ite (.v 22) (.lets [.bin .lss (.v 21) (.c (.i .i64 0))] [] (.ite (.v 23) (.lets [.bin .neq (.c (.i .i64 5)) (.c (.i .i64 0))] [] (.ite (.v 24) (.ret [.c
    (.nil 1), .c (.nil 5), .c (.i .i64 5)]) (.ret [.v 12, .v 15, .c (.i .i64 0)]))) (.lets [.bin .geq (.v 21) (.c (.i .i64 0))] [] (.ite (.v 24) (.lets [] [.inr 5 (.v 1) (.v 21)] (.lets
    [.idx (.v 1) (.v 21) 1] [] (.lets [.bin .add (.v 25) (.c (.i .i64 1))] [] (.lets [.bin .neq (.v 26) (.v 4)] [] (.ite (.v 27) (.lets [.bin .neq (.c (.i .i64 4)) (.c (.i .i64 0))] []
    (.ite (.v 28) (.ret [.c (.nil 1), .c (.nil 5), .c (.i .i64 4)]) (.ret [.v 12, .v 15, .c (.i .i64 0)]))) (.lets [.bin .lss (.v 21) (.c (.i .i64 0))] [] (.ite (.v 28) (.lets [.bin
    .neq (.v 4) (.c (.i .i64 1))] [] (.ite (.v 29) (.lets [.bin .neq (.c (.i .i64 4)) (.c (.i .i64 0))] [] (.ite (.v 30) (.ret [.c (.nil 1), .c (.nil 5), .c (.i .i64 4)]) (.ret [.v 12,
    .v 15, .c (.i .i64 0)]))) (.lets [.bin .neq (.c (.i .i64 12)) (.c (.i .i64 0))] [] (.ite (.v 30) (.ret [.c (.nil 1), .c (.nil 5), .c (.i .i64 12)]) (.ret [.v 12, .v 15, .c (.i .i64
    0)]))))) (.lets [.bin .neq (.c (.i .i64 12)) (.c (.i .i64 0))] [] (.ite (.v 29) (.ret [.c (.nil 1), .c (.nil 5), .c (.i .i64 12)]) (.ret [.v 12, .v 15, .c (.i .i64 0)]))))))))))
    (.lets [.bin .lss (.v 21) (.c (.i .i64 0))] [] (.ite (.v 25) (.lets [.bin .neq (.v 4) (.c (.i .i64 1))] [] (.ite (.v 26) (.lets [.bin .neq (.c (.i .i64 4)) (.c (.i .i64 0))] []
    (.ite (.v 27) (.ret [.c (.nil 1), .c (.nil 5), .c (.i .i64 4)]) (.ret [.v 12, .v 15, .c (.i .i64 0)]))) (.lets [.bin .neq (.c (.i .i64 12)) (.c (.i .i64 0))] [] (.ite (.v 27) (.ret
    [.c (.nil 1), .c (.nil 5), .c (.i .i64 12)]) (.ret [.v 12, .v 15, .c (.i .i64 0)]))))) (.lets [.bin .neq (.c (.i .i64 12)) (.c (.i .i64 0))] [] (.ite (.v 26) (.ret [.c (.nil 1), .c
    (.nil 5), .c (.i .i64 12)]) (.ret [.v 12, .v 15, .c (.i .i64 0)]))))))))) (.lets [.bin .geq (.v 21) (.c (.i .i64 0))] [] (.ite (.v 23) (.lets [] [.inr 5 (.v 1) (.v 21)] (.lets [.idx
    (.v 1) (.v 21) 1] [] (.lets [.bin .add (.v 24) (.c (.i .i64 1))] [] (.lets [.bin .neq (.v 25) (.v 4)] [] (.ite (.v 26) (.lets [.bin .neq (.c (.i .i64 4)) (.c (.i .i64 0))] [] (.ite
    (.v 27) (.ret [.c (.nil 1), .c (.nil 5), .c (.i .i64 4)]) (.ret [.v 12, .v 15, .c (.i .i64 0)]))) (.lets [.bin .lss (.v 21) (.c (.i .i64 0))] [] (.ite (.v 27) (.lets [.bin .neq (.v
    4) (.c (.i .i64 1))] [] (.ite (.v 28) (.lets [.bin .neq (.c (.i .i64 4)) (.c (.i .i64 0))] [] (.ite (.v 29) (.ret [.c (.nil 1), .c (.nil 5), .c (.i .i64 4)]) (.ret [.v 12, .v 15, .c
    (.i .i64 0)]))) (.lets [.bin .neq (.c (.i .i64 12)) (.c (.i .i64 0))] [] (.ite (.v 29) (.ret [.c (.nil 1), .c (.nil 5), .c (.i .i64 12)]) (.ret [.v 12, .v 15, .c (.i .i64 0)])))))
    (.lets [.bin .neq (.c (.i .i64 12)) (.c (.i .i64 0))] [] (.ite (.v 28) (.ret [.c (.nil 1), .c (.nil 5), .c (.i .i64 12)]) (.ret [.v 12, .v 15, .c (.i .i64 0)])))))))))) (.lets [.bin
    .lss (.v 21) (.c (.i .i64 0))] [] (.ite (.v 24) (.lets [.bin .neq (.v 4) (.c (.i .i64 1))] [] (.ite (.v 25) (.lets [.bin .neq (.c (.i .i64 4)) (.c (.i .i64 0))] [] (.ite (.v 26)
    (.ret [.c (.nil 1), .c (.nil 5), .c (.i .i64 4)]) (.ret [.v 12, .v 15, .c (.i .i64 0)]))) (.lets [.bin .neq (.c (.i .i64 12)) (.c (.i .i64 0))] [] (.ite (.v 26) (.ret [.c (.nil 1),
    .c (.nil 5), .c (.i .i64 12)]) (.ret [.v 12, .v 15, .c (.i .i64 0)]))))) (.lets [.bin .neq (.c (.i .i64 12)) (.c (.i .i64 0))] [] (.ite (.v 25) (.ret [.c (.nil 1), .c (.nil 5), .c
    (.i .i64 12)]) (.ret [.v 12, .v 15, .c (.i .i64 0)])))))))))))) (.lets [.bin .neq (.v 18) (.c (.i .i64 0))] [] (.ite (.v 20) (.ret [.c (.nil 1), .c (.nil 5), .v 18]) (.ret [.v 12,
    .v 15, .c (.i .i64 0)])))))) (.lets [.bin .neq (.v 16) (.c (.i .i64 0))] [] (.ite (.v 18) (.ret [.c (.nil 1), .c (.nil 5), .v 16]) (.ret [.v 12, .v 15, .c (.i .i64
    0)])))))))))))))))
abbrev eAdd (x : { p : Tree × Int × Block // treeCheck p.1 = 0 }) : List Dt := eTree x.1.1 ++ ([I x.1.2.1] ++ eBlock x.1.2.2)
abbrev eXN (x : List Int × Int) : List Dt := [.l 1 (x.1.map eInt), I x.2]
noncomputable def spGrown : Spec := specOf (fun _ : Unit => []) fun _ => [.b true]
noncomputable def spCheckBlock : Spec := specOf eBlock fun x => [I (blkCheck x)]
noncomputable def spCheckTree : Spec := specOf eTree fun x => [I (treeCheck x)]
noncomputable def spContains : Spec := specOf eXN fun x => [.b (memB x.1 x.2)]
noncomputable def spIndex : Spec := specOf eXN fun x => [I (idx x.1 x.2)]
noncomputable def spCloneI : Spec := specOf (fun x : { l : List Int // l.length ≤ 1000000 } => [.l 1 (x.1.map eInt)]) fun x => [.l 1 (x.1.map eInt)]
noncomputable def spCloneB : Spec := specOf (fun x : { l : List Block // l.length ≤ 1000000 } => [.l 5 (x.1.map eBlock)]) fun x => [.l 5 (x.1.map eBlock)]
noncomputable def spsAdded (ci : Nat) : Spec := [spGrown, spCheckBlock, spCheckTree, spContains, spIndex, spCloneI, spCloneB].getD ci fun _ => none
theorem eXN_inj (x y : List Int × Int) (h : eXN x = eXN y) : x = y := by
  obtain ⟨a, b⟩ := x
  obtain ⟨a', b'⟩ := y
  simp only [eXN, List.cons.injEq, Dt.l.injEq, Dt.i.injEq, true_and, and_true] at h
  obtain ⟨h, rfl⟩ := h
  rw [map_inj eInt_inj h]
theorem spCheckBlock_at (a b c d : Int) (l : List Tx) : spCheckBlock [I a, I b, I c, I d, .l 3 (l.map eTx)] = some [I (blkCheck ⟨a, b, c, d, l⟩)] := specOf_at (e := eBlock) eBlock_inj ⟨a, b, c, d, l⟩
theorem spCheckTree_at (ns : List Int) (bs : List Block) : spCheckTree [.l 1 (ns.map eInt), .l 5 (bs.map eBlock)] = some [I (treeCheck ⟨ns, bs⟩)] := specOf_at (e := eTree) eTree_inj ⟨ns, bs⟩
theorem spContains_at (ns : List Int) (n : Int) : spContains [.l 1 (ns.map eInt), I n] = some [.b (memB ns n)] := specOf_at (e := eXN) eXN_inj (ns, n)
theorem spIndex_at (ns : List Int) (n : Int) : spIndex [.l 1 (ns.map eInt), I n] = some [I (idx ns n)] := specOf_at (e := eXN) eXN_inj (ns, n)
theorem spCloneI_at (ns : List Int) (h : ns.length ≤ 1000000) : spCloneI [.l 1 (ns.map eInt)] = some [.l 1 (ns.map eInt)] :=
  specOf_at (e := fun x : { l : List Int // l.length ≤ 1000000 } => [.l 1 (x.1.map eInt)]) (fun x y h => Subtype.ext (map_inj eInt_inj (by simpa using h))) ⟨ns, h⟩
theorem spCloneB_at (ns : List Block) (h : ns.length ≤ 1000000) : spCloneB [.l 5 (ns.map eBlock)] = some [.l 5 (ns.map eBlock)] :=
  specOf_at (e := fun x : { l : List Block // l.length ≤ 1000000 } => [.l 5 (x.1.map eBlock)]) (fun x y h => Subtype.ext (map_inj eBlock_inj (by simpa using h))) ⟨ns, h⟩
attribute [local irreducible] specOf
set_option maxHeartbeats 4000000 in
theorem added_den (t : Tree) (name : Int) (b : Block) (ht : treeCheck t = 0) : den spsAdded 1 tAdded (eTree t ++ ([I name] ++ eBlock b)) [] = some (eTree (treeAddT t name b) ++ [I (treeAddE t name b)]) := by
  obtain ⟨ns, bs⟩ := t
  obtain ⟨bp, bh, bw, bn, txs⟩ := b
  have ok := (treeCheck_iff ns bs).1 ht
  have hle := ok.le
  have hlen := ok.len
  generalize hb : (⟨bp, bh, bw, bn, txs⟩ : Block) = b
  have hadd : ∀ e T, treeAddE ⟨ns, bs⟩ name b = e → treeAddT ⟨ns, bs⟩ name b = T → some (eTree T ++ [I e]) = some (eTree (treeAddT ⟨ns, bs⟩ name b) ++ [I (treeAddE ⟨ns, bs⟩ name b)]) := by rintro e T rfl rfl; rfl
  have hfail : ∀ e, e ≠ 0 → treeAddE ⟨ns, bs⟩ name b = e → some (eTree ⟨[], []⟩ ++ [I e]) = some (eTree (treeAddT ⟨ns, bs⟩ name b) ++ [I (treeAddE ⟨ns, bs⟩ name b)]) := fun e h0 he => hadd e _ he (by unfold treeAddT; rw [if_neg (by rw [he]; exact h0)])
  have hE : eTree ⟨ns, bs⟩ ++ ([I name] ++ eBlock b) = [.l 1 (ns.map eInt), .l 5 (bs.map eBlock), I name, I bp, I bh, I bw, I bn, .l 3 (txs.map eTx)] := by rw [← hb]; rfl
  rw [hE]
  unfold tAdded
  refine den_let1 (d := .b (decide (name < 1))) rfl ?_
  refine den_ite rfl (fun h1 => ?_) (fun h1 => ?_)
  · have h1 : name < 1 := of_decide_eq_true h1
    exact den_ret rfl (hfail 3 (by decide) (by simp [treeAddE, ht, nameBad, h1]))
  have h1 : ¬ name < 1 := of_decide_eq_false h1
  refine den_let1 (d := .b (decide (120 < name))) rfl ?_
  refine den_ite rfl (fun h2 => ?_) (fun h2 => ?_)
  · have h2 : 120 < name := of_decide_eq_true h2
    exact den_ret rfl (hfail 3 (by decide) (by simp [treeAddE, ht, nameBad, h2]))
  have h2 : ¬ 120 < name := of_decide_eq_false h2
  refine den_let1 (den_call rfl (spCloneI_at ns (by omega)) rfl) ?_
  refine den_let1 (den_mk (r := [[I name]]) rfl rfl (by simp)) ?_
  refine den_let1 (den_app rfl rfl (by simp; omega)) ?_
  refine den_let1 (den_call rfl (spCloneB_at bs (by omega)) rfl) ?_
  refine den_let1 (den_mk (r := [[I bp, I bh, I bw, I bn, .l 3 (txs.map eTx)]]) rfl rfl (by simp)) ?_
  refine den_let1 (den_app rfl rfl (by simp; omega)) ?_
  refine den_let1 (den_call rfl (spCheckBlock_at bp bh bw bn txs) rfl) ?_
  rw [hb]
  refine den_let1 (d := .b (decide (blkCheck b = 0))) rfl ?_
  refine den_ite rfl (fun h3 => ?_) (fun h3 => ?_)
  · have h3 : blkCheck b = 0 := of_decide_eq_true h3
    have e1 : ns.map eInt ++ [[I name]] = (ns ++ [name]).map eInt := by simp [eInt]
    have e2 : bs.map eBlock ++ [[I bp, I bh, I bw, I bn, .l 3 (txs.map eTx)]] = (bs ++ [b]).map eBlock := by rw [← hb]; simp [eBlock]
    have hcall := spCheckTree_at (ns ++ [name]) (bs ++ [b])
    rw [← e1, ← e2, treeCheck_add ht (by omega) h3] at hcall
    generalize hX : (if ns.length = 24 then (2 : Int) else if memB ns name = true then 6 else standsE ns bs b ns.length) = X at hcall
    refine den_let1 (den_call rfl hcall rfl) ?_
    have hidx0 : ¬ 0 ≤ idx ns 0 := by
      intro h
      obtain ⟨j, hj, hjs⟩ := idx_at h
      have hjl := (List.getElem?_eq_some_iff.1 hjs).1
      have := (treeStep_ok (ok.step j hjl)).1
      rw [show nameAt ns j = 0 by simp [nameAt, hjs]] at this
      omega
    have hlow : treeAddE ⟨ns, bs⟩ name b = if memB ns name = true then 6 else if standsE ns bs b ns.length ≠ 0 then standsE ns bs b ns.length else if (ns.length : Int) = 24 then 12 else 0 := by
      simp [treeAddE, ht, nameBad, h1, h2, h3]
    have hst : standsE ns bs b ns.length = if bp = 0 then (if bh ≠ 1 then 4 else 0) else if idx ns bp < 0 then 5 else if bh ≠ (blkAt bs (idx ns bp)).height + 1 then 4 else 0 := by
      rw [← hb]; simp only [standsE, List.take_length]
    have hst2 : standsE ns bs b ns.length ≠ 2 := by rw [hst]; split <;> split <;> (try split) <;> omega
    refine den_let1 (d := .b (decide (X = 2))) rfl ?_
    refine den_ite rfl (fun h4 => ?_) (fun h4 => ?_)
    · have h4 := of_decide_eq_true h4
      have h4' := h4
      rw [← hX] at h4
      have h24 : ns.length = 24 := by
        by_cases h24 : ns.length = 24
        · exact h24
        · rw [if_neg h24] at h4
          split at h4
          · cases h4
          · exact absurd h4 hst2
      refine den_let1 (den_call rfl (spContains_at ns name) rfl) ?_
      refine den_ite rfl (fun h5 => ?_) (fun h5 => ?_)
      · refine den_let1 (d := .b (!decide ((6 : Int) = 0))) rfl ?_
        refine den_ite rfl (fun h6 => ?_) (fun h6 => absurd h6 (by decide))
        exact den_ret rfl (hfail 6 (by decide) (by rw [hlow, if_pos h5]))
      rw [h5] at hlow
      simp only [Bool.false_eq_true, if_false] at hlow
      refine den_let1 (den_call rfl (spIndex_at ns bp) rfl) ?_
      refine den_let1 (d := .b (!decide (bp = 0))) rfl ?_
      refine den_ite rfl (fun h6 => ?_) (fun h6 => ?_)
      · have h6 : bp ≠ 0 := by simpa using h6
        rw [if_neg h6] at hst
        refine den_let1 (d := .b (decide (idx ns bp < 0))) rfl ?_
        refine den_ite rfl (fun h7 => ?_) (fun h7 => ?_)
        · have h7 := of_decide_eq_true h7
          rw [if_pos h7] at hst
          refine den_let1 (d := .b (!decide ((5 : Int) = 0))) rfl ?_
          refine den_ite rfl (fun h8 => ?_) (fun h8 => absurd h8 (by decide))
          exact den_ret rfl (hfail 5 (by decide) (by rw [hlow, hst]; rfl))
        have h7 := of_decide_eq_false h7
        rw [if_neg h7] at hst
        obtain ⟨j, hj, hjs⟩ := idx_at (show 0 ≤ idx ns bp by omega)
        have hjl := (List.getElem?_eq_some_iff.1 hjs).1
        have hbj : bs[j]? = some (blkAt bs (idx ns bp)) := by
          have hjb : j < bs.length := by omega
          rw [hj]; simp [blkAt, hjb]
        have hbc : blkCheck (blkAt bs (idx ns bp)) = 0 := by rw [hj]; exact (treeStep_ok (ok.step j hjl)).2.1
        have hbr := (blkCheck_bd hbc).1
        simp only [blkRange, not_or, Int.not_lt] at hbr
        generalize blkAt bs (idx ns bp) = c at hbj hbr hst hbc
        generalize idx ns bp = i at hj hst h7 ⊢
        have hi0 : 0 ≤ i := by omega
        have hi1 : i < (bs.map eBlock).length := by simp; omega
        have hx : (bs.map eBlock)[i.toNat]? = some (eBlock c) := by rw [List.getElem?_map, show i.toNat = j by omega, hbj]; rfl
        clear hj
        have hw : IntKind.i64.wrap (c.height + 1) = c.height + 1 := wrap_i64 (by omega)
        refine den_let1 (d := .b (decide (0 ≤ i))) rfl ?_
        refine den_ite rfl (fun h8 => ?_) (fun h8 => absurd (of_decide_eq_false h8) (by omega))
        refine den_ck (hold_inr rfl rfl hi0 hi1) ?_
        refine den_let1 (den_idx rfl rfl hi0 hx rfl) ?_
        refine den_let1 (d := I (c.height + 1)) (by rw [← hw]; rfl) ?_
        refine den_let1 (d := .b (!decide (c.height + 1 = bh))) rfl ?_
        refine den_ite rfl (fun h9 => ?_) (fun h9 => ?_)
        · have h9 : ¬ c.height + 1 = bh := by simpa using h9
          rw [if_pos (fun h => h9 h.symm)] at hst
          refine den_let1 (d := .b (!decide ((4 : Int) = 0))) rfl ?_
          refine den_ite rfl (fun h8 => ?_) (fun h8 => absurd h8 (by decide))
          exact den_ret rfl (hfail 4 (by decide) (by rw [hlow, hst]; rfl))
        · have h9 : c.height + 1 = bh := by simpa using h9
          rw [if_neg (fun h => h h9.symm)] at hst
          refine den_let1 (d := .b (decide (i < 0))) rfl ?_
          refine den_ite rfl (fun h8 => absurd (of_decide_eq_true h8) (by omega)) (fun h8 => ?_)
          refine den_let1 (d := .b (!decide ((12 : Int) = 0))) rfl ?_
          refine den_ite rfl (fun h8 => ?_) (fun h8 => absurd h8 (by decide))
          exact den_ret rfl (hfail 12 (by decide) (by rw [hlow, hst, h24]; rfl))
      · have h6 : bp = 0 := by simpa using h6
        subst h6
        rw [if_pos rfl] at hst
        refine den_let1 (d := .b (decide (0 ≤ idx ns 0))) rfl ?_
        refine den_ite rfl (fun h7 => absurd (of_decide_eq_true h7) hidx0) (fun h7 => ?_)
        refine den_let1 (d := .b (decide (idx ns 0 < 0))) rfl ?_
        refine den_ite rfl (fun h8 => ?_) (fun h8 => absurd (of_decide_eq_false h8) (by omega))
        refine den_let1 (d := .b (!decide (bh = 1))) rfl ?_
        refine den_ite rfl (fun h9 => ?_) (fun h9 => ?_)
        · have h9 : ¬ bh = 1 := by simpa using h9
          rw [if_pos h9] at hst
          refine den_let1 (d := .b (!decide ((4 : Int) = 0))) rfl ?_
          refine den_ite rfl (fun h8 => ?_) (fun h8 => absurd h8 (by decide))
          exact den_ret rfl (hfail 4 (by decide) (by rw [hlow, hst]; rfl))
        · have h9 : bh = 1 := by simpa using h9
          rw [if_neg (fun h => h h9)] at hst
          refine den_let1 (d := .b (!decide ((12 : Int) = 0))) rfl ?_
          refine den_ite rfl (fun h8 => ?_) (fun h8 => absurd h8 (by decide))
          exact den_ret rfl (hfail 12 (by decide) (by rw [hlow, hst, h24]; rfl))
    · have h4 := of_decide_eq_false h4
      rw [← hX] at h4
      have h24 : ¬ ns.length = 24 := fun h => h4 (if_pos h)
      rw [if_neg h24] at hX
      have hval : treeAddE ⟨ns, bs⟩ name b = X := by
        rw [← hX, hlow, if_neg (show ¬ (ns.length : Int) = 24 by omega)]
        split
        · rfl
        · split
          · rfl
          · rename_i h; simpa using (Decidable.not_not.1 h).symm
      refine den_let1 (d := .b (!decide (X = 0))) rfl ?_
      refine den_ite rfl (fun h5 => ?_) (fun h5 => ?_)
      · have h5 : ¬ X = 0 := by simpa using h5
        exact den_ret rfl (hfail _ h5 hval)
      · have h5 : X = 0 := by simpa using h5
        refine den_ret (ds := eTree ⟨ns ++ [name], bs ++ [b]⟩ ++ [I 0]) ?_ (hadd 0 ⟨ns ++ [name], bs ++ [b]⟩ (hval.trans h5) (by unfold treeAddT; rw [if_pos (hval.trans h5)]))
        show some [Dt.l 1 (ns.map eInt ++ [[I name]]), Dt.l 5 (bs.map eBlock ++ [[I bp, I bh, I bw, I bn, .l 3 (txs.map eTx)]]), I 0] = some [Dt.l 1 ((ns ++ [name]).map eInt), Dt.l 5 ((bs ++ [b]).map eBlock), I 0]
        rw [e1, e2]
  · have h3 : blkCheck b ≠ 0 := of_decide_eq_false h3
    refine den_let1 (d := .b (!decide (blkCheck b = 0))) rfl ?_
    refine den_ite rfl (fun h5 => ?_) (fun h5 => ?_)
    · exact den_ret rfl (hfail _ h3 (by simp [treeAddE, ht, nameBad, h1, h2, h3]))
    · have h5 : blkCheck b = 0 := by simpa using h5
      exact absurd h5 h3
end Go.Proofs.Ytnnbnjanekibpaa
namespace Go.Proofs.Ytnnbnjanekibpaa
open Go.RowKit
set_option linter.unusedVariables false
set_option maxRecDepth 100000
theorem rep_int {W : World} {F : Nat → Prop} {n : Int} {v : Value} (h : Rep W F (I n) v) : v = .int .i64 n ∧ I64 n := by
  obtain ⟨rfl, h1⟩ := rep_i h
  exact ⟨rfl, wrap_i64' h1⟩
theorem mGrown : Meets Try.prog spGrown 38 ⟨[], [(false, [.scal])], true⟩ :=
  meets_scal2 rfl (en_of (fn := Try.f38) (by kernel_rfl) (by kernel_rfl) (by kernel_rfl)) (fun _ => rfl) fun x W F us hF h => by
    obtain rfl := pks_nil h
    exact (grown_c (Sep.start W F hF)).mono fun e w' h => ⟨_, h.1, h.2.below, .b _⟩
theorem mCheckBlock : Meets Try.prog spCheckBlock 83 ⟨[.agg 5], [(false, [.scal])], true⟩ :=
  meets_scal2 rfl (en_of (fn := Try.f83) (by kernel_rfl) (by kernel_rfl) (by kernel_rfl)) (fun _ => rfl) fun x W F us hF h => by
    obtain ⟨cs, rfl, hr⟩ := pks_agg' h
    exact (refBlk_c x cs (Sep.start1 hF (she_block.of hr)) At.z).mono fun e w' h => ⟨_, h.1, h.2.below, .i _ _ (wrap_i64 (er_blk x).i64)⟩
theorem mCheckTree : Meets Try.prog spCheckTree 46 ⟨[.agg 2], [(false, [.scal])], true⟩ :=
  meets_scal2 rfl (en_of (fn := Try.f46) (by kernel_rfl) (by kernel_rfl) (by kernel_rfl)) (fun _ => rfl) fun x W F us hF h => by
    obtain ⟨cs, rfl, hr⟩ := pks_agg' h
    exact (refTree_c x cs (Sep.start1 hF (she_tree.of hr)) At.z).mono fun e w' h => ⟨_, h.1, h.2.below, .i _ _ (wrap_i64 (er_tree x).i64)⟩
theorem mTreeCheck : Meets Try.prog spCheckTree 40 ⟨[.agg 2], [(false, [.scal])], true⟩ :=
  meets_scal2 rfl (en_of (fn := Try.f40) (by kernel_rfl) (by kernel_rfl) (by kernel_rfl)) (fun _ => rfl) fun x W F us hF h => by
    obtain ⟨cs, rfl, hr⟩ := pks_agg' h
    exact (treeCheck_any x cs W F (she_tree.of hr) hF).mono fun e w' h => ⟨_, h.1, h.2, .i _ _ (wrap_i64 (er_tree x).i64)⟩
theorem mContains : Meets Try.prog spContains 71 ⟨[.one, .one], [(false, [.scal])], true⟩ :=
  meets_scal2 rfl (en_of (fn := Try.f71) (by kernel_rfl) (by kernel_rfl) (by kernel_rfl)) (fun _ => rfl) fun x W F us hF h => by
    obtain ⟨v, us, rfl, h1, h⟩ := pks_one h
    obtain ⟨v2, us, rfl, h2, h⟩ := pks_one h
    obtain rfl := pks_nil h
    obtain ⟨A, n, c, rfl, k1⟩ := rep_rds she_int h1
    obtain ⟨rfl, k2⟩ := rep_int h2
    exact (contains_int x.1 x.2 A n c W F k1).mono fun e w' h => ⟨_, h.1, h.2 ▸ Below.refl _ _, .b _⟩
theorem idx_i64 {xs : List Int} {y : Int} (h : xs.length ≤ 9223372036854775807) : -9223372036854775808 ≤ idx xs y ∧ idx xs y ≤ 9223372036854775807 := by
  have := idx_bd xs y
  omega
theorem mIndex : Meets Try.prog spIndex 50 ⟨[.one, .one], [(false, [.scal])], true⟩ :=
  meets_scal2 rfl (en_of (fn := Try.f50) (by kernel_rfl) (by kernel_rfl) (by kernel_rfl)) (fun _ => rfl) fun x W F us hF h => by
    obtain ⟨v, us, rfl, h1, h⟩ := pks_one h
    obtain ⟨v2, us, rfl, h2, h⟩ := pks_one h
    obtain rfl := pks_nil h
    obtain ⟨A, n, c, rfl, k1⟩ := rep_rds she_int h1
    obtain ⟨rfl, k2⟩ := rep_int h2
    have hl : x.1.length ≤ 9223372036854775807 := by have := k1.1; have := k1.2.1; have := k1.2.2.1; omega
    exact (index_int x.1 x.2 A n c W F k1).mono fun e w' h => ⟨_, h.1, h.2 ▸ Below.refl _ _, .i _ _ (wrap_i64 (idx_i64 hl))⟩
theorem mCloneI : Meets Try.prog spCloneI 87 ⟨[.one], [(false, [.fresh 3 1])], false⟩ :=
  meets_clone (xs := fun x : { l : List Int // l.length ≤ 1000000 } => x.1) she_int rfl rfl (by decide) (en_of (fn := Try.f87) (by kernel_rfl) (by kernel_rfl) (by kernel_rfl)) fun x W F us hF h => by
    obtain ⟨v, us, rfl, h1, h⟩ := pks_one h
    obtain rfl := pks_nil h
    obtain ⟨A, n, c, rfl, k1⟩ := rep_rds she_int h1
    have := x.2
    have := k1.1
    exact (clone_int x.1 A n c W F k1 hF (by omega)).mono fun r W' h => ⟨n, h⟩
theorem mCloneB : Meets Try.prog spCloneB 88 ⟨[.one], [(false, [.fresh 66 5])], false⟩ :=
  meets_clone (xs := fun x : { l : List Block // l.length ≤ 1000000 } => x.1) she_block rfl rfl (by decide) (en_of (fn := Try.f88) (by kernel_rfl) (by kernel_rfl) (by kernel_rfl)) fun x W F us hF h => by
    obtain ⟨v, us, rfl, h1, h⟩ := pks_one h
    obtain rfl := pks_nil h
    obtain ⟨A, n, c, rfl, k1⟩ := rep_rds she_block h1
    have := x.2
    have := k1.1
    exact (clone_block x.1 A n c W F k1 hF (by omega)).mono fun r W' h => ⟨n, h⟩
theorem scal_tree (x : Tree) (j : Nat) (d : Dt) (h : ([.pure, .pure] : List CF)[j]? = some .scal) (hd : (eTree x)[j]? = some d) : d.scal = true := by
  match j, h with
  | 0, h => cases h
  | 1, h => cases h
  | j + 2, h => simp at h
theorem scal_block (x : Block) (j : Nat) (d : Dt) (h : ([.scal, .scal, .scal, .scal, .pure] : List CF)[j]? = some .scal) (hd : (eBlock x)[j]? = some d) : d.scal = true := by
  match j, h, hd with
  | 0, h, hd => simp only [eBlock, List.getElem?_cons_zero, Option.some.injEq] at hd; subst hd; rfl
  | 1, h, hd => simp only [eBlock, List.getElem?_cons_zero, List.getElem?_cons_succ, Option.some.injEq] at hd; subst hd; rfl
  | 2, h, hd => simp only [eBlock, List.getElem?_cons_zero, List.getElem?_cons_succ, Option.some.injEq] at hd; subst hd; rfl
  | 3, h, hd => simp only [eBlock, List.getElem?_cons_zero, List.getElem?_cons_succ, Option.some.injEq] at hd; subst hd; rfl
  | 4, h, hd => cases h
  | j + 5, h, hd => simp at h
abbrev eAdd0 (x : Tree × Int × Block) : List Dt := eTree x.1 ++ ([I x.2.1] ++ eBlock x.2.2)
abbrev eTN (x : Tree × Int) : List Dt := eTree x.1 ++ [I x.2]
noncomputable def spAdd : Spec := specOf eAdd0 fun x => eTree (treeAddT x.1 x.2.1 x.2.2) ++ [I (treeAddE x.1 x.2.1 x.2.2)]
noncomputable def spBlock : Spec := specOf eTN fun x => eBlock (pBlock x.1 x.2) ++ [I (pBlockE x.1 x.2)]
abbrev e2T (x : Tree × Tree) : List Dt := eTree x.1 ++ eTree x.2
abbrev e2B (x : Block × Block) : List Dt := eBlock x.1 ++ eBlock x.2
noncomputable def spSameTree : Spec := specOf e2T fun x => [.b (decide (x.1 = x.2))]
noncomputable def spSameBlock : Spec := specOf e2B fun x => [.b (decide (x.1 = x.2))]
theorem mAdd : Meets Try.prog spAdd 42 ⟨[.agg 2, .one, .agg 5], [(true, [.pure, .pure]), (false, [.scal])], false⟩ :=
  meets_RSE she_tree rfl (en_of (fn := Try.f42) (by kernel_rfl) (by kernel_rfl) (by kernel_rfl)) (by simp) rfl scal_tree (fun x => (er_treeAdd ..).i64) fun x W F us hF h => by
    obtain ⟨cs, us, rfl, h1, h⟩ := pks_agg h rfl
    obtain ⟨v2, us, rfl, h2, h⟩ := pks_one h
    obtain ⟨cb, rfl, h3⟩ := pks_agg' h
    obtain ⟨rfl, k2⟩ := rep_int h2
    exact ⟨_, treeAdd_c x.1 cs x.2.1 x.2.2 cb (sep_two hF (she_tree.of h1) (she_block.of h3)) At.z (At.s At.z) k2⟩
theorem mBlock : Meets Try.prog spBlock 45 ⟨[.agg 2, .one], [(true, [.scal, .scal, .scal, .scal, .pure]), (false, [.scal])], false⟩ :=
  meets_RSE she_block rfl (en_of (fn := Try.f45) (by kernel_rfl) (by kernel_rfl) (by kernel_rfl)) (by simp) rfl scal_block (fun x => (er_ite (er_tree _) (er_ite (er_lit _ rfl) (er_lit _ rfl))).i64) fun x W F us hF h => by
    obtain ⟨cs, us, rfl, h1, h⟩ := pks_agg h rfl
    obtain ⟨v2, us, rfl, h2, h⟩ := pks_one h
    obtain rfl := pks_nil h
    obtain ⟨rfl, k2⟩ := rep_int h2
    exact ⟨_, Block_c x.1 cs x.2 (Sep.start1 hF (she_tree.of h1)) At.z⟩
theorem mSameTree : Meets Try.prog spSameTree 47 ⟨[.agg 2, .agg 2], [(false, [.scal])], true⟩ :=
  meets_scal2 rfl (en_of (fn := Try.f47) (by kernel_rfl) (by kernel_rfl) (by kernel_rfl)) (fun _ => rfl) fun x W F us hF h => by
    obtain ⟨cs, us, rfl, h1, h⟩ := pks_agg h rfl
    obtain ⟨cb, rfl, h3⟩ := pks_agg' h
    exact (refSameTree_c x.1 x.2 cs cb (sep_two hF (she_tree.of h1) (she_tree.of h3)) At.z (At.s At.z)).mono fun e w' h => ⟨_, h.1, h.2.below, .b _⟩
theorem mSameBlock : Meets Try.prog spSameBlock 48 ⟨[.agg 5, .agg 5], [(false, [.scal])], true⟩ :=
  meets_scal2 rfl (en_of (fn := Try.f48) (by kernel_rfl) (by kernel_rfl) (by kernel_rfl)) (fun _ => rfl) fun x W F us hF h => by
    obtain ⟨cs, us, rfl, h1, h⟩ := pks_agg h rfl
    obtain ⟨cb, rfl, h3⟩ := pks_agg' h
    exact (refSameBlk_c x.1 x.2 cs cb (sep_two hF (she_block.of h1) (she_block.of h3)) At.z (At.s At.z)).mono fun e w' h => ⟨_, h.1, h.2.below, .b _⟩
end Go.Proofs.Ytnnbnjanekibpaa
namespace Go.Proofs.Ytnnbnjanekibpaa
open Go.RowKit
set_option linter.unusedVariables false
set_option linter.unusedSimpArgs false
set_option maxRecDepth 100000
def tTreeAdd : T :=
  .lets [.call 4 [.v 0, .v 1, .v 2, .v 3, .v 4, .v 5, .v 6, .v 7] 0, .call 4 [.v 0, .v 1, .v 2, .v 3, .v 4, .v 5, .v 6, .v 7] 1, .call 4 [.v 0, .v 1, .v 2, .v 3, .v 4, .v 5, .v 6, .v
    7] 2] [] (.lets [.call 8 [.v 0, .v 1, .v 8] 0, .call 8 [.v 0, .v 1, .v 8] 1, .call 8 [.v 0, .v 1, .v 8] 2, .call 8 [.v 0, .v 1, .v 8] 3, .call 8 [.v 0, .v 1, .v 8] 4, .call 8 [.v 0,
    .v 1, .v 8] 5] [] (.lets [.call 1 [.v 0, .v 1] 0] [] (.lets [.call 0 [] 0] [] (.lets [.not (.v 19)] [] (.ite (.v 20) (.ret [.c (.b false)]) (.lets [.call 3 [.v 0, .v 1] 0] [] (.lets
    [.bin .neq (.v 21) (.v 18)] [] (.ite (.v 22) (.ret [.c (.b false)]) (.lets [.bin .neq (.v 18) (.c (.i .i64 0))] [] (.ite (.v 23) (.lets [.bin .eql (.v 11) (.v 18)] [] (.ite (.v 24)
    (.lets [.bin .eql (.v 17) (.v 18)] [] (.ite (.v 25) (.lets [.call 6 [.v 9, .v 10, .c (.nil 1), .c (.nil 5)] 0] [] (.ite (.v 26) (.lets [.call 7 [.v 12, .v 13, .v 14, .v 15, .v 16,
    .c (.i .i64 0), .c (.i .i64 0), .c (.i .i64 0), .c (.i .i64 0), .c (.nil 3)] 0] [] (.ret [.v 27])) (.ret [.c (.b false)]))) (.ret [.c (.b false)]))) (.ret [.c (.b false)]))) (.lets
    [.call 5 [.v 0, .v 1, .v 2, .v 3, .v 4, .v 5, .v 6, .v 7] 0, .call 5 [.v 0, .v 1, .v 2, .v 3, .v 4, .v 5, .v 6, .v 7] 1, .call 5 [.v 0, .v 1, .v 2, .v 3, .v 4, .v 5, .v 6, .v 7] 2]
    [] (.lets [.bin .neq (.v 11) (.v 26)] [] (.ite (.v 27) (.ret [.c (.b false)]) (.lets [.call 6 [.v 9, .v 10, .v 24, .v 25] 0] [] (.lets [.not (.v 28)] [] (.ite (.v 29) (.ret [.c (.b
    false)]) (.lets [.call 2 [.v 0, .v 8] 0] [] (.lets [.bin .lss (.v 30) (.c (.i .i64 0))] [] (.ite (.v 31) (.lets [.bin .eql (.v 17) (.c (.i .i64 5))] [] (.ite (.v 32) (.lets [.call 7
    [.v 12, .v 13, .v 14, .v 15, .v 16, .c (.i .i64 0), .c (.i .i64 0), .c (.i .i64 0), .c (.i .i64 0), .c (.nil 3)] 0] [] (.ret [.v 33])) (.ret [.c (.b false)]))) (.lets [.bin .eql (.v
    17) (.c (.i .i64 0))] [] (.ite (.v 32) (.lets [] [.inr 5 (.v 1) (.v 30)] (.lets [.idx (.v 1) (.v 30) 0, .idx (.v 1) (.v 30) 1, .idx (.v 1) (.v 30) 2, .idx (.v 1) (.v 30) 3, .idx (.v
    1) (.v 30) 4] [] (.lets [.call 7 [.v 12, .v 13, .v 14, .v 15, .v 16, .v 33, .v 34, .v 35, .v 36, .v 37] 0] [] (.ret [.v 38])))) (.ret [.c (.b false)]))))))))))))))))))))))
noncomputable def spAdded : Spec := specOf eAdd fun x => eTree (treeAddT x.1.1 x.1.2.1 x.1.2.2) ++ [I (treeAddE x.1.1 x.1.2.1 x.1.2.2)]
noncomputable def spsLaw (ci : Nat) : Spec := [spGrown, spCheckTree, spIndex, spCheckTree, spAdd, spAdded, spSameTree, spSameBlock, spBlock].getD ci fun _ => none
theorem eAdd0_inj (x y : Tree × Int × Block) (h : eAdd0 x = eAdd0 y) : x = y := by
  obtain ⟨⟨a, k⟩, n, p, q, r, s, l⟩ := x
  obtain ⟨⟨a', k'⟩, n', p', q', r', s', l'⟩ := y
  simp only [eAdd0, eTree, eBlock, List.cons_append, List.nil_append, List.cons.injEq, Dt.i.injEq, true_and, Dt.l.injEq, and_true] at h
  obtain ⟨h1, h2, rfl, rfl, rfl, rfl, rfl, h3⟩ := h
  rw [map_inj eInt_inj h1, map_inj eBlock_inj h2, map_inj eTx_inj h3]
theorem eTN_inj (x y : Tree × Int) (h : eTN x = eTN y) : x = y := by
  obtain ⟨⟨a, k⟩, n⟩ := x
  obtain ⟨⟨a', k'⟩, n'⟩ := y
  simp only [eTN, eTree, List.cons_append, List.nil_append, List.cons.injEq, Dt.i.injEq, true_and, Dt.l.injEq, and_true] at h
  obtain ⟨h1, h2, rfl⟩ := h
  rw [map_inj eInt_inj h1, map_inj eBlock_inj h2]
theorem e2T_inj (x y : Tree × Tree) (h : e2T x = e2T y) : x = y := by
  obtain ⟨h1, h2⟩ := List.append_inj h rfl
  exact Prod.ext (eTree_inj _ _ h1) (eTree_inj _ _ h2)
theorem e2B_inj (x y : Block × Block) (h : e2B x = e2B y) : x = y := by
  obtain ⟨h1, h2⟩ := List.append_inj h rfl
  exact Prod.ext (eBlock_inj _ _ h1) (eBlock_inj _ _ h2)
theorem spGrown_at : spGrown [] = some [.b true] := specOf_at (e := fun _ : Unit => []) (fun _ _ _ => rfl) ()
theorem spAdd_at (t : Tree) (n : Int) (b : Block) : spAdd (eTree t ++ ([I n] ++ eBlock b)) = some (eTree (treeAddT t n b) ++ [I (treeAddE t n b)]) := specOf_at (e := eAdd0) eAdd0_inj (t, n, b)
theorem spAdded_at (t : Tree) (n : Int) (b : Block) (h : treeCheck t = 0) : spAdded (eTree t ++ ([I n] ++ eBlock b)) = some (eTree (treeAddT t n b) ++ [I (treeAddE t n b)]) :=
  specOf_at (e := eAdd) (fun x y h => Subtype.ext (eAdd0_inj x.1 y.1 h)) ⟨(t, n, b), h⟩
theorem spBlock_at (t : Tree) (n : Int) : spBlock (eTree t ++ [I n]) = some (eBlock (pBlock t n) ++ [I (pBlockE t n)]) := specOf_at (e := eTN) eTN_inj (t, n)
theorem spSameTree_at (t u : Tree) : spSameTree (eTree t ++ eTree u) = some [.b (decide (t = u))] := specOf_at (e := e2T) e2T_inj (t, u)
theorem spSameBlock_at (t u : Block) : spSameBlock (eBlock t ++ eBlock u) = some [.b (decide (t = u))] := specOf_at (e := e2B) e2B_inj (t, u)
theorem den_calls' {sp : Nat → Spec} {E : Env} {ci : Nat} {args : List Atom} {xs : List X} {ds rs : List Dt} (hx : xs = (List.range rs.length).map fun j => .call ci args j) (h : vals E args = some ds) (hs : sp ci ds = some rs) : denXs sp E xs = some rs := hx ▸ den_calls h hs
attribute [local irreducible] specOf
set_option maxHeartbeats 4000000 in
theorem law_den (t : Tree) (name : Int) (b : Block) (which : Int) : den spsLaw 1 tTreeAdd (eTree t ++ ([I name] ++ (eBlock b ++ [I which]))) [] = some [.b true] := by
  obtain ⟨ns, bs⟩ := t
  obtain ⟨bp, bh, bw, bn, txs⟩ := b
  have hA := spAdd_at ⟨ns, bs⟩ name ⟨bp, bh, bw, bn, txs⟩
  have hB := spBlock_at ⟨ns, bs⟩ which
  have hC := spCheckTree_at ns bs
  have hD := spAdded_at ⟨ns, bs⟩ name ⟨bp, bh, bw, bn, txs⟩
  have hI := spIndex_at ns which
  have kA : treeCheck ⟨ns, bs⟩ ≠ 0 → treeAddE ⟨ns, bs⟩ name ⟨bp, bh, bw, bn, txs⟩ = treeCheck ⟨ns, bs⟩ ∧ treeAddT ⟨ns, bs⟩ name ⟨bp, bh, bw, bn, txs⟩ = ⟨[], []⟩ := fun h => by
    have e : treeAddE ⟨ns, bs⟩ name ⟨bp, bh, bw, bn, txs⟩ = treeCheck ⟨ns, bs⟩ := by unfold treeAddE; rw [if_pos h]
    refine ⟨e, ?_⟩
    unfold treeAddT; rw [e, if_neg h]
  have kB : treeCheck ⟨ns, bs⟩ ≠ 0 → pBlockE ⟨ns, bs⟩ which = treeCheck ⟨ns, bs⟩ ∧ pBlock ⟨ns, bs⟩ which = zBlock := fun h => by
    have e : pBlockE ⟨ns, bs⟩ which = treeCheck ⟨ns, bs⟩ := by unfold pBlockE; rw [if_pos h]
    refine ⟨e, ?_⟩
    unfold pBlock; rw [e, if_neg h]
  have kC : treeCheck ⟨ns, bs⟩ = 0 → idx ns which < 0 → pBlockE ⟨ns, bs⟩ which = 5 ∧ pBlock ⟨ns, bs⟩ which = zBlock := fun h h' => by
    have e : pBlockE ⟨ns, bs⟩ which = 5 := by unfold pBlockE; rw [if_neg (fun h0 => h0 h), if_pos h']
    refine ⟨e, ?_⟩
    unfold pBlock; rw [e, if_neg (by decide)]
  have kD : treeCheck ⟨ns, bs⟩ = 0 → ¬ idx ns which < 0 → pBlockE ⟨ns, bs⟩ which = 0 ∧ pBlock ⟨ns, bs⟩ which = blkAt bs (idx ns which) ∧ ∃ j : Nat, idx ns which = j ∧ bs[j]? = some (blkAt bs (idx ns which)) := fun h h' => by
    have e : pBlockE ⟨ns, bs⟩ which = 0 := by unfold pBlockE; rw [if_neg (fun h0 => h0 h), if_neg h']
    refine ⟨e, ?_, ?_⟩
    · unfold pBlock; rw [e, if_pos rfl]
    · obtain ⟨j, hj, hjs⟩ := idx_at (show 0 ≤ idx ns which by omega)
      have hjl := (List.getElem?_eq_some_iff.1 hjs).1
      have hlen := ((treeCheck_iff ns bs).1 h).len
      have hjb : j < bs.length := by omega
      exact ⟨j, hj, by rw [hj]; simp [blkAt, hjb]⟩
  generalize treeAddT ⟨ns, bs⟩ name ⟨bp, bh, bw, bn, txs⟩ = u at *
  generalize treeAddE ⟨ns, bs⟩ name ⟨bp, bh, bw, bn, txs⟩ = e at *
  generalize pBlock ⟨ns, bs⟩ which = c at *
  generalize pBlockE ⟨ns, bs⟩ which = f at *
  generalize treeCheck ⟨ns, bs⟩ = bad at *
  obtain ⟨uns, ubs⟩ := u
  obtain ⟨cp, ch, cw, cn, ctxs⟩ := c
  generalize hk : idx ns which = k at *
  have hST := spSameTree_at ⟨uns, ubs⟩
  have hSB := spSameBlock_at ⟨cp, ch, cw, cn, ctxs⟩
  show den spsLaw 1 tTreeAdd [.l 1 (ns.map eInt), .l 5 (bs.map eBlock), I name, I bp, I bh, I bw, I bn, .l 3 (txs.map eTx), I which] [] = some [.b true]
  unfold tTreeAdd
  refine den_lets (ds := [.l 1 (uns.map eInt), .l 5 (ubs.map eBlock), I e]) (den_calls' (ci := 4) rfl rfl hA) ?_
  refine den_lets (ds := [I cp, I ch, I cw, I cn, .l 3 (ctxs.map eTx), I f]) (den_calls' (ci := 8) rfl rfl hB) ?_
  refine den_let1 (den_call rfl hC rfl) ?_
  refine den_let1 (den_call rfl spGrown_at rfl) ?_
  refine den_let1 (d := .b false) rfl ?_
  refine den_ite rfl (fun h => absurd h (by decide)) (fun _ => ?_)
  refine den_let1 (den_call rfl hC rfl) ?_
  refine den_let1 (d := .b (!decide (bad = bad))) rfl ?_
  refine den_ite rfl (fun h => absurd h (by simp)) (fun _ => ?_)
  refine den_let1 (d := .b (!decide (bad = 0))) rfl ?_
  refine den_ite rfl (fun h => ?_) (fun h => ?_)
  · have h : bad ≠ 0 := by simpa using h
    obtain ⟨rfl, hu⟩ := kA h
    obtain ⟨rfl, hc⟩ := kB h
    refine den_let1 (d := .b (decide (f = f))) rfl ?_
    refine den_ite rfl (fun _ => ?_) (fun h => absurd h (by simp))
    refine den_let1 (d := .b (decide (f = f))) rfl ?_
    refine den_ite rfl (fun _ => ?_) (fun h => absurd h (by simp))
    refine den_let1 (den_call rfl (hST ⟨[], []⟩) rfl) ?_
    refine den_ite rfl (fun _ => ?_) (fun h => absurd h (by rw [hu]; simp))
    refine den_let1 (den_call rfl (hSB zBlock) rfl) ?_
    exact den_ret rfl (by rw [hc]; simp)
  · have h : bad = 0 := by simpa using h
    refine den_lets (ds := [.l 1 (uns.map eInt), .l 5 (ubs.map eBlock), I e]) (den_calls' (ci := 5) rfl rfl (hD h)) ?_
    refine den_let1 (d := .b (!decide (e = e))) rfl ?_
    refine den_ite rfl (fun h => absurd h (by simp)) (fun _ => ?_)
    refine den_let1 (den_call rfl (hST ⟨uns, ubs⟩) rfl) ?_
    refine den_let1 (d := .b false) rfl ?_
    refine den_ite rfl (fun h => absurd h (by simp)) (fun _ => ?_)
    refine den_let1 (den_call rfl hI rfl) ?_
    refine den_let1 (d := .b (decide (k < 0))) rfl ?_
    refine den_ite rfl (fun h' => ?_) (fun h' => ?_)
    · obtain ⟨rfl, hc⟩ := kC h (of_decide_eq_true h')
      refine den_let1 (d := .b (decide ((5 : Int) = 5))) rfl ?_
      refine den_ite rfl (fun _ => ?_) (fun h => absurd h (by simp))
      refine den_let1 (den_call rfl (hSB zBlock) rfl) ?_
      exact den_ret rfl (by rw [hc]; simp)
    · obtain ⟨rfl, hc, j, hkj, hj⟩ := kD h (of_decide_eq_false h')
      have hlt := (List.getElem?_eq_some_iff.1 hj).1
      have hi0 : 0 ≤ k := by omega
      have hi1 : k < (bs.map eBlock).length := by simp; omega
      refine den_let1 (d := .b (decide ((0 : Int) = 0))) rfl ?_
      refine den_ite rfl (fun _ => ?_) (fun h => absurd h (by simp))
      refine den_ck (hold_inr rfl rfl hi0 hi1) ?_
      generalize blkAt bs k = x at *
      have hx : (bs.map eBlock)[k.toNat]? = some (eBlock x) := by rw [List.getElem?_map, show k.toNat = j by omega, hj]; rfl
      refine den_lets (ds := eBlock x) (denXs_cons (den_idx rfl rfl hi0 hx rfl) (denXs_cons (den_idx rfl rfl hi0 hx rfl) (denXs_cons (den_idx rfl rfl hi0 hx rfl) (denXs_cons (den_idx rfl rfl hi0 hx rfl) (denXs_cons (den_idx rfl rfl hi0 hx rfl) denXs_nil))))) ?_
      refine den_let1 (den_call rfl (hSB x) rfl) ?_
      exact den_ret rfl (by rw [hc]; simp)
end Go.Proofs.Ytnnbnjanekibpaa
namespace Go.Proofs.Ytnnbnjanekibpaa
open Go.RowKit
set_option linter.unusedVariables false
set_option maxRecDepth 100000
def sigsAdded : List (Nat × Sig) := [(38, ⟨[], [(false, [.scal])], true⟩), (83, ⟨[.agg 5], [(false, [.scal])], true⟩), (46, ⟨[.agg 2], [(false, [.scal])], true⟩), (71, ⟨[.one, .one], [(false, [.scal])], true⟩), (50, ⟨[.one, .one], [(false, [.scal])], true⟩), (87, ⟨[.one], [(false, [.fresh 3 1])], false⟩), (88, ⟨[.one], [(false, [.fresh 66 5])], false⟩)]
def sigsLaw : List (Nat × Sig) := [(38, ⟨[], [(false, [.scal])], true⟩), (46, ⟨[.agg 2], [(false, [.scal])], true⟩), (50, ⟨[.one, .one], [(false, [.scal])], true⟩), (40, ⟨[.agg 2], [(false, [.scal])], true⟩), (42, ⟨[.agg 2, .one, .agg 5], [(true, [.pure, .pure]), (false, [.scal])], false⟩), (49, ⟨[.agg 2, .one, .agg 5], [(true, [.pure, .pure]), (false, [.scal])], false⟩), (47, ⟨[.agg 2, .agg 2], [(false, [.scal])], true⟩), (48, ⟨[.agg 5, .agg 5], [(false, [.scal])], true⟩), (45, ⟨[.agg 2, .one], [(true, [.scal, .scal, .scal, .scal, .pure]), (false, [.scal])], false⟩)]
theorem scalOk_last {pk : List PK} {fs : List CF} {l : Bool} {d1 : List Dt} {d : Dt} (hf : ∀ c ∈ fs, c = .pure) (hl : d1.length = fs.length) (hd : d.scal = true) : scalOk ⟨pk, [(true, fs), (false, [.scal])], l⟩ (d1 ++ [d]) := by
  intro i x hi hx
  have hcf : cfsOf ⟨pk, [(true, fs), (false, [.scal])], l⟩ = fs ++ [.scal] := by simp [cfsOf]
  rw [hcf] at hi
  by_cases hlt : i < fs.length
  · rw [List.getElem?_append_left hlt] at hi
    cases hf _ (List.mem_of_getElem? hi)
  · rw [List.getElem?_append_right (by omega)] at hx
    cases hk : i - d1.length with
    | zero => rw [hk] at hx; simp only [List.getElem?_cons_zero, Option.some.injEq] at hx; subst hx; exact hd
    | succ k => rw [hk] at hx; simp at hx
theorem mAdded : Meets Try.prog spAdded 49 ⟨[.agg 2, .one, .agg 5], [(true, [.pure, .pure]), (false, [.scal])], false⟩ := by
  refine meets_dec (sp := spsAdded) (sigs := sigsAdded) (cut := []) (hints := []) (fn := Try.f49) (t := tAdded) (by kernel_rfl) (by kernel_rfl) (by kernel_rfl) ?_ ?_
  · exact sig_cons mGrown (sig_cons mCheckBlock (sig_cons mCheckTree (sig_cons mContains (sig_cons mIndex (sig_cons mCloneI (sig_cons mCloneB sig_nil))))))
  · rintro ds rs - h
    obtain ⟨x, rfl, rfl⟩ := specOf_some h
    exact ⟨⟨1, added_den x.1.1 x.1.2.1 x.1.2.2 x.2⟩, scalOk_last (by simp) rfl rfl⟩
abbrev eLaw (x : Tree × Int × Block × Int) : List Dt := eTree x.1 ++ ([I x.2.1] ++ (eBlock x.2.2.1 ++ [I x.2.2.2]))
noncomputable def spLaw : Spec := specOf eLaw fun _ => [.b true]
theorem eLaw_inj (x y : Tree × Int × Block × Int) (h : eLaw x = eLaw y) : x = y := by
  obtain ⟨⟨a, k⟩, n, ⟨p, q, r, s, l⟩, m⟩ := x
  obtain ⟨⟨a', k'⟩, n', ⟨p', q', r', s', l'⟩, m'⟩ := y
  simp only [eLaw, eTree, eBlock, List.cons_append, List.nil_append, List.cons.injEq, Dt.i.injEq, true_and, Dt.l.injEq, and_true] at h
  obtain ⟨h1, h2, rfl, rfl, rfl, rfl, rfl, h3, rfl⟩ := h
  rw [map_inj eInt_inj h1, map_inj eBlock_inj h2, map_inj eTx_inj h3]
theorem mLaw : Meets Try.prog spLaw 12 ⟨[.agg 2, .one, .agg 5, .one], [(false, [.scal])], true⟩ := by
  refine meets_dec (sp := spsLaw) (sigs := sigsLaw) (cut := []) (hints := []) (fn := Try.f12) (t := tTreeAdd) (by kernel_rfl) (by kernel_rfl) (by kernel_rfl) ?_ ?_
  · exact sig_cons mGrown (sig_cons mCheckTree (sig_cons mIndex (sig_cons mTreeCheck (sig_cons mAdd (sig_cons mAdded (sig_cons mSameTree (sig_cons mSameBlock (sig_cons mBlock sig_nil))))))))
  · rintro ds rs - h
    obtain ⟨x, rfl, rfl⟩ := specOf_some h
    refine ⟨⟨1, law_den x.1 x.2.1 x.2.2.1 x.2.2.2⟩, ?_⟩
    intro i d hi hd
    cases i with
    | zero => simp only [List.getElem?_cons_zero, Option.some.injEq] at hd; subst hd; rfl
    | succ i => simp at hd
theorem treeAdd_walk (t : Tree) (cs : List Value) (name : Int) (b : Block) (cb : List Value) (which : Int) (w : World) (ht : shTree.rep w (Lt w.heap.size) t cs) (a0 : -9223372036854775808 ≤ name) (a1 : name ≤ 9223372036854775807) (hb : shBlock.rep w (Lt w.heap.size) b cb) (c0 : -9223372036854775808 ≤ which) (c1 : which ≤ 9223372036854775807) :
    Calls Try.prog 12 #[.agg cs.toArray, .int .i64 name, .agg cb.toArray, .int .i64 which] w fun e w' => e = .returned (.bool true) ∧ Below w.heap.size w w' :=
  meets_calls (F := Lt w.heap.size) (us := [.agg cs.toArray, .int .i64 name, .agg cb.toArray, .int .i64 which]) rfl (en_of (fn := Try.f12) (by kernel_rfl) (by kernel_rfl) (by kernel_rfl)) mLaw (fun _ h => h) (specOf_at (e := eLaw) eLaw_inj (t, name, b, which))
    (pks_mk_agg (d1 := eTree t) (d2 := [I name] ++ (eBlock b ++ [I which])) (she_tree.to ht) rfl (pks_mk_one (d := I name) (ds := eBlock b ++ [I which]) (.i _ _ (wrap_i64 ⟨a0, a1⟩)) (pks_mk_agg (d1 := eBlock b) (d2 := [I which]) (she_block.to hb) rfl (pks_mk_one (.i _ _ (wrap_i64 ⟨c0, c1⟩)) pks_mk_nil))))
end Go.Proofs.Ytnnbnjanekibpaa
