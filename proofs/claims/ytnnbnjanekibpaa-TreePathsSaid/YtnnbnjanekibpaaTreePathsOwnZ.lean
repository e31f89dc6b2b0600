/- Own texts, put together by wip/bundle.py: VdW, VEr, VAdd1, VAdd2, VP1, VP2, VSort, VP3, VP4. -/
import Derived.Test.YtnnbnjanekibpaaProg
import Derived.KernelRfl
import Derived.Test.YtnnbnjanekibpaaShelf2
import Derived.Test.YtnnbnjanekibpaaTreePathsOwnB2
import Derived.Test.YtnnbnjanekibpaaTreePathsOwnC2
import Derived.Test.YtnnbnjanekibpaaTreePathsOwnR
import Derived.Test.YtnnbnjanekibpaaTreePathsOwnS
import Derived.Test.YtnnbnjanekibpaaTreePathsOwnT
import Derived.Test.YtnnbnjanekibpaaTreePathsOwnV2
namespace Go.Proofs.Ytnnbnjanekibpaa
open Go.RowKit
set_option linter.unusedVariables false
def tyTab : TyTab := [(3, ⟨1, false, [.i .i64 0], [], false, none, some .i64⟩), (5, ⟨1, false, [.i .u8 0], [], false, none, some .u8⟩), (4, ⟨1, false, [.b false], [], false, none, none⟩), (9, ⟨1, false, [.s []], [], false, none, none⟩), (22, ⟨1, false, [.i .i64 0], [], false, none, some .i64⟩), (24, ⟨1, false, [.nil 1], [], false, some (3, 1, 8), none⟩), (23, ⟨1, false, [.nil 1], [], false, some (22, 1, 8), none⟩), (37, ⟨1, false, [.nil 1], [], false, some (9, 1, 16), none⟩), (89, ⟨1, false, [.nil 2], [], false, some (108, 2, 16), none⟩), (167, ⟨1, false, [.nil 2], [], false, some (88, 2, 16), none⟩), (78, ⟨1, false, [.nil 3], [], false, some (91, 3, 40), none⟩), (79, ⟨1, false, [.nil 2], [], false, some (98, 2, 32), none⟩), (64, ⟨1, false, [.nil 3], [], false, some (81, 3, 56), none⟩), (77, ⟨1, false, [.nil 6], [], false, some (100, 6, 64), none⟩), (54, ⟨1, false, [.nil 5], [], false, some (66, 5, 56), none⟩), (108, ⟨2, true, [.i .i64 0, .i .i64 0], [(0, 1), (1, 1)], true, none, none⟩), (88, ⟨2, true, [.i .i64 0, .i .i64 0], [(0, 1), (1, 1)], true, none, none⟩), (91, ⟨3, true, [.i .i64 0, .i .i64 0, .nil 2], [(0, 2), (2, 1)], false, none, none⟩), (98, ⟨2, true, [.i .i64 0, .nil 2], [(0, 1), (1, 1)], false, none, none⟩), (81, ⟨3, true, [.i .i64 0, .nil 3, .nil 2], [(0, 1), (1, 1), (2, 1)], false, none, none⟩), (39, ⟨1, true, [.nil 1], [(0, 1)], false, none, none⟩), (100, ⟨6, true, [.i .i64 0, .i .i64 0, .i .i64 0, .nil 2, .i .i64 0, .b false], [(0, 2), (2, 2), (4, 1), (5, 1)], false, none, none⟩), (83, ⟨1, true, [.nil 6], [(0, 1)], false, none, none⟩), (66, ⟨5, true, [.i .i64 0, .i .i64 0, .i .i64 0, .i .i64 0, .nil 3], [(0, 1), (1, 1), (2, 1), (3, 1), (4, 1)], false, none, none⟩), (56, ⟨2, true, [.nil 1, .nil 5], [(0, 1), (1, 1)], false, none, none⟩), (177, ⟨3, true, [.nil 1, .i .i64 0, .b false], [(0, 1), (1, 1), (2, 1)], false, none, none⟩), (175, ⟨1, false, [], [], false, none, none⟩)]
theorem tab_tyTab : tabB Try.prog tyTab = true := by kernel_rfl
theorem mixed_ok : Try.prog.follows .mixedOrders = true := by kernel_rfl
def fxOf (ty : TyTab) (sigs : List (Nat × Sig)) (fn : Func) (cut : List Nat) (hints : List Hint) (fns : List FnI) (dep : Nat) : Fx :=
  ⟨⟨ty, sigs, cut⟩, fn.ntmps, hints, fns, 4 * fn.ntmps + dep * 400, if dep = 0 then 4 * fn.ntmps + 10 else 4 * fn.ntmps + dep * 400 + 100, dep, 4⟩
theorem meets_dec {sp : Nat → Spec} {sigs : List (Nat × Sig)} {cut : List Nat} {hints : List Hint} {sig : Sig} {f : Nat} {fn : Func} {t : T} {spec : Spec} (hf : Try.prog.funcs[f]? = some fn) (hname : (fn.name == "runtime.NumGoroutine") = false)
    (hdec : decomp (fxOf tyTab sigs fn cut hints [] 0) sig fn = some t) (hsig : ∀ ci f s, sigs[ci]? = some (f, s) → Meets Try.prog (sp ci) f s) (hspec : ∀ ds rs, (∀ d ∈ ds, d.ok) → spec ds = some rs → (∃ N, den sp N t ds [] = some rs) ∧ scalOk sig rs) : Meets Try.prog spec f sig :=
  meets_of hf hname hdec tab_tyTab mixed_ok (fun g h => by cases h) hsig hspec
theorem en_of {P : Program} {f : Nat} {fn : Func} (h1 : P.funcs[f]? = some fn) (h2 : (fn.name == "runtime.NumGoroutine") = false) (h3 : fn.body.isSome = true) : En P f := by
  obtain ⟨c, hc⟩ := Option.isSome_iff_exists.1 h3
  exact ⟨fn, c, h1, h2, hc⟩
section
variable {P : Program} {W W' : World} {F F' : Nat → Prop}
theorem res_pure {s : Sig} {rs : List Dt} {v : Value} {us : List Value} (hv : ResV s.res v us) (hc : ∀ c ∈ cfsOf s, c = .scal ∨ c = .pure) (hs : ∀ (j : Nat) (d : Dt), (cfsOf s)[j]? = some .scal → rs[j]? = some d → d.scal = true)
    (hl : rs.length = (cfsOf s).length) (hr : Reps W' F' rs us) (hF' : ∀ b, F' b → F b ∨ (W.heap.size ≤ b ∧ b < W'.heap.size)) : ResR W F W' s rs v us F' where
  val := hv
  lrs := hl
  lus := by rw [← hr.len, hl]
  cells := fun j f d u hf hd hu => by
    obtain ⟨u', hu', hR⟩ := hr.get hd
    rw [hu] at hu'
    cases hu'
    rcases hc f (List.mem_of_getElem? hf) with rfl | rfl
    · exact ⟨hs j d hf hd, hR⟩
    · exact hR
  own := hF'
  apart := fun j e sz u b hf => by rcases hc _ (List.mem_of_getElem? hf) with h | h <;> cases h
  dj := fun j j' e sz e' sz' u u' b hf => by rcases hc _ (List.mem_of_getElem? hf) with h | h <;> cases h
theorem meets_pure {α : Type} {e d : α → List Dt} {s : Sig} {f : Nat} (hpk : isMine s.args = false) (hen : En P f) (hc : ∀ c ∈ cfsOf s, c = .scal ∨ c = .pure) (hs : ∀ (x : α) (j : Nat) (dd : Dt), (cfsOf s)[j]? = some .scal → (d x)[j]? = some dd → dd.scal = true)
    (hl : ∀ x, (d x).length = (cfsOf s).length)
    (h : ∀ x W F us, (∀ b, F b → b < W.heap.size) → PKRs W F s.args (e x) us → Calls P f us.toArray W fun r W' => ∃ v us F', r = .returned v ∧ Below W.heap.size W W' ∧ ResV s.res v us ∧ Reps W' F' (d x) us ∧ (∀ b, F' b → F b ∨ (W.heap.size ≤ b ∧ b < W'.heap.size))) :
    Meets P (specOf e d) f s := by
  refine .mk hpk ?_
  intro W F ds args rs hF hargs hsp
  obtain ⟨x, rfl, rfl⟩ := specOf_some hsp
  exact .inl ⟨hen.run _ _, (h x W F args hF hargs).mono fun r W' ⟨v, us, F', h1, h2, h3, h4, h5⟩ => ⟨v, h1, h2, us, F', res_pure h3 hc (hs x) (hl x) h4 h5⟩⟩
theorem meets_clone {α β : Type} {S : Sh β} {eS : β → List Dt} (hE : ShE S eS) {e : α → List Dt} {xs : α → List β} {pk : List PK} {t sz : Nat} {f : Nat} (hpk : isMine pk = false) (hsz : S.size = sz) (hpos : 0 < S.size) (hen : En P f)
    (h : ∀ x W F us, (∀ b, F b → b < W.heap.size) → PKRs W F pk (e x) us → Calls P f us.toArray W fun r W' => ∃ n, Cloned S t W F (xs x) n r W') :
    Meets P (specOf e fun x => [.l sz ((xs x).map eS)]) f ⟨pk, [(false, [.fresh t sz])], false⟩ := by
  refine .mk hpk ?_
  intro W F ds args rs hF hargs hsp
  obtain ⟨x, rfl, rfl⟩ := specOf_some hsp
  refine .inl ⟨hen.run _ _, (h x W F args hF hargs).mono ?_⟩
  rintro r W' ⟨n, v, zs, rfl, hz, hr, ho, hb⟩
  subst hsz
  have hag : Agree F W W' := fun b hb' => hb.block b (hF b hb')
  have hzl : zs.length = n := by
    have h1 := ho.1
    rw [flat_length fun z hz => S.len (hr z hz)] at h1
    exact Nat.eq_of_mul_eq_mul_right hpos h1
  refine ⟨v, rfl, hb, [v], F, ⟨⟨rfl, rfl⟩, rfl, rfl, fun j c d u hf hd hu => ?_, fun b hb => .inl hb, fun j e' sz' u b hf hu hbl hFb => ?_, fun j j' e sz e' sz' u u' b hf hu hf' hu' _ _ => ?_⟩⟩
  · cases j with
    | succ j => simp [cfsOf] at hf
    | zero =>
      simp only [cfsOf, List.flatMap_cons, List.flatMap_nil, List.append_nil, List.getElem?_cons_zero, Option.some.injEq] at hf hd hu
      subst hf; subst hd; subst hu
      refine ⟨_, flat zs, rfl, fun y hy => ?_, ?_, ?_⟩
      · obtain ⟨z, _, rfl⟩ := List.mem_map.1 hy
        exact hE.len z
      · rw [List.length_map, ← hz, List.length_map, hzl]; exact ho
      · rw [← hz]
        clear ho hz hzl
        induction zs with
        | nil => exact trivial
        | cons z zs ih =>
          simp only [flat, List.map_cons, List.flatten_cons]
          exact (hE.to (S.keep hag (hr z (List.mem_cons_self ..)))).append (ih fun z hz => hr z (List.mem_cons_of_mem _ hz))
  · cases j with
    | succ j => simp [cfsOf] at hf
    | zero =>
      simp only [List.getElem?_cons_zero, Option.some.injEq] at hu
      subst hu
      have h1 := own_ge ho hbl
      have h2 := hF b hFb
      omega
  · cases j <;> cases j' <;> simp [cfsOf] at hf hf' ⊢
theorem meets_scal2 {α : Type} {e : α → List Dt} {d : α → Dt} {pk : List PK} {f : Nat} (hpk : isMine pk = false) (hen : En P f) (hd : ∀ x, (d x).scal = true)
    (h : ∀ x W F us, (∀ b, F b → b < W.heap.size) → PKRs W F pk (e x) us → Calls P f us.toArray W fun r W' => ∃ v, r = .returned v ∧ Below W.heap.size W W' ∧ Rep W' (fun _ => False) (d x) v) : Meets P (specOf e fun x => [d x]) f ⟨pk, [(false, [.scal])], true⟩ := by
  refine .mk hpk ?_
  intro W F ds args rs hF hargs hs
  obtain ⟨x, rfl, rfl⟩ := specOf_some hs
  refine .inl ⟨hen.run _ _, (h x W F args hF hargs).mono fun e w' ⟨v, h1, h2, h3⟩ => ⟨v, h1, h2, res_scal (hd x) (h3.mono (fun _ h => h.elim) (fun _ h => h.elim))⟩⟩
end
end Go.Proofs.Ytnnbnjanekibpaa
namespace Go.Proofs.Ytnnbnjanekibpaa
open Go.RowKit
set_option linter.unusedVariables false
def Er (n : Int) : Prop := 0 ≤ n ∧ n ≤ 12
theorem Er.i64 {n : Int} (h : Er n) : -9223372036854775808 ≤ n ∧ n ≤ 9223372036854775807 := ⟨by have := h.1; omega, by have := h.2; omega⟩
theorem er_ite {c : Prop} [Decidable c] {a b : Int} (ha : Er a) (hb : Er b) : Er (if c then a else b) := by split <;> assumption
theorem er_lit (n : Int) (h : decide (0 ≤ n ∧ n ≤ 12) = true) : Er n := by unfold Er; exact of_decide_eq_true h
theorem er_op (o : Op) : Er (opBad o) := er_ite (er_lit _ rfl) (er_ite (er_lit _ rfl) (er_lit _ rfl))
theorem er_opsGo : ∀ l : List Op, Er (opsGo l)
  | [] => er_lit _ rfl
  | o :: l => er_ite (er_op o) (er_opsGo l)
theorem er_ops (l : List Op) : Er (opsCheck l) := er_ite (er_lit _ rfl) (er_opsGo l)
theorem er_inBad (x : In) : Er (inBad x) := by unfold inBad; exact er_ite (er_lit _ rfl) (er_ops _)
theorem er_insGo : ∀ l s : List In, Er (insGo l s)
  | [], _ => er_lit _ rfl
  | x :: l, s => er_ite (er_inBad x) (er_ite (er_lit _ rfl) (er_insGo l _))
theorem er_outs : ∀ l : List Out, Er (outsGo l)
  | [] => er_lit _ rfl
  | x :: l => er_ite (er_ite (er_lit _ rfl) (er_ops _)) (er_outs l)
theorem er_sumGo : ∀ (l : List Int) (s : Int), Er (sumGo l s).2
  | [], _ => er_lit _ rfl
  | x :: l, s => by
    unfold sumGo
    repeat' split
    all_goals first | exact er_lit _ rfl | exact er_sumGo _ _
theorem er_tx (t : Tx) : Er (txCheck t) := er_ite (er_ite (er_lit _ rfl) (er_ite (er_lit _ rfl) (er_ite (er_lit _ rfl) (er_lit _ rfl)))) (er_ite (er_insGo _ _) (er_ite (er_outs _) (er_sumGo _ _)))
theorem er_txsGo (h : Int) : ∀ (l : List Tx) (i : Nat), Er (txsGo h l i)
  | [], _ => er_lit _ rfl
  | t :: l, i => er_ite (er_tx t) (er_ite (er_lit _ rfl) (er_txsGo h l _))
theorem er_blk (b : Block) : Er (blkCheck b) := er_ite (er_ite (er_lit _ rfl) (er_ite (er_lit _ rfl) (er_ite (er_lit _ rfl) (er_lit _ rfl)))) (er_txsGo _ _ _)
theorem er_stands (ns : List Int) (bs : List Block) (b : Block) (m : Nat) : Er (standsE ns bs b m) := er_ite (er_ite (er_lit _ rfl) (er_lit _ rfl)) (er_ite (er_lit _ rfl) (er_ite (er_lit _ rfl) (er_lit _ rfl)))
theorem er_treeStep (ns : List Int) (bs : List Block) (k : Nat) (n : Int) (b : Block) : Er (treeStep ns bs k n b) := er_ite (er_lit _ rfl) (er_ite (er_blk _) (er_ite (er_lit _ rfl) (er_stands ..)))
theorem er_treeGo (ns : List Int) (bs : List Block) : ∀ f k : Nat, Er (treeGo ns bs k f)
  | 0, k => by unfold treeGo; exact er_lit _ rfl
  | f + 1, k => by unfold treeGo; exact er_ite (er_treeStep ..) (er_treeGo ns bs f _)
theorem er_tree (t : Tree) : Er (treeCheck t) := er_ite (er_lit _ rfl) (er_ite (er_lit _ rfl) (er_treeGo ..))
end Go.Proofs.Ytnnbnjanekibpaa
namespace Go.Proofs.Ytnnbnjanekibpaa
open Go.RowKit
set_option linter.unusedVariables false
set_option linter.unusedSimpArgs false
set_option maxRecDepth 100000
abbrev eXN (x : List Int × Int) : List Dt := [.l 1 (x.1.map eInt), I x.2]
noncomputable def spGrown : Spec := specOf (fun _ : Unit => []) fun _ => [.b true]
noncomputable def spCheckTree : Spec := specOf eTree fun x => [I (treeCheck x)]
noncomputable def spContains : Spec := specOf eXN fun x => [.b (memB x.1 x.2)]
noncomputable def spIndex : Spec := specOf eXN fun x => [I (idx x.1 x.2)]
noncomputable def spCloneI : Spec := specOf (fun x : { l : List Int // l.length ≤ 1000000 } => [.l 1 (x.1.map eInt)]) fun x => [.l 1 (x.1.map eInt)]
theorem eXN_inj (x y : List Int × Int) (h : eXN x = eXN y) : x = y := by
  obtain ⟨a, b⟩ := x
  obtain ⟨a', b'⟩ := y
  simp only [eXN, List.cons.injEq, Dt.l.injEq, Dt.i.injEq, true_and, and_true] at h
  obtain ⟨h, rfl⟩ := h
  rw [map_inj eInt_inj h]
theorem spCheckTree_at (ns : List Int) (bs : List Block) : spCheckTree [.l 1 (ns.map eInt), .l 5 (bs.map eBlock)] = some [I (treeCheck ⟨ns, bs⟩)] := specOf_at (e := eTree) eTree_inj ⟨ns, bs⟩
theorem spContains_at (ns : List Int) (n : Int) : spContains [.l 1 (ns.map eInt), I n] = some [.b (memB ns n)] := specOf_at (e := eXN) eXN_inj (ns, n)
theorem spIndex_at (ns : List Int) (n : Int) : spIndex [.l 1 (ns.map eInt), I n] = some [I (idx ns n)] := specOf_at (e := eXN) eXN_inj (ns, n)
theorem spCloneI_at (ns : List Int) (h : ns.length ≤ 1000000) : spCloneI [.l 1 (ns.map eInt)] = some [.l 1 (ns.map eInt)] :=
  specOf_at (e := fun x : { l : List Int // l.length ≤ 1000000 } => [.l 1 (x.1.map eInt)]) (fun x y h => Subtype.ext (map_inj eInt_inj (by simpa using h))) ⟨ns, h⟩
attribute [local irreducible] specOf
end Go.Proofs.Ytnnbnjanekibpaa
namespace Go.Proofs.Ytnnbnjanekibpaa
open Go.RowKit
set_option linter.unusedVariables false
set_option maxRecDepth 100000
theorem rep_int {W : World} {F : Nat → Prop} {n : Int} {v : Value} (h : Rep W F (I n) v) : v = .int .i64 n ∧ I64 n := by
  obtain ⟨rfl, h1⟩ := rep_i h
  exact ⟨rfl, wrap_i64' h1⟩
theorem mGrown : Meets Try.prog spGrown 38 ⟨[], [(false, [.scal])], true⟩ :=
  meets_scal2 rfl (en_of (fn := Try.f38) (by kernel_rfl) (by kernel_rfl) (by kernel_rfl)) (fun _ => rfl) fun x W F us hF h => by
    obtain rfl := pks_nil h
    exact (grown_c (Sep.start W F hF)).mono fun e w' h => ⟨_, h.1, h.2.below, .b _⟩
theorem mCheckTree : Meets Try.prog spCheckTree 46 ⟨[.agg 2], [(false, [.scal])], true⟩ :=
  meets_scal2 rfl (en_of (fn := Try.f46) (by kernel_rfl) (by kernel_rfl) (by kernel_rfl)) (fun _ => rfl) fun x W F us hF h => by
    obtain ⟨cs, rfl, hr⟩ := pks_agg' h
    exact (refTree_c x cs (Sep.start1 hF (she_tree.of hr)) At.z).mono fun e w' h => ⟨_, h.1, h.2.below, .i _ _ (wrap_i64 (er_tree x).i64)⟩
theorem mContains : Meets Try.prog spContains 71 ⟨[.one, .one], [(false, [.scal])], true⟩ :=
  meets_scal2 rfl (en_of (fn := Try.f71) (by kernel_rfl) (by kernel_rfl) (by kernel_rfl)) (fun _ => rfl) fun x W F us hF h => by
    obtain ⟨v, us, rfl, h1, h⟩ := pks_one h
    obtain ⟨v2, us, rfl, h2, h⟩ := pks_one h
    obtain rfl := pks_nil h
    obtain ⟨A, n, c, rfl, k1⟩ := rep_rds she_int h1
    obtain ⟨rfl, k2⟩ := rep_int h2
    exact (contains_int x.1 x.2 A n c W F k1).mono fun e w' h => ⟨_, h.1, h.2 ▸ Below.refl _ _, .b _⟩
theorem idx_i64 {xs : List Int} {y : Int} (h : xs.length ≤ 9223372036854775807) : -9223372036854775808 ≤ idx xs y ∧ idx xs y ≤ 9223372036854775807 := by
  have := idx_bd xs y
  omega
theorem mIndex : Meets Try.prog spIndex 50 ⟨[.one, .one], [(false, [.scal])], true⟩ :=
  meets_scal2 rfl (en_of (fn := Try.f50) (by kernel_rfl) (by kernel_rfl) (by kernel_rfl)) (fun _ => rfl) fun x W F us hF h => by
    obtain ⟨v, us, rfl, h1, h⟩ := pks_one h
    obtain ⟨v2, us, rfl, h2, h⟩ := pks_one h
    obtain rfl := pks_nil h
    obtain ⟨A, n, c, rfl, k1⟩ := rep_rds she_int h1
    obtain ⟨rfl, k2⟩ := rep_int h2
    have hl : x.1.length ≤ 9223372036854775807 := by have := k1.1; have := k1.2.1; have := k1.2.2.1; omega
    exact (index_int x.1 x.2 A n c W F k1).mono fun e w' h => ⟨_, h.1, h.2 ▸ Below.refl _ _, .i _ _ (wrap_i64 (idx_i64 hl))⟩
theorem mCloneI : Meets Try.prog spCloneI 87 ⟨[.one], [(false, [.fresh 3 1])], false⟩ :=
  meets_clone (xs := fun x : { l : List Int // l.length ≤ 1000000 } => x.1) she_int rfl rfl (by decide) (en_of (fn := Try.f87) (by kernel_rfl) (by kernel_rfl) (by kernel_rfl)) fun x W F us hF h => by
    obtain ⟨v, us, rfl, h1, h⟩ := pks_one h
    obtain rfl := pks_nil h
    obtain ⟨A, n, c, rfl, k1⟩ := rep_rds she_int h1
    have := x.2
    have := k1.1
    exact (clone_int x.1 A n c W F k1 hF (by omega)).mono fun r W' h => ⟨n, h⟩
abbrev eTN (x : Tree × Int) : List Dt := eTree x.1 ++ [I x.2]
end Go.Proofs.Ytnnbnjanekibpaa
namespace Go.Proofs.Ytnnbnjanekibpaa
open Go.RowKit
set_option linter.unusedVariables false
set_option linter.unusedSimpArgs false
set_option maxRecDepth 100000
def tPathOf : T :=
  .lets [.bin .eql (.v 2) (.c (.i .i64 0))] [] (.ite (.v 3) (.ret [.c (.nil 1), .c (.b true)]) (.lets [.call 0 [.v 0, .v 2] 0] [] (.lets [.bin .lss (.v 4) (.c (.i .i64 0))] [] (.ite
    (.v 5) (.ret [.c (.nil 1), .c (.b false)]) (.lets [] [.inr 5 (.v 1) (.v 4)] (.lets [.idx (.v 1) (.v 4) 0] [] (.lets [.call 1 [.v 0, .v 1, .v 6] 0, .call 1 [.v 0, .v 1, .v 6] 1] []
    (.lets [.mk 1 [[.v 2]]] [] (.lets [.app 1 (.v 7) (.v 9)] [] (.ret [.v 10, .v 8]))))))))))
def tWorkOf : T :=
  .lets [.call 1 [.v 0, .v 1, .v 2] 0, .call 1 [.v 0, .v 1, .v 2] 1] [] (.lets [.len (.v 0)] [] (.loop [.c (.i .i64 0), .c (.i .i64 0)] (.lets [.bin .lss (.v 7) (.v 5)] [] (.ite (.v
    8) (.lets [] [.inr 1 (.v 0) (.v 7)] (.lets [.idx (.v 0) (.v 7) 0] [] (.lets [.call 2 [.v 3, .v 9] 0] [] (.ite (.v 10) (.lets [] [.inr 5 (.v 1) (.v 7)] (.lets [.idx (.v 1) (.v 7) 2]
    [] (.lets [.bin .add (.v 6) (.v 11)] [] (.lets [.bin .add (.v 7) (.c (.i .i64 1))] [] (.again 0 [.v 12, .v 13]))))) (.lets [.bin .add (.v 7) (.c (.i .i64 1))] [] (.again 0 [.v 6, .v
    11])))))) (.ret [.v 6])))))
def tBestOf : T :=
  .lets [.call 3 [.v 0] 0] [] (.lets [.call 13 [.v 2] 0] [] (.lets [.len (.v 3)] [] (.loop [.c (.i .i64 0), .c (.i .i64 0)] (.lets [.bin .lss (.v 6) (.v 4)] [] (.ite (.v 7) (.lets []
    [.inr 1 (.v 3) (.v 6)] (.lets [.idx (.v 3) (.v 6) 0] [] (.lets [.bin .eql (.v 5) (.c (.i .i64 0))] [] (.ite (.v 9) (.lets [.bin .add (.v 6) (.c (.i .i64 1))] [] (.again 0 [.v 8, .v
    10])) (.lets [.call 4 [.v 0, .v 1, .v 8] 0] [] (.lets [.call 4 [.v 0, .v 1, .v 5] 0] [] (.lets [.bin .gtr (.v 10) (.v 11)] [] (.ite (.v 12) (.lets [.bin .add (.v 6) (.c (.i .i64
    1))] [] (.again 0 [.v 8, .v 13])) (.lets [.bin .add (.v 6) (.c (.i .i64 1))] [] (.again 0 [.v 5, .v 13])))))))))) (.ret [.v 5]))))))
section
variable {sp : Nat → Spec} {N : Nat} {E : Env} {ks : List (List Dt → Option (List Dt))} {res : Option (List Dt)}
theorem den_calls' {ci : Nat} {args : List Atom} {xs : List X} {ds rs : List Dt} (hx : xs = (List.range rs.length).map fun j => .call ci args j) (h : vals E args = some ds) (hs : sp ci ds = some rs) : denXs sp E xs = some rs := hx ▸ den_calls h hs
theorem den_add {a b : Atom} {m n : Int} (ha : a.val E = some (I m)) (hb : b.val E = some (I n)) (h : -9223372036854775808 ≤ m + n ∧ m + n ≤ 9223372036854775807) : denX sp E (.bin .add a b) = some (I (m + n)) := by
  have e : denX sp E (.bin .add a b) = some (I (IntKind.i64.wrap (m + n))) := by simp only [denX, ha, hb, Option.bind_eq_bind, Option.bind_some]; rfl
  rw [e, wrap_i64 h]
theorem iter_st {F : (List Dt → Option (List Dt)) → List Dt → Option (List Dt)} {st : Nat → List Dt} {n : Nat} (step : ∀ i, i < n → ∀ again, again (st (i + 1)) = res → F again (st i) = res) (last : ∀ again, F again (st n) = res) : ∀ N, n < N → iterT F N (st 0) = res := by
  have key : ∀ m i, i + m = n → ∀ N, m < N → iterT F N (st i) = res := by
    intro m
    induction m with
    | zero => intro i hi N hN; obtain ⟨N, rfl⟩ : ∃ k, N = k + 1 := ⟨N - 1, by omega⟩; rw [iterT, show i = n by omega]; exact last _
    | succ m ih =>
      intro i hi N hN
      obtain ⟨N, rfl⟩ : ∃ k, N = k + 1 := ⟨N - 1, by omega⟩
      rw [iterT]
      exact step i (by omega) _ (ih (i + 1) (by omega) N (by omega))
  intro N hN
  exact key n 0 (by omega) N hN
theorem den_loop' {ats : List Atom} {body : T} {st : Nat → List Dt} {n : Nat} (h : vals E ats = some (st 0)) (hN : n < N) (step : ∀ i, i < n → ∀ again : List Dt → Option (List Dt), again (st (i + 1)) = res → den sp N body (E ++ st i) (ks ++ [again]) = res)
    (last : ∀ again : List Dt → Option (List Dt), den sp N body (E ++ st n) (ks ++ [again]) = res) : den sp N (.loop ats body) E ks = res :=
  den_loop h (iter_st (F := fun again ds => den sp N body (E ++ ds) (ks ++ [again])) step last N hN)
end
def refPath (ns : List Int) (bs : List Block) (m : Int) : List Int × Bool := if m ≠ 0 ∧ idx ns m < 0 then ([], false) else (pathL ns bs m, true)
theorem tree_parent {ns : List Int} {bs : List Block} (ok : TreeOK ns bs) {m : Int} (hm : 0 ≤ idx ns m) : ∃ j : Nat, idx ns m = j ∧ j < ns.length ∧ bs[j]? = some (blkAt bs (idx ns m)) := by
  obtain ⟨j, hj, hjs⟩ := idx_at hm
  have hjl := (List.getElem?_eq_some_iff.1 hjs).1
  have hlen := ok.len
  have hjb : j < bs.length := by omega
  exact ⟨j, hj, hjl, by rw [hj]; simp [blkAt, hjb]⟩
abbrev PathDom (n : Nat) := { x : Tree × Int // treeCheck x.1 = 0 ∧ remN x.1.names x.2 ≤ n }
noncomputable def spPathN (n : Nat) : Spec := specOf (fun x : PathDom n => eTN x.1) fun x => [.l 1 ((refPath x.1.1.names x.1.1.blocks x.1.2).1.map eInt), .b (refPath x.1.1.names x.1.1.blocks x.1.2).2]
theorem eTN_inj' (x y : Tree × Int) (h : eTN x = eTN y) : x = y := by
  obtain ⟨⟨a, k⟩, n⟩ := x
  obtain ⟨⟨a', k'⟩, n'⟩ := y
  simp only [eTN, eTree, List.cons_append, List.nil_append, List.cons.injEq, Dt.i.injEq, true_and, Dt.l.injEq, and_true] at h
  obtain ⟨h1, h2, rfl⟩ := h
  rw [map_inj eInt_inj h1, map_inj eBlock_inj h2]
theorem spPathN_at {n : Nat} (ns : List Int) (bs : List Block) (m : Int) (h : treeCheck ⟨ns, bs⟩ = 0) (hr : remN ns m ≤ n) : spPathN n [.l 1 (ns.map eInt), .l 5 (bs.map eBlock), I m] = some [.l 1 ((refPath ns bs m).1.map eInt), .b (refPath ns bs m).2] :=
  specOf_at (e := fun x : PathDom n => eTN x.1) (fun x y h => Subtype.ext (eTN_inj' _ _ h)) ⟨(⟨ns, bs⟩, m), h, hr⟩
noncomputable def spsPath (n : Nat) (ci : Nat) : Spec := [spIndex, spPathN n].getD ci fun _ => none
noncomputable def spsPath0 (ci : Nat) : Spec := [spIndex].getD ci fun _ => none
attribute [local irreducible] specOf
theorem path_den {sp : Nat → Spec} (h0 : sp 0 = spIndex) (ns : List Int) (bs : List Block) (m : Int) (ht : treeCheck ⟨ns, bs⟩ = 0) (h1 : m ≠ 0 → 0 ≤ idx ns m → ∀ p, p = parentOf ns bs m → sp 1 [.l 1 (ns.map eInt), .l 5 (bs.map eBlock), I p] = some [.l 1 ((refPath ns bs p).1.map eInt), .b (refPath ns bs p).2]) :
    den sp 1 tPathOf [.l 1 (ns.map eInt), .l 5 (bs.map eBlock), I m] [] = some [.l 1 ((refPath ns bs m).1.map eInt), .b (refPath ns bs m).2] := by
  have ok := (treeCheck_iff ns bs).1 ht
  have hle := ok.le
  have hlen := ok.len
  unfold tPathOf
  refine den_let1 (d := .b (decide (m = 0))) rfl ?_
  refine den_ite rfl (fun h => ?_) (fun h => ?_)
  · have h := of_decide_eq_true h
    subst h
    refine den_ret rfl ?_
    have e : refPath ns bs 0 = ([], true) := by unfold refPath; rw [if_neg (by simp), pathL_zero]
    rw [e]; rfl
  have h := of_decide_eq_false h
  refine den_let1 (d := I (idx ns m)) (den_call rfl (by rw [h0]; exact spIndex_at ns m) rfl) ?_
  refine den_let1 (d := .b (decide (idx ns m < 0))) rfl ?_
  refine den_ite rfl (fun h2 => ?_) (fun h2 => ?_)
  · have h2 := of_decide_eq_true h2
    refine den_ret rfl ?_
    have e : refPath ns bs m = ([], false) := by unfold refPath; rw [if_pos ⟨h, h2⟩]
    rw [e]; rfl
  have h2 := of_decide_eq_false h2
  have h3 : 0 ≤ idx ns m := by omega
  obtain ⟨e1, e2, e3⟩ := pathL_step ok h3
  have hp := h1 h h3 _ rfl
  have hlp := pathL_len ok e2
  obtain ⟨j, hj, hjl, hjb⟩ := tree_parent ok h3
  have hi1 : idx ns m < (bs.map eBlock).length := by simp; omega
  have hpp : (blkAt bs (idx ns m)).parent = parentOf ns bs m := rfl
  have eP : refPath ns bs (parentOf ns bs m) = (pathL ns bs (parentOf ns bs m), true) := by
    unfold refPath; rw [if_neg]; rintro ⟨q1, q2⟩; rcases e2 with e2 | e2
    · exact q1 e2
    · omega
  have eM : refPath ns bs m = (pathL ns bs (parentOf ns bs m) ++ [m], true) := by unfold refPath; rw [if_neg (by omega), e1]
  rw [eP] at hp
  rw [eM]
  generalize parentOf ns bs m = p at *
  generalize blkAt bs (idx ns m) = c at *
  generalize idx ns m = i at *
  have hx : (bs.map eBlock)[i.toNat]? = some (eBlock c) := by rw [List.getElem?_map, show i.toNat = j by omega, hjb]; rfl
  refine den_ck (hold_inr rfl rfl h3 hi1) ?_
  refine den_let1 (d := I p) (by rw [← hpp]; exact den_idx rfl rfl h3 hx rfl) ?_
  refine den_lets (ds := [.l 1 ((pathL ns bs p).map eInt), .b true]) (den_calls' (ci := 1) rfl rfl hp) ?_
  refine den_let1 (den_mk (r := [[I m]]) rfl rfl (by simp)) ?_
  refine den_let1 (d := .l 1 ((pathL ns bs p).map eInt ++ [[I m]])) (den_app rfl rfl (by simp; omega)) ?_
  refine den_ret rfl ?_
  rw [List.map_append]; rfl
def wsum (ns : List Int) (bs : List Block) (l : List Int) : Nat → Int
  | 0 => 0
  | i + 1 => if memB l (nameAt ns i) = true then wsum ns bs l i + (blkAt bs i).work else wsum ns bs l i
theorem names_inj {ns : List Int} {bs : List Block} (ok : TreeOK ns bs) {i j : Nat} (hi : i < ns.length) (hj : j < ns.length) (h : nameAt ns i = nameAt ns j) : i = j := by
  have key : ∀ i j : Nat, i < j → j < ns.length → nameAt ns i ≠ nameAt ns j := by
    intro i j hij hj h
    have := (treeStep_ok (ok.step j hj)).2.2.1
    rw [← h] at this
    have hm : nameAt ns i ∈ ns.take j := by
      have hi : i < ns.length := by omega
      refine List.mem_of_getElem? (i := i) ?_
      rw [List.getElem?_take, if_pos hij]
      simp [nameAt, hi]
    exact this hm
  rcases Nat.lt_trichotomy i j with h' | h' | h'
  · exact absurd h (key i j h' hj)
  · exact h'
  · exact absurd h.symm (key j i h' hi)
theorem wsum_nil (ns : List Int) (bs : List Block) : ∀ k, wsum ns bs [] k = 0
  | 0 => rfl
  | k + 1 => by rw [wsum, if_neg (by simp [memB]), wsum_nil ns bs k]
theorem wsum_snoc {ns : List Int} {bs : List Block} (ok : TreeOK ns bs) (l : List Int) (m : Int) (j : Nat) (hj : j < ns.length) (hm : nameAt ns j = m) (hn : m ∉ l) : ∀ k, k ≤ ns.length → wsum ns bs (l ++ [m]) k = wsum ns bs l k + (if j < k then (blkAt bs j).work else 0)
  | 0, _ => by simp [wsum]
  | k + 1, hk => by
    have ih := wsum_snoc ok l m j hj hm hn k (by omega)
    rw [wsum, wsum]
    by_cases hkj : k = j
    · subst hkj
      rw [hm, if_pos (by simp [memB]), if_neg (by simp [memB, hn]), ih, if_neg (by omega), if_pos (by omega)]
      omega
    · have hne : nameAt ns k ≠ m := fun e => hkj (names_inj ok (by omega) hj (e.trans hm.symm))
      have e : memB (l ++ [m]) (nameAt ns k) = memB l (nameAt ns k) := by simp [memB, hne]
      rw [e, ih]
      have e2 : (if j < k + 1 then (blkAt bs j).work else 0) = (if j < k then (blkAt bs j).work else 0) := by
        by_cases h : j < k
        · rw [if_pos h, if_pos (by omega)]
        · rw [if_neg h, if_neg (by omega)]
      rw [e2]
      split <;> omega
theorem wsum_path {ns : List Int} {bs : List Block} (ok : TreeOK ns bs) : ∀ (r : Nat) (m : Int), remN ns m ≤ r → (m = 0 ∨ 0 ≤ idx ns m) → wsum ns bs (pathL ns bs m) ns.length = workL ns bs (pathL ns bs m) := by
  intro r
  induction r with
  | zero =>
    intro m hr hm
    have : m = 0 := by
      rcases hm with h | h
      · exact h
      · unfold remN at hr
        split at hr
        · assumption
        · omega
    subst this
    rw [pathL_zero, wsum_nil]; rfl
  | succ r ih =>
    intro m hr hm
    by_cases h0 : m = 0
    · subst h0; rw [pathL_zero, wsum_nil]; rfl
    have hm := hm.resolve_left h0
    obtain ⟨e1, e2, e3⟩ := pathL_step ok hm
    obtain ⟨b1, b2, j, hj, hjx, hjn, _⟩ := ok.name hm
    have hnot : m ∉ pathL ns bs (parentOf ns bs m) := by
      intro hmem
      obtain ⟨k, hk⟩ := List.getElem?_of_mem hmem
      have h1 := (pathL_take ok _ (Nat.le_refl _) e2 hk).1
      have h2 := congrArg List.length h1
      rw [e1, List.length_take, List.length_append] at h2
      simp only [List.length_cons, List.length_nil] at h2
      omega
    rw [e1, wsum_snoc ok _ m j hj hjn hnot ns.length (Nat.le_refl _), if_pos hj, ih _ (by omega) e2, workL_append]
    simp only [workL]
    rw [hjx]; omega
theorem wsum_bd {ns : List Int} {bs : List Block} (hb : ∀ b ∈ bs, 0 ≤ b.work ∧ b.work ≤ 1000) (l : List Int) : ∀ k : Nat, 0 ≤ wsum ns bs l k ∧ wsum ns bs l k ≤ 1000 * k
  | 0 => by simp [wsum]
  | k + 1 => by
    have ih := wsum_bd (ns := ns) hb l k
    have hw : 0 ≤ (blkAt bs k).work ∧ (blkAt bs k).work ≤ 1000 := by
      unfold blkAt
      cases h : bs[(k : Int).toNat]? with
      | none => simp
      | some b => exact hb b (List.mem_of_getElem? h)
    rw [wsum]
    split <;> constructor <;> omega
abbrev WorkDom := { x : Tree × Int // treeCheck x.1 = 0 ∧ (x.2 = 0 ∨ 0 ≤ idx x.1.names x.2) }
noncomputable def spWorkOf : Spec := specOf (fun x : WorkDom => eTN x.1) fun x => [I (pw x.1.1.names x.1.1.blocks x.1.2)]
theorem spWorkOf_at (ns : List Int) (bs : List Block) (m : Int) (h : treeCheck ⟨ns, bs⟩ = 0) (hr : m = 0 ∨ 0 ≤ idx ns m) : spWorkOf [.l 1 (ns.map eInt), .l 5 (bs.map eBlock), I m] = some [I (pw ns bs m)] :=
  specOf_at (e := fun x : WorkDom => eTN x.1) (fun x y h => Subtype.ext (eTN_inj' _ _ h)) ⟨(⟨ns, bs⟩, m), h, hr⟩
theorem work_den {sp : Nat → Spec} (h2 : sp 2 = spContains) (ns : List Int) (bs : List Block) (m : Int) (ht : treeCheck ⟨ns, bs⟩ = 0) (hm : m = 0 ∨ 0 ≤ idx ns m) (h1 : sp 1 [.l 1 (ns.map eInt), .l 5 (bs.map eBlock), I m] = some [.l 1 ((refPath ns bs m).1.map eInt), .b (refPath ns bs m).2]) :
    den sp 30 tWorkOf [.l 1 (ns.map eInt), .l 5 (bs.map eBlock), I m] [] = some [I (pw ns bs m)] := by
  have ok := (treeCheck_iff ns bs).1 ht
  have hle := ok.le
  have hlen := ok.len
  have hbd := fun l k => wsum_bd (ns := ns) (fun b hb => blkCheck_work (treeCheck_blk ht b hb)) l k
  have eP : refPath ns bs m = (pathL ns bs m, true) := by unfold refPath; rw [if_neg (by omega)]
  have hres : wsum ns bs (pathL ns bs m) ns.length = pw ns bs m := wsum_path ok _ m (Nat.le_refl _) hm
  rw [eP] at h1
  rw [← hres]
  generalize pathL ns bs m = l at *
  unfold tWorkOf
  refine den_lets (ds := [.l 1 (l.map eInt), .b true]) (den_calls' (ci := 1) rfl rfl h1) ?_
  refine den_let1 (d := I ns.length) (by show some (I ((ns.map eInt).length : Nat)) = _; rw [List.length_map]) ?_
  refine den_loop' (st := fun i => [I (wsum ns bs l i), I i]) (n := ns.length) rfl (by omega) (fun i hi again hag => ?_) (fun again => ?_)
  · simp only [List.cons_append, List.nil_append]
    have hi0 : (0 : Int) ≤ (i : Int) := by omega
    have hi1 : (i : Int) < (ns.map eInt).length := by simp; omega
    have hi2 : (i : Int) < (bs.map eBlock).length := by simp; omega
    have hi3 : (i : Int) < (ns.length : Int) := by omega
    have hx1 : (ns.map eInt)[(i : Int).toNat]? = some [I (nameAt ns i)] := by simp [hi, nameAt, eInt]
    have hx2 : (bs.map eBlock)[(i : Int).toNat]? = some (eBlock (blkAt bs i)) := by
      have : i < bs.length := by omega
      simp [this, blkAt]
    have hst : wsum ns bs l (i + 1) = if memB l (nameAt ns i) = true then wsum ns bs l i + (blkAt bs i).work else wsum ns bs l i := rfl
    have hcast : ((i + 1 : Nat) : Int) = (i : Int) + 1 := by omega
    have hb1 := hbd l i
    have hb2 := hbd l (i + 1)
    simp only [hcast] at hag
    have hlim : (i : Int) + 1 ≤ 30 := by omega
    generalize wsum ns bs l (i + 1) = s' at *
    generalize wsum ns bs l i = s at *
    generalize blkAt bs (i : Int) = c at *
    generalize nameAt ns i = x at *
    generalize (i : Int) = k at *
    refine den_let1 (d := .b (decide (k < ns.length))) rfl ?_
    refine den_ite rfl (fun _ => ?_) (fun h => absurd (of_decide_eq_false h) (by omega))
    refine den_ck (hold_inr rfl rfl hi0 hi1) ?_
    refine den_let1 (d := I x) (den_idx rfl rfl hi0 hx1 rfl) ?_
    refine den_let1 (d := .b (memB l x)) (den_call rfl (by rw [h2]; exact spContains_at l x) rfl) ?_
    refine den_ite rfl (fun h => ?_) (fun h => ?_)
    · rw [if_pos h] at hst
      refine den_ck (hold_inr rfl rfl hi0 hi2) ?_
      refine den_let1 (d := I c.work) (den_idx rfl rfl hi0 hx2 rfl) ?_
      refine den_let1 (d := I (s + c.work)) (den_add rfl rfl (by omega)) ?_
      refine den_let1 (d := I (k + 1)) (den_add rfl rfl (by omega)) ?_
      refine den_again rfl rfl ?_
      rw [← hst]; exact hag
    · rw [if_neg (by rw [h]; simp)] at hst
      refine den_let1 (d := I (k + 1)) (den_add rfl rfl (by omega)) ?_
      refine den_again rfl rfl ?_
      rw [← hst]; exact hag
  · simp only [List.cons_append, List.nil_append]
    generalize wsum ns bs l ns.length = s at *
    refine den_let1 (d := .b (decide ((ns.length : Int) < ns.length))) rfl ?_
    refine den_ite rfl (fun h => absurd (of_decide_eq_true h) (by omega)) (fun _ => ?_)
    exact den_ret rfl rfl
end Go.Proofs.Ytnnbnjanekibpaa
namespace Go.Proofs.Ytnnbnjanekibpaa
open Go.RowKit
set_option linter.unusedVariables false
set_option linter.unusedSimpArgs false
set_option maxRecDepth 100000
def tTreePaths : T :=
  .lets [.call 7 [.v 0, .v 1, .v 2] 0, .call 7 [.v 0, .v 1, .v 2] 1] [] (.lets [.call 8 [.v 0, .v 1, .v 2] 0, .call 8 [.v 0, .v 1, .v 2] 1] [] (.lets [.call 9 [.v 0, .v 1, .v 2, .v 3]
    0, .call 9 [.v 0, .v 1, .v 2, .v 3] 1] [] (.lets [.call 10 [.v 0, .v 1] 0, .call 10 [.v 0, .v 1] 1] [] (.lets [.call 6 [.v 0, .v 1] 0] [] (.lets [.call 5 [] 0] [] (.lets [.not (.v
    13)] [] (.ite (.v 14) (.lets [.call 5 [] 0] [] (.ite (.v 15) (.lets [.bin .eql (.v 5) (.v 12)] [] (.ite (.v 16) (.lets [.bin .eql (.v 7) (.v 12)] [] (.ite (.v 17) (.lets [.bin .eql
    (.v 9) (.v 12)] [] (.ite (.v 18) (.lets [.bin .eql (.v 11) (.v 12)] [] (.ite (.v 19) (.lets [.len (.v 4)] [] (.lets [.bin .eql (.v 20) (.c (.i .i64 0))] [] (.ite (.v 21) (.lets
    [.bin .eql (.v 6) (.c (.i .i64 0))] [] (.ite (.v 22) (.lets [.bin .eql (.v 8) (.c (.i .i64 0))] [] (.ite (.v 23) (.lets [.bin .eql (.v 10) (.c (.i .i64 0))] [] (.ret [.v 24])) (.ret
    [.c (.b false)]))) (.ret [.c (.b false)]))) (.ret [.c (.b false)])))) (.ret [.c (.b false)]))) (.ret [.c (.b false)]))) (.ret [.c (.b false)]))) (.ret [.c (.b false)]))) (.ret [.c
    (.b false)]))) (.lets [.bin .neq (.v 12) (.c (.i .i64 0))] [] (.ite (.v 15) (.lets [.call 5 [] 0] [] (.ite (.v 16) (.lets [.bin .eql (.v 5) (.v 12)] [] (.ite (.v 17) (.lets [.bin
    .eql (.v 7) (.v 12)] [] (.ite (.v 18) (.lets [.bin .eql (.v 9) (.v 12)] [] (.ite (.v 19) (.lets [.bin .eql (.v 11) (.v 12)] [] (.ite (.v 20) (.lets [.len (.v 4)] [] (.lets [.bin
    .eql (.v 21) (.c (.i .i64 0))] [] (.ite (.v 22) (.lets [.bin .eql (.v 6) (.c (.i .i64 0))] [] (.ite (.v 23) (.lets [.bin .eql (.v 8) (.c (.i .i64 0))] [] (.ite (.v 24) (.lets [.bin
    .eql (.v 10) (.c (.i .i64 0))] [] (.ret [.v 25])) (.ret [.c (.b false)]))) (.ret [.c (.b false)]))) (.ret [.c (.b false)])))) (.ret [.c (.b false)]))) (.ret [.c (.b false)]))) (.ret
    [.c (.b false)]))) (.ret [.c (.b false)]))) (.ret [.c (.b false)]))) (.lets [.call 1 [.v 0, .v 1, .v 2] 0, .call 1 [.v 0, .v 1, .v 2] 1] [] (.lets [.call 1 [.v 0, .v 1, .v 3] 0,
    .call 1 [.v 0, .v 1, .v 3] 1] [] (.lets [.bin .neq (.v 11) (.c (.i .i64 0))] [] (.ite (.v 20) (.ret [.c (.b false)]) (.lets [.call 11 [.v 0, .v 1] 0] [] (.lets [.bin .neq (.v 10)
    (.v 21)] [] (.ite (.v 22) (.ret [.c (.b false)]) (.lets [.not (.v 17)] [] (.ite (.v 23) (.lets [.bin .eql (.v 5) (.c (.i .i64 5))] [] (.ite (.v 24) (.lets [.bin .eql (.v 7) (.c (.i
    .i64 5))] [] (.ite (.v 25) (.lets [.bin .eql (.v 9) (.c (.i .i64 5))] [] (.ite (.v 26) (.lets [.len (.v 4)] [] (.lets [.bin .eql (.v 27) (.c (.i .i64 0))] [] (.ite (.v 28) (.lets
    [.bin .eql (.v 6) (.c (.i .i64 0))] [] (.ite (.v 29) (.lets [.bin .eql (.v 8) (.c (.i .i64 0))] [] (.ret [.v 30])) (.ret [.c (.b false)]))) (.ret [.c (.b false)])))) (.ret [.c (.b
    false)]))) (.ret [.c (.b false)]))) (.ret [.c (.b false)]))) (.lets [.bin .neq (.v 5) (.c (.i .i64 0))] [] (.ite (.v 24) (.ret [.c (.b false)]) (.lets [.bin .neq (.v 7) (.c (.i .i64
    0))] [] (.ite (.v 25) (.ret [.c (.b false)]) (.lets [.call 12 [.v 4, .v 16] 0] [] (.lets [.not (.v 26)] [] (.ite (.v 27) (.ret [.c (.b false)]) (.lets [.call 4 [.v 0, .v 1, .v 2] 0]
    [] (.lets [.bin .neq (.v 6) (.v 28)] [] (.ite (.v 29) (.ret [.c (.b false)]) (.lets [.not (.v 19)] [] (.ite (.v 30) (.lets [.bin .eql (.v 9) (.c (.i .i64 5))] [] (.ite (.v 31)
    (.lets [.bin .eql (.v 8) (.c (.i .i64 0))] [] (.ret [.v 32])) (.ret [.c (.b false)]))) (.lets [.len (.v 16)] [] (.loop [.c (.i .i64 0), .c (.i .i64 0)] (.lets [.bin .lss (.v 33) (.v
    31)] [] (.ite (.v 34) (.lets [] [.inr 1 (.v 16) (.v 33)] (.lets [.idx (.v 16) (.v 33) 0] [] (.lets [.call 2 [.v 18, .v 35] 0] [] (.ite (.v 36) (.lets [.bin .add (.v 33) (.c (.i .i64
    1))] [] (.again 0 [.v 35, .v 37])) (.lets [.bin .add (.v 33) (.c (.i .i64 1))] [] (.again 0 [.v 32, .v 37])))))) (.lets [.bin .eql (.v 9) (.c (.i .i64 0))] [] (.ite (.v 35) (.lets
    [.bin .eql (.v 8) (.v 32)] [] (.ret [.v 36])) (.ret [.c (.b false)])))))))))))))))))))))))))))))))))))))
def bStep (ns : List Int) (bs : List Block) (b n : Int) : Int := if b = 0 ∨ pw ns bs b < pw ns bs n then n else b
def leB (x y : Int) : Bool := decide (x ≤ y)
def bestRef (ns : List Int) (bs : List Block) : Int := (ns.mergeSort leB).foldl (bStep ns bs) 0
theorem bStep_inv (ns : List Int) (bs : List Block) : ∀ (l p : List Int) (b : Int), (p ++ l).Pairwise (fun x y => x ≤ y) → (∀ n ∈ p ++ l, 1 ≤ n) → ((p = [] ∧ b = 0) ∨ (b ∈ p ∧ ∀ n ∈ p, pw ns bs n ≤ pw ns bs b ∧ (pw ns bs n = pw ns bs b → b ≤ n))) →
    ((p ++ l = [] ∧ l.foldl (bStep ns bs) b = 0) ∨ (l.foldl (bStep ns bs) b ∈ p ++ l ∧ ∀ n ∈ p ++ l, pw ns bs n ≤ pw ns bs (l.foldl (bStep ns bs) b) ∧ (pw ns bs n = pw ns bs (l.foldl (bStep ns bs) b) → l.foldl (bStep ns bs) b ≤ n)))
  | [], p, b, _, _, h => by simpa using h
  | x :: l, p, b, hp, h1, h => by
    have e : p ++ x :: l = (p ++ [x]) ++ l := by simp
    rw [e] at hp h1 ⊢
    rw [List.foldl_cons]
    refine bStep_inv ns bs l (p ++ [x]) (bStep ns bs b x) hp h1 (.inr ?_)
    have hx : ∀ n ∈ p, n ≤ x := by
      intro n hn
      have := (List.pairwise_append.1 (List.pairwise_append.1 hp).1).2.2
      exact this n hn x (by simp)
    unfold bStep
    rcases h with ⟨rfl, rfl⟩ | ⟨hb, h⟩
    · rw [if_pos (.inl rfl)]
      refine ⟨by simp, fun n hn => ?_⟩
      simp only [List.nil_append, List.mem_singleton] at hn
      subst hn
      exact ⟨Int.le_refl _, fun _ => Int.le_refl _⟩
    · have hb0 : b ≠ 0 := by have := h1 b (by simp [hb]); omega
      by_cases hlt : pw ns bs b < pw ns bs x
      · rw [if_pos (.inr hlt)]
        refine ⟨by simp, fun n hn => ?_⟩
        rcases List.mem_append.1 hn with hn | hn
        · have := (h n hn).1
          exact ⟨by omega, fun e => by omega⟩
        · simp only [List.mem_singleton] at hn
          subst hn
          exact ⟨Int.le_refl _, fun _ => Int.le_refl _⟩
      · rw [if_neg (by rintro (h' | h') <;> contradiction)]
        refine ⟨by simp [hb], fun n hn => ?_⟩
        rcases List.mem_append.1 hn with hn | hn
        · exact h n hn
        · simp only [List.mem_singleton] at hn
          subst hn
          exact ⟨by omega, fun _ => hx b hb⟩
theorem sort_pair (ns : List Int) : (ns.mergeSort leB).Pairwise (fun x y => x ≤ y) :=
  (List.pairwise_mergeSort (le := leB) (fun a b c h1 h2 => by simp only [leB, decide_eq_true_eq] at *; omega) (fun a b => by simp only [leB, Bool.or_eq_true, decide_eq_true_eq]; omega) ns).imp fun h => of_decide_eq_true h
theorem bestRef_eq {ns : List Int} {bs : List Block} (ok : TreeOK ns bs) : bestRef ns bs = (bestP ns bs).1 := by
  have hone : ∀ n ∈ ns, 1 ≤ n := fun n hn => (ok.name ((idx_mem _ _).2 hn)).1
  have hs := bStep_inv ns bs (ns.mergeSort leB) [] 0 (sort_pair ns) (fun n hn => hone n (List.mem_mergeSort.1 hn)) (.inl ⟨rfl, rfl⟩)
  obtain ⟨s1, s2, s3, s4⟩ := best_spec ns bs
  rcases hs with ⟨h1, h2⟩ | ⟨h1, h2⟩
  · have hn : ns = [] := by
      have := List.length_mergeSort (le := leB) ns
      rw [List.nil_append] at h1
      rw [h1] at this
      exact List.eq_nil_of_length_eq_zero this.symm
    subst hn
    exact h2
  · simp only [List.nil_append, List.mem_mergeSort] at h1 h2
    change bestRef ns bs ∈ ns at h1
    change ∀ n ∈ ns, pw ns bs n ≤ pw ns bs (bestRef ns bs) ∧ (pw ns bs n = pw ns bs (bestRef ns bs) → bestRef ns bs ≤ n) at h2
    have h3 := s4 _ h1
    have hpos := pw_pos ok ((idx_mem _ _).2 h1)
    have hin : (bestP ns bs).1 ∈ ns := by
      rcases s3 with s3 | s3
      · rw [s1, s3, pw_zero] at h3; omega
      · exact s3
    have h4 := h2 _ hin
    have e : pw ns bs (bestRef ns bs) = pw ns bs (bestP ns bs).1 := by omega
    have := h4.2 e.symm
    have := h3.2 (by omega)
    omega
noncomputable def spSort : Spec := specOf (fun x : { l : List Int // l.length ≤ 1000000 } => [.l 1 (x.1.map eInt)]) fun x => [.l 1 ((x.1.mergeSort leB).map eInt)]
theorem spSort_at (ns : List Int) (h : ns.length ≤ 1000000) : spSort [.l 1 (ns.map eInt)] = some [.l 1 ((ns.mergeSort leB).map eInt)] :=
  specOf_at (e := fun x : { l : List Int // l.length ≤ 1000000 } => [.l 1 (x.1.map eInt)]) (fun x y h => Subtype.ext (map_inj eInt_inj (by simpa using h))) ⟨ns, h⟩
attribute [local irreducible] specOf
abbrev BestDom := { x : Tree // treeCheck x = 0 }
noncomputable def spBestOf : Spec := specOf (fun x : BestDom => eTree x.1) fun x => [I (bestP x.1.names x.1.blocks).1]
theorem spBestOf_at (ns : List Int) (bs : List Block) (h : treeCheck ⟨ns, bs⟩ = 0) : spBestOf [.l 1 (ns.map eInt), .l 5 (bs.map eBlock)] = some [I (bestP ns bs).1] :=
  specOf_at (e := fun x : BestDom => eTree x.1) (fun x y h => Subtype.ext (eTree_inj _ _ h)) ⟨⟨ns, bs⟩, h⟩
theorem best_den {sp : Nat → Spec} (h3 : sp 3 = spCloneI) (h4 : sp 4 = spWorkOf) (h13 : sp 13 = spSort) (ns : List Int) (bs : List Block) (ht : treeCheck ⟨ns, bs⟩ = 0) :
    den sp 30 tBestOf [.l 1 (ns.map eInt), .l 5 (bs.map eBlock)] [] = some [I (bestP ns bs).1] := by
  have ok := (treeCheck_iff ns bs).1 ht
  have hle := ok.le
  have hone : ∀ n ∈ ns, 1 ≤ n := fun n hn => (ok.name ((idx_mem _ _).2 hn)).1
  rw [← bestRef_eq ok]
  obtain ⟨s, hs⟩ : ∃ s, s = ns.mergeSort leB := ⟨_, rfl⟩
  have hsl : s.length = ns.length := by rw [hs, List.length_mergeSort]
  have hsm : ∀ n ∈ s, n ∈ ns := fun n hn => List.mem_mergeSort.1 (hs ▸ hn)
  have hsort := spSort_at ns (by omega)
  have hB : bestRef ns bs = s.foldl (bStep ns bs) 0 := by rw [hs]; rfl
  rw [← hs] at hsort
  rw [hB]
  have hbest : ∀ i, (s.take i).foldl (bStep ns bs) 0 = 0 ∨ 0 ≤ idx ns ((s.take i).foldl (bStep ns bs) 0) := by
    intro i
    have hsub : ∀ n ∈ s.take i, n ∈ s := fun n hn => List.mem_of_mem_take hn
    have key : ∀ (l : List Int) (b : Int), (b = 0 ∨ 0 ≤ idx ns b) → (∀ n ∈ l, n ∈ ns) → (l.foldl (bStep ns bs) b = 0 ∨ 0 ≤ idx ns (l.foldl (bStep ns bs) b)) := by
      intro l
      induction l with
      | nil => intro b hb _; exact hb
      | cons x l ih =>
        intro b hb hl
        rw [List.foldl_cons]
        refine ih _ ?_ fun n hn => hl n (List.mem_cons_of_mem _ hn)
        unfold bStep
        split
        · exact .inr ((idx_mem _ _).2 (hl x (List.mem_cons_self ..)))
        · exact hb
    exact key _ 0 (.inl rfl) fun n hn => hsm n (hsub n hn)
  clear hs hB
  unfold tBestOf
  refine den_let1 (d := .l 1 (ns.map eInt)) (den_call rfl (by rw [h3]; exact spCloneI_at ns (by omega)) rfl) ?_
  refine den_let1 (d := .l 1 (s.map eInt)) (den_call rfl (by rw [h13]; exact hsort) rfl) ?_
  refine den_let1 (d := I s.length) (by show some (I ((s.map eInt).length : Nat)) = _; rw [List.length_map]) ?_
  refine den_loop' (st := fun i => [I ((s.take i).foldl (bStep ns bs) 0), I i]) (n := s.length) rfl (by omega) (fun i hi again hag => ?_) (fun again => ?_)
  · simp only [List.cons_append, List.nil_append]
    have hi0 : (0 : Int) ≤ (i : Int) := by omega
    have hi1 : (i : Int) < (s.map eInt).length := by simp; omega
    have hi3 : (i : Int) < (s.length : Int) := by omega
    have hx1 : (s.map eInt)[(i : Int).toNat]? = some [I s[i]] := by simp [hi, eInt]
    have hxm : 0 ≤ idx ns s[i] := (idx_mem _ _).2 (hsm _ (List.getElem_mem hi))
    have hst : (s.take (i + 1)).foldl (bStep ns bs) 0 = bStep ns bs ((s.take i).foldl (bStep ns bs) 0) s[i] := by
      rw [List.take_add_one, List.getElem?_eq_getElem hi, List.foldl_append]; rfl
    have hcast : ((i + 1 : Nat) : Int) = (i : Int) + 1 := by omega
    have hlim : (i : Int) + 1 ≤ 30 := by omega
    have hb := hbest i
    simp only [hcast] at hag
    generalize (s.take (i + 1)).foldl (bStep ns bs) 0 = b' at *
    generalize (s.take i).foldl (bStep ns bs) 0 = b at *
    generalize s[i] = x at *
    generalize (i : Int) = k at *
    refine den_let1 (d := .b (decide (k < s.length))) rfl ?_
    refine den_ite rfl (fun _ => ?_) (fun h => absurd (of_decide_eq_false h) (by omega))
    refine den_ck (hold_inr rfl rfl hi0 hi1) ?_
    refine den_let1 (d := I x) (den_idx rfl rfl hi0 hx1 rfl) ?_
    refine den_let1 (d := .b (decide (b = 0))) rfl ?_
    refine den_ite rfl (fun h => ?_) (fun h => ?_)
    · have h := of_decide_eq_true h
      refine den_let1 (d := I (k + 1)) (den_add rfl rfl (by omega)) ?_
      refine den_again rfl rfl ?_
      rw [show x = b' by rw [hst]; unfold bStep; rw [if_pos (.inl h)]]; exact hag
    · have h := of_decide_eq_false h
      have hb := hb.resolve_left h
      refine den_let1 (d := I (pw ns bs x)) (den_call rfl (by rw [h4]; exact spWorkOf_at ns bs x ht (.inr hxm)) rfl) ?_
      refine den_let1 (d := I (pw ns bs b)) (den_call rfl (by rw [h4]; exact spWorkOf_at ns bs b ht (.inr hb)) rfl) ?_
      refine den_let1 (d := .b (decide (pw ns bs b < pw ns bs x))) rfl ?_
      refine den_ite rfl (fun h2 => ?_) (fun h2 => ?_)
      · have h2 := of_decide_eq_true h2
        refine den_let1 (d := I (k + 1)) (den_add rfl rfl (by omega)) ?_
        refine den_again rfl rfl ?_
        rw [show x = b' by rw [hst]; unfold bStep; rw [if_pos (.inr h2)]]; exact hag
      · have h2 := of_decide_eq_false h2
        refine den_let1 (d := I (k + 1)) (den_add rfl rfl (by omega)) ?_
        refine den_again rfl rfl ?_
        rw [show b = b' by rw [hst]; unfold bStep; rw [if_neg (by rintro (h' | h') <;> contradiction)]]; exact hag
  · simp only [List.cons_append, List.nil_append, List.take_length]
    generalize s.foldl (bStep ns bs) 0 = b at *
    refine den_let1 (d := .b (decide ((s.length : Int) < s.length))) rfl ?_
    refine den_ite rfl (fun h => absurd (of_decide_eq_true h) (by omega)) (fun _ => ?_)
    exact den_ret rfl rfl
end Go.Proofs.Ytnnbnjanekibpaa
namespace Go.Proofs.Ytnnbnjanekibpaa
open Go.RowKit Go.Shelf
set_option linter.unusedVariables false
set_option maxRecDepth 100000
theorem reps_ints {W : World} {F : Nat → Prop} : ∀ {zs : List Int} {vs : List Value}, Reps W F (zs.map eInt).flatten vs → vs = zs.map (Value.int .i64) ∧ ∀ z ∈ zs, I64 z
  | [], vs, h => by
    match vs, h with
    | [], _ => exact ⟨rfl, by simp⟩
  | z :: zs, vs, h => by
    match vs, h with
    | v :: vs, h =>
      obtain ⟨h1, h2⟩ := h
      obtain ⟨rfl, hz⟩ := rep_int h1
      obtain ⟨rfl, h3⟩ := reps_ints h2
      refine ⟨rfl, fun y hy => ?_⟩
      rcases List.mem_cons.1 hy with rfl | hy
      · exact hz
      · exact h3 y hy
theorem ints_reps {W : World} {F : Nat → Prop} : ∀ {zs : List Int}, (∀ z ∈ zs, I64 z) → Reps W F (zs.map eInt).flatten (zs.map (Value.int .i64))
  | [], _ => trivial
  | z :: zs, h => ⟨.i _ _ (wrap_i64 (h z (List.mem_cons_self ..))), ints_reps fun y hy => h y (List.mem_cons_of_mem _ hy)⟩
theorem sort_heap {W : World} {g n : Nat} {cur : Array Value} {e : Nat} {z : Nat × Nat} {d : Array Int} {os : Array Obj} (hh : W.heap[g]? = some (.cells cur e z)) :
    (Go.Sort.grow (Go.Sort.putRow (Value.int .i64) (Go.Sort.ahead W n) g 0 d) os).heap[g]? = some (.cells (Go.Sort.putCells (Value.int .i64) 0 d cur) e z) := by
  have hlt : g < W.heap.size := by
    rcases Nat.lt_or_ge g W.heap.size with h | h
    · exact h
    · rw [Array.getElem?_eq_none h] at hh; cases hh
  have hm : (Go.Sort.putRow (Value.int .i64) (Go.Sort.ahead W n) g 0 d).heap[g]? = some (.cells (Go.Sort.putCells (Value.int .i64) 0 d cur) e z) := by
    show (W.heap.modify g (Go.Sort.onCells _))[g]? = _
    rw [Array.getElem?_modify, if_pos rfl, hh]; rfl
  show ((Go.Sort.putRow (Value.int .i64) (Go.Sort.ahead W n) g 0 d).heap ++ os)[g]? = _
  rw [Array.getElem?_append_left (by rw [Go.Sort.size_putRow]; exact hlt)]
  exact hm
theorem sort_grown {W : World} {g n : Nat} {d : Array Int} {os : Array Obj} : W.grownBy (Go.Sort.grow (Go.Sort.putRow (Value.int .i64) (Go.Sort.ahead W n) g 0 d) os) (some g) where
  os := rfl
  tape := rfl
  output := rfl
  size := by
    show W.heap.size ≤ ((W.heap.modify g _) ++ os).size
    simp
  block := fun k hk hne => by
    have hg : g ≠ k := fun e => hne (by rw [e])
    show ((W.heap.modify g (Go.Sort.onCells _)) ++ os)[k]? = _
    rw [Array.getElem?_append_left (by simpa using hk), Array.getElem?_modify, if_neg hg]
theorem put_take {d : List Int} {cur : Array Value} {n : Nat} (hn : d.length = n) (hc : n ≤ cur.size) : (Go.Sort.putCells (Value.int .i64) 0 d.toArray cur).toList.take (n * 1) = d.map (Value.int .i64) := by
  apply List.ext_getElem?
  intro i
  rw [Nat.mul_one, List.getElem?_take]
  by_cases hi : i < n
  · rw [if_pos hi]
    have h1 : i < cur.size := by omega
    have h2 : i < d.length := by omega
    have h3 : (Go.Sort.putCells (Value.int .i64) 0 d.toArray cur)[i]? = some (Value.int .i64 d[i]) := by
      unfold Go.Sort.putCells
      rw [Array.getElem?_mapIdx, Array.getElem?_eq_getElem h1, Option.map_some, if_pos (by simp; omega)]
      simp [h2]
    rw [Array.getElem?_toList, h3]
    simp [h2]
  · rw [if_neg hi, List.getElem?_eq_none (by simp; omega)]
theorem mSort : Meets Try.prog spSort 108 ⟨[.mine 3 1], [], false⟩ := by
  refine ⟨fun h => (by cases h), fun e sz ps he => ?_⟩
  injection he with he he2
  injection he with he he3
  subst he; subst he3; subst he2
  intro W F base v xs vs ds args rs hF hbase hblk hsz hrow hreps hargs hsp
  obtain ⟨rfl, rfl⟩ := hargs
  obtain ⟨x, hx, rfl⟩ := specOf_some hsp
  simp only [List.cons.injEq, Dt.l.injEq, true_and, and_true] at hx
  subst hx
  obtain ⟨x, hxl⟩ := x
  simp only at hsz hrow hreps
  obtain ⟨rfl, hI⟩ := reps_ints hreps
  have hen : En Try.prog 108 := en_of (fn := Try.f108) (by kernel_rfl) (by kernel_rfl) (by kernel_rfl)
  have hIs : ∀ z ∈ x.mergeSort leB, I64 z := fun z hz => hI z (List.mem_mergeSort.1 hz)
  refine ⟨_, rfl, fun y hy => ?_, .inl ⟨hen.run _ _, ?_⟩⟩
  · obtain ⟨z, _, rfl⟩ := List.mem_map.1 hy
    rfl
  rw [List.length_map] at hrow
  rcases hrow.2 with ⟨rfl, hn⟩ | ⟨g, cap, cur, rfl, hg, hh, hnc, hcm, hcs, ht⟩
  · obtain rfl : x = [] := List.eq_nil_of_length_eq_zero hn
    refine (Any.sort_Ints_none Try.lays191 none 0 W).mono ?_
    rintro e w' ⟨rfl, rfl⟩
    have e0 : ([] : List Int).mergeSort leB = [] := List.eq_nil_of_length_eq_zero (List.length_mergeSort _)
    refine ⟨_, rfl, .slice none 0 0, [], ⟨fun _ => rfl, fun h => absurd rfl h⟩, World.grownBy.refl _ _, ?_, ?_, fun b hb => .inl hb⟩
    · show w'.ownsRow base 3 1 (.slice none 0 0) ((([] : List Int).mergeSort leB).map eInt).length []
      rw [e0]; exact hrow
    · show Reps w' F ((([] : List Int).mergeSort leB).map eInt).flatten []
      rw [e0]; trivial
  · have hlt : g < W.heap.size := by
      rcases Nat.lt_or_ge g W.heap.size with h | h
      · exact h
      · rw [Array.getElem?_eq_none h] at hh; cases hh
    have hcell : ∀ j, j < x.length → W.cell? ⟨g, 0 + j, none⟩ = some (.int .i64 (x.getD j 0)) := by
      intro j hj
      have e1 : (cur.toList.take (x.length * 1))[j]? = some (.int .i64 x[j]) := by rw [ht]; simp [hj]
      rw [List.getElem?_take] at e1
      split at e1
      · rw [cell_of_row W g _ cur _ (0, 0) hh]
        simpa [List.getD, hj] using e1
      · cases e1
    have hH : Go.Sort.Holds (Value.int .i64) W g 0 x.toArray := by
      intro j hj
      have hj : j < x.length := by simpa using hj
      refine ⟨?_, blk_free hh⟩
      rw [hcell j hj]
      simp [List.getD, hj]
    refine (Any.sort_Ints Try.lays191 g 0 cap x W hH hlt (by omega)).mono ?_
    rintro e w' ⟨rfl, n, os, rfl⟩
    have hsl : (x.mergeSort leB).length = x.length := List.length_mergeSort _
    refine ⟨_, rfl, .slice (some ⟨g, 0, none⟩) x.length cap, (x.mergeSort leB).map (Value.int .i64), ⟨fun _ => rfl, fun h => absurd rfl h⟩, sort_grown, ?_, ints_reps hIs, fun b hb => .inl hb⟩
    rw [List.length_map, hsl]
    refine ⟨by simp [hsl], .inr ⟨g, cap, _, rfl, hg, sort_heap hh, hnc, hcm, ?_, ?_⟩⟩
    · exact Eq.trans (by simp [Go.Sort.putCells]) hcs
    · exact put_take hsl (by omega)
end Go.Proofs.Ytnnbnjanekibpaa
namespace Go.Proofs.Ytnnbnjanekibpaa
open Go.RowKit
set_option linter.unusedVariables false
set_option linter.unusedSimpArgs false
set_option maxRecDepth 100000
section
variable {sp : Nat → Spec} {N : Nat} {E : Env} {ks : List (List Dt → Option (List Dt))} {res : Option (List Dt)}
theorem den_eql {a b : Atom} {m n : Int} (ha : a.val E = some (I m)) (hb : b.val E = some (I n)) (h : m = n) : denX sp E (.bin .eql a b) = some (.b true) := by
  have e : denX sp E (.bin .eql a b) = some (.b (decide (m = n))) := by simp only [denX, ha, hb, Option.bind_eq_bind, Option.bind_some]; rfl
  rw [e, decide_eq_true h]
theorem den_neq {a b : Atom} {m n : Int} (ha : a.val E = some (I m)) (hb : b.val E = some (I n)) (h : m = n) : denX sp E (.bin .neq a b) = some (.b false) := by
  have e : denX sp E (.bin .neq a b) = some (.b (!decide (m = n))) := by simp only [denX, ha, hb, Option.bind_eq_bind, Option.bind_some]; rfl
  rw [e, decide_eq_true h]; rfl
theorem den_neq' {a b : Atom} {m n : Int} (ha : a.val E = some (I m)) (hb : b.val E = some (I n)) (h : m ≠ n) : denX sp E (.bin .neq a b) = some (.b true) := by
  have e : denX sp E (.bin .neq a b) = some (.b (!decide (m = n))) := by simp only [denX, ha, hb, Option.bind_eq_bind, Option.bind_some]; rfl
  rw [e, decide_eq_false h]; rfl
theorem den_t {a : Atom} {t e : T} (h : a.val E = some (.b true)) (ht : den sp N t E ks = res) : den sp N (.ite a t e) E ks = res := den_ite h (fun _ => ht) (fun h => by cases h)
theorem den_f {a : Atom} {t e : T} (h : a.val E = some (.b false)) (he : den sp N e E ks = res) : den sp N (.ite a t e) E ks = res := den_ite h (fun h => by cases h) (fun _ => he)
theorem den_len {a : Atom} {sz : Nat} {xs : List (List Dt)} {n : Int} (ha : a.val E = some (.l sz xs)) (h : (xs.length : Int) = n) : denX sp E (.len a) = some (I n) := by
  simp only [denX, ha]; rw [h]
end
def lastIn (xs ys : List Int) (l : Int) : Int := xs.foldl (fun acc x => if memB ys x = true then x else acc) l
theorem lastIn_fork (ys : List Int) : ∀ (xs : List Int) (o : Nat) (l : Int), (∀ (k : Nat) (v : Int), xs[k]? = some v → (v ∈ ys ↔ (ys.drop o)[k]? = some v)) → lastIn xs ys l = forkL xs (ys.drop o) l
  | [], o, l, h => by unfold lastIn; cases ys.drop o <;> rfl
  | x :: xs, o, l, h => by
    have hx := h 0 x rfl
    have hl : lastIn (x :: xs) ys l = lastIn xs ys (if memB ys x = true then x else l) := rfl
    cases hd : ys.drop o with
    | nil =>
      rw [hd] at hx
      have hm : ¬ memB ys x = true := by
        intro hm
        have := hx.1 (of_decide_eq_true hm)
        cases this
      rw [hl, if_neg hm, forkL_nil]
      have := lastIn_fork ys xs o l fun k v hk => by
        have := h (k + 1) v (by simpa using hk)
        rw [hd] at this ⊢
        simpa using this
      rw [this, hd, forkL_nil]
    | cons y r =>
      rw [hd] at hx
      have hr : ys.drop (o + 1) = r := by rw [← List.drop_drop, hd]; rfl
      rw [hl, forkL]
      have e : (if memB ys x = true then x else l) = (if x = y then x else l) := by
        have : memB ys x = true ↔ x = y := by
          unfold memB
          rw [decide_eq_true_iff, hx]
          simp [eq_comm]
        by_cases hxy : x = y
        · rw [if_pos (this.2 hxy), if_pos hxy]
        · rw [if_neg fun h => hxy (this.1 h), if_neg hxy]
      rw [e, ← hr]
      refine lastIn_fork ys xs (o + 1) _ fun k v hk => ?_
      have := h (k + 1) v (by simpa using hk)
      rw [hd] at this
      rw [hr]
      simpa using this
theorem fork_last {ns : List Int} {bs : List Block} (ok : TreeOK ns bs) {a b : Int} (ha : a = 0 ∨ 0 ≤ idx ns a) (hb : b = 0 ∨ 0 ≤ idx ns b) : lastIn (pathL ns bs a) (pathL ns bs b) 0 = forkL (pathL ns bs a) (pathL ns bs b) 0 := by
  have := lastIn_fork (pathL ns bs b) (pathL ns bs a) 0 0 fun k v hk => ?_
  · rw [List.drop_zero] at this; exact this
  · rw [List.drop_zero]
    refine ⟨fun hm => ?_, fun h => List.mem_of_getElem? h⟩
    obtain ⟨k', hk'⟩ := List.getElem?_of_mem hm
    have h1 := (pathL_take ok _ (Nat.le_refl _) ha hk).1
    have h2 := (pathL_take ok _ (Nat.le_refl _) hb hk').1
    have h3 := congrArg List.length (h1.trans h2.symm)
    rw [List.length_take, List.length_take] at h3
    have l1 := (List.getElem?_eq_some_iff.1 hk).1
    have l2 := (List.getElem?_eq_some_iff.1 hk').1
    have : k = k' := by omega
    rw [this]; exact hk'
abbrev PathAll := { x : Tree × Int // treeCheck x.1 = 0 }
noncomputable def spPath : Spec := specOf (fun x : PathAll => eTN x.1) fun x => [.l 1 ((refPath x.1.1.names x.1.1.blocks x.1.2).1.map eInt), .b (refPath x.1.1.names x.1.1.blocks x.1.2).2]
noncomputable def spTPath : Spec := specOf eTN fun x => [.l 1 ((pPath x.1 x.2).1.map eInt), I (pPath x.1 x.2).2]
noncomputable def spTWork : Spec := specOf eTN fun x => [I (pWork x.1 x.2).1, I (pWork x.1 x.2).2]
abbrev eTNN (x : Tree × Int × Int) : List Dt := eTree x.1 ++ [I x.2.1, I x.2.2]
noncomputable def spTFork : Spec := specOf eTNN fun x => [I (pFork x.1 x.2.1 x.2.2).1, I (pFork x.1 x.2.1 x.2.2).2]
noncomputable def spTBest : Spec := specOf eTree fun x => [I (pBest x).1, I (pBest x).2]
abbrev e2I (x : List Int × List Int) : List Dt := [.l 1 (x.1.map eInt), .l 1 (x.2.map eInt)]
noncomputable def spEqual : Spec := specOf e2I fun x => [.b (eqB x.1 x.2)]
theorem eTNN_inj (x y : Tree × Int × Int) (h : eTNN x = eTNN y) : x = y := by
  obtain ⟨⟨a, k⟩, n, m⟩ := x
  obtain ⟨⟨a', k'⟩, n', m'⟩ := y
  simp only [eTNN, eTree, List.cons_append, List.nil_append, List.cons.injEq, Dt.i.injEq, true_and, Dt.l.injEq, and_true] at h
  obtain ⟨h1, h2, rfl, rfl⟩ := h
  rw [map_inj eInt_inj h1, map_inj eBlock_inj h2]
theorem e2I_inj (x y : List Int × List Int) (h : e2I x = e2I y) : x = y := by
  obtain ⟨a, k⟩ := x
  obtain ⟨a', k'⟩ := y
  simp only [e2I, List.cons.injEq, Dt.l.injEq, true_and, and_true] at h
  rw [map_inj eInt_inj h.1, map_inj eInt_inj h.2]
theorem spGrown_at' : spGrown [] = some [.b true] := specOf_at (e := fun _ : Unit => []) (fun _ _ _ => rfl) ()
theorem spPath_at (ns : List Int) (bs : List Block) (m : Int) (h : treeCheck ⟨ns, bs⟩ = 0) : spPath [.l 1 (ns.map eInt), .l 5 (bs.map eBlock), I m] = some [.l 1 ((refPath ns bs m).1.map eInt), .b (refPath ns bs m).2] :=
  specOf_at (e := fun x : PathAll => eTN x.1) (fun x y h => Subtype.ext (eTN_inj' _ _ h)) ⟨(⟨ns, bs⟩, m), h⟩
theorem spTPath_at (t : Tree) (m : Int) : spTPath (eTree t ++ [I m]) = some [.l 1 ((pPath t m).1.map eInt), I (pPath t m).2] := specOf_at (e := eTN) eTN_inj' (t, m)
theorem spTWork_at (t : Tree) (m : Int) : spTWork (eTree t ++ [I m]) = some [I (pWork t m).1, I (pWork t m).2] := specOf_at (e := eTN) eTN_inj' (t, m)
theorem spTFork_at (t : Tree) (a b : Int) : spTFork (eTree t ++ [I a, I b]) = some [I (pFork t a b).1, I (pFork t a b).2] := specOf_at (e := eTNN) eTNN_inj (t, a, b)
theorem spTBest_at (t : Tree) : spTBest (eTree t) = some [I (pBest t).1, I (pBest t).2] := specOf_at (e := eTree) eTree_inj t
theorem spEqual_at (x y : List Int) : spEqual [.l 1 (x.map eInt), .l 1 (y.map eInt)] = some [.b (eqB x y)] := specOf_at (e := e2I) e2I_inj (x, y)
attribute [local irreducible] specOf
noncomputable def spsPaths (ci : Nat) : Spec := [spIndex, spPath, spContains, spCloneI, spWorkOf, spGrown, spCheckTree, spTPath, spTWork, spTFork, spTBest, spBestOf, spEqual].getD ci fun _ => none
set_option maxHeartbeats 1000000 in
theorem paths_den (t : Tree) (a b : Int) : den spsPaths 30 tTreePaths (eTree t ++ [I a, I b]) [] = some [.b true] := by
  obtain ⟨ns, bs⟩ := t
  have hP := spTPath_at ⟨ns, bs⟩ a
  have hW := spTWork_at ⟨ns, bs⟩ a
  have hF := spTFork_at ⟨ns, bs⟩ a b
  have hB := spTBest_at ⟨ns, bs⟩
  have hC := spCheckTree_at ns bs
  show den spsPaths 30 tTreePaths [.l 1 (ns.map eInt), .l 5 (bs.map eBlock), I a, I b] [] = some [.b true]
  unfold tTreePaths
  have start : ∀ (p : List Int) (e w f k g n h : Int), pPath ⟨ns, bs⟩ a = (p, e) → pWork ⟨ns, bs⟩ a = (w, f) → pFork ⟨ns, bs⟩ a b = (k, g) → pBest ⟨ns, bs⟩ = (n, h) → ∀ (t' : T) (res : Option (List Dt)),
      den spsPaths 30 t' [.l 1 (ns.map eInt), .l 5 (bs.map eBlock), I a, I b, .l 1 (p.map eInt), I e, I w, I f, I k, I g, I n, I h, I (treeCheck ⟨ns, bs⟩), .b true, .b false] [] = res → ∀ bad : T,
      den spsPaths 30 (.lets [.call 7 [.v 0, .v 1, .v 2] 0, .call 7 [.v 0, .v 1, .v 2] 1] [] (.lets [.call 8 [.v 0, .v 1, .v 2] 0, .call 8 [.v 0, .v 1, .v 2] 1] [] (.lets [.call 9 [.v 0, .v 1, .v 2, .v 3] 0, .call 9 [.v 0, .v 1, .v 2, .v 3] 1] [] (.lets [.call 10 [.v 0, .v 1] 0, .call 10 [.v 0, .v 1] 1] [] (.lets [.call 6 [.v 0, .v 1] 0] [] (.lets [.call 5 [] 0] [] (.lets [.not (.v 13)] [] (.ite (.v 14) bad t'))))))))
        [.l 1 (ns.map eInt), .l 5 (bs.map eBlock), I a, I b] [] = res := by
    intro p e w f k g n h e1 e2 e3 e4 t' res ht bad
    rw [e1] at hP; rw [e2] at hW; rw [e3] at hF; rw [e4] at hB
    refine den_lets (ds := [.l 1 (p.map eInt), I e]) (den_calls' (ci := 7) rfl rfl hP) ?_
    refine den_lets (ds := [I w, I f]) (den_calls' (ci := 8) rfl rfl hW) ?_
    refine den_lets (ds := [I k, I g]) (den_calls' (ci := 9) rfl rfl hF) ?_
    refine den_lets (ds := [I n, I h]) (den_calls' (ci := 10) rfl rfl hB) ?_
    refine den_let1 (d := I (treeCheck ⟨ns, bs⟩)) (den_call rfl hC rfl) ?_
    refine den_let1 (d := .b true) (den_call rfl spGrown_at' rfl) ?_
    refine den_let1 (d := .b false) rfl ?_
    refine den_f rfl ?_
    exact ht
  by_cases h0 : treeCheck ⟨ns, bs⟩ = 0
  · have ok := (treeCheck_iff ns bs).1 h0
    have kB : pBest ⟨ns, bs⟩ = ((bestP ns bs).1, 0) := pBest_eq h0
    have hpa := spPath_at ns bs a h0
    have hpb := spPath_at ns bs b h0
    have hbo := spBestOf_at ns bs h0
    by_cases ha : a ≠ 0 ∧ idx ns a < 0
    · have k1 : pPath ⟨ns, bs⟩ a = ([], 5) := by unfold pPath; rw [if_neg (fun h => h h0), if_pos ha]
      have k2 : pWork ⟨ns, bs⟩ a = (0, 5) := by unfold pWork; rw [k1]; rfl
      have k3 : pFork ⟨ns, bs⟩ a b = (0, 5) := by unfold pFork; rw [k1]; rfl
      refine start _ _ _ _ _ _ _ _ k1 k2 k3 kB _ _ ?_ _
      rw [h0]
      have k4 : refPath ns bs a = ([], false) := by unfold refPath; rw [if_pos ha]
      rw [k4] at hpa
      refine den_let1 (d := .b false) (den_neq rfl rfl rfl) ?_
      refine den_f rfl ?_
      refine den_lets (ds := [.l 1 [], .b false]) (den_calls' (ci := 1) rfl rfl hpa) ?_
      refine den_lets (ds := [.l 1 ((refPath ns bs b).1.map eInt), .b (refPath ns bs b).2]) (den_calls' (ci := 1) rfl rfl hpb) ?_
      refine den_let1 (d := .b false) (den_neq rfl rfl rfl) ?_
      refine den_f rfl ?_
      refine den_let1 (d := I (bestP ns bs).1) (den_call rfl hbo rfl) ?_
      refine den_let1 (d := .b false) (den_neq rfl rfl rfl) ?_
      refine den_f rfl ?_
      refine den_let1 (d := .b true) rfl ?_
      refine den_t rfl ?_
      refine den_let1 (d := .b true) (den_eql rfl rfl rfl) ?_
      refine den_t rfl ?_
      refine den_let1 (d := .b true) (den_eql rfl rfl rfl) ?_
      refine den_t rfl ?_
      refine den_let1 (d := .b true) (den_eql rfl rfl rfl) ?_
      refine den_t rfl ?_
      refine den_let1 (d := I 0) (den_len rfl rfl) ?_
      refine den_let1 (d := .b true) (den_eql rfl rfl rfl) ?_
      refine den_t rfl ?_
      refine den_let1 (d := .b true) (den_eql rfl rfl rfl) ?_
      refine den_t rfl ?_
      refine den_let1 (d := .b true) (den_eql rfl rfl rfl) ?_
      exact den_ret rfl rfl
    · have ha' : a = 0 ∨ 0 ≤ idx ns a := by omega
      have hla := pathL_len ok ha'
      have k1 : pPath ⟨ns, bs⟩ a = (pathL ns bs a, 0) := pPath_eq h0 ha'
      have k2 : pWork ⟨ns, bs⟩ a = (pw ns bs a, 0) := pWork_eq h0 ha'
      have k4 : refPath ns bs a = (pathL ns bs a, true) := by unfold refPath; rw [if_neg ha]
      have hwo := spWorkOf_at ns bs a h0 ha'
      have heq := spEqual_at (pathL ns bs a) (pathL ns bs a)
      rw [show eqB (pathL ns bs a) (pathL ns bs a) = true by simp [eqB]] at heq
      rw [k4] at hpa
      have mid : ∀ (k g : Int), pFork ⟨ns, bs⟩ a b = (k, g) → ∀ (t' : T) (res : Option (List Dt)),
          den spsPaths 30 t' [.l 1 (ns.map eInt), .l 5 (bs.map eBlock), I a, I b, .l 1 ((pathL ns bs a).map eInt), I 0, I (pw ns bs a), I 0, I k, I g, I (bestP ns bs).1, I 0, I 0, .b true, .b false, .b false, .l 1 ((pathL ns bs a).map eInt), .b true, .l 1 ((refPath ns bs b).1.map eInt), .b (refPath ns bs b).2, .b false, I (bestP ns bs).1, .b false, .b false, .b false, .b false, .b true, .b false, I (pw ns bs a), .b false] [] = res → ∀ b1 b2 b3 b4 b5 b6 b7 : T,
          den spsPaths 30 (.lets [.bin .neq (.v 12) (.c (.i .i64 0))] [] (.ite (.v 15) b1 (.lets [.call 1 [.v 0, .v 1, .v 2] 0, .call 1 [.v 0, .v 1, .v 2] 1] [] (.lets [.call 1 [.v 0, .v 1, .v 3] 0, .call 1 [.v 0, .v 1, .v 3] 1] [] (.lets [.bin .neq (.v 11) (.c (.i .i64 0))] [] (.ite (.v 20) b2 (.lets [.call 11 [.v 0, .v 1] 0] [] (.lets [.bin .neq (.v 10) (.v 21)] [] (.ite (.v 22) b3 (.lets [.not (.v 17)] [] (.ite (.v 23) b4 (.lets [.bin .neq (.v 5) (.c (.i .i64 0))] [] (.ite (.v 24) b5 (.lets [.bin .neq (.v 7) (.c (.i .i64 0))] [] (.ite (.v 25) b6 (.lets [.call 12 [.v 4, .v 16] 0] [] (.lets [.not (.v 26)] [] (.ite (.v 27) b7 (.lets [.call 4 [.v 0, .v 1, .v 2] 0] [] (.lets [.bin .neq (.v 6) (.v 28)] [] t'))))))))))))))))))))
            [.l 1 (ns.map eInt), .l 5 (bs.map eBlock), I a, I b, .l 1 ((pathL ns bs a).map eInt), I 0, I (pw ns bs a), I 0, I k, I g, I (bestP ns bs).1, I 0, I 0, .b true, .b false] [] = res := by
        intro k g _ t' res ht b1 b2 b3 b4 b5 b6 b7
        refine den_let1 (d := .b false) (den_neq rfl rfl rfl) ?_
        refine den_f rfl ?_
        refine den_lets (ds := [.l 1 ((pathL ns bs a).map eInt), .b true]) (den_calls' (ci := 1) rfl rfl hpa) ?_
        refine den_lets (ds := [.l 1 ((refPath ns bs b).1.map eInt), .b (refPath ns bs b).2]) (den_calls' (ci := 1) rfl rfl hpb) ?_
        refine den_let1 (d := .b false) (den_neq rfl rfl rfl) ?_
        refine den_f rfl ?_
        refine den_let1 (d := I (bestP ns bs).1) (den_call rfl hbo rfl) ?_
        refine den_let1 (d := .b false) (den_neq rfl rfl rfl) ?_
        refine den_f rfl ?_
        refine den_let1 (d := .b false) rfl ?_
        refine den_f rfl ?_
        refine den_let1 (d := .b false) (den_neq rfl rfl rfl) ?_
        refine den_f rfl ?_
        refine den_let1 (d := .b false) (den_neq rfl rfl rfl) ?_
        refine den_f rfl ?_
        refine den_let1 (d := .b true) (den_call rfl heq rfl) ?_
        refine den_let1 (d := .b false) rfl ?_
        refine den_f rfl ?_
        refine den_let1 (d := I (pw ns bs a)) (den_call rfl hwo rfl) ?_
        refine den_let1 (d := .b false) (den_neq rfl rfl rfl) ?_
        exact ht
      by_cases hb : b ≠ 0 ∧ idx ns b < 0
      · have k5 : pPath ⟨ns, bs⟩ b = ([], 5) := by unfold pPath; rw [if_neg (fun h => h h0), if_pos hb]
        have k3 : pFork ⟨ns, bs⟩ a b = (0, 5) := by unfold pFork; rw [k1, k5]; rfl
        have k6 : refPath ns bs b = ([], false) := by unfold refPath; rw [if_pos hb]
        refine start _ _ _ _ _ _ _ _ k1 k2 k3 kB _ _ ?_ _
        rw [h0]
        refine mid _ _ k3 _ _ ?_ _ _ _ _ _ _ _
        rw [k6]
        refine den_f rfl ?_
        refine den_let1 (d := .b true) rfl ?_
        refine den_t rfl ?_
        refine den_let1 (d := .b true) (den_eql rfl rfl rfl) ?_
        refine den_t rfl ?_
        refine den_let1 (d := .b true) (den_eql rfl rfl rfl) ?_
        exact den_ret rfl rfl
      · have hb' : b = 0 ∨ 0 ≤ idx ns b := by omega
        have k5 : pPath ⟨ns, bs⟩ b = (pathL ns bs b, 0) := pPath_eq h0 hb'
        have k3 : pFork ⟨ns, bs⟩ a b = (lastIn (pathL ns bs a) (pathL ns bs b) 0, 0) := by unfold pFork; rw [k1, k5, fork_last ok ha' hb']; rfl
        have k6 : refPath ns bs b = (pathL ns bs b, true) := by unfold refPath; rw [if_neg hb]
        refine start _ _ _ _ _ _ _ _ k1 k2 k3 kB _ _ ?_ _
        rw [h0]
        refine mid _ _ k3 _ _ ?_ _ _ _ _ _ _ _
        rw [k6]
        clear start mid hP hW hF hB hC hpa hpb hbo hwo heq k1 k2 k3 k4 k5 k6 kB
        generalize pathL ns bs a = x at *
        generalize pathL ns bs b = y at *
        generalize hQ : lastIn x y 0 = Q
        generalize pw ns bs a = w at *
        generalize (bestP ns bs).1 = n at *
        refine den_f rfl ?_
        refine den_let1 (d := .b false) rfl ?_
        refine den_f rfl ?_
        refine den_let1 (d := I x.length) (den_len rfl (by simp)) ?_
        refine den_loop' (st := fun i => [I (lastIn (x.take i) y 0), I i]) (n := x.length) rfl (by omega) (fun i hi again hag => ?_) (fun again => ?_)
        · simp only [List.cons_append, List.nil_append]
          have hi0 : (0 : Int) ≤ (i : Int) := by omega
          have hi1 : (i : Int) < (x.map eInt).length := by simp; omega
          have hi3 : (i : Int) < (x.length : Int) := by omega
          have hx1 : (x.map eInt)[(i : Int).toNat]? = some [I x[i]] := by simp [hi, eInt]
          have hst : lastIn (x.take (i + 1)) y 0 = if memB y x[i] = true then x[i] else lastIn (x.take i) y 0 := by
            unfold lastIn
            rw [List.take_add_one, List.getElem?_eq_getElem hi, List.foldl_append]; rfl
          have hcast : ((i + 1 : Nat) : Int) = (i : Int) + 1 := by omega
          have hlim : (i : Int) + 1 ≤ 30 := by omega
          simp only [hcast] at hag
          generalize lastIn (x.take (i + 1)) y 0 = l' at *
          generalize lastIn (x.take i) y 0 = l at *
          generalize x[i] = z at *
          generalize (i : Int) = k at *
          refine den_let1 (d := .b (decide (k < x.length))) rfl ?_
          refine den_ite rfl (fun _ => ?_) (fun h => absurd (of_decide_eq_false h) (by omega))
          refine den_ck (hold_inr rfl rfl hi0 hi1) ?_
          refine den_let1 (d := I z) (den_idx rfl rfl hi0 hx1 rfl) ?_
          refine den_let1 (d := .b (memB y z)) (den_call rfl (spContains_at y z) rfl) ?_
          refine den_ite rfl (fun h => ?_) (fun h => ?_)
          · refine den_let1 (d := I (k + 1)) (den_add rfl rfl (by omega)) ?_
            refine den_again rfl rfl ?_
            rw [show z = l' by rw [hst, if_pos h]]; exact hag
          · refine den_let1 (d := I (k + 1)) (den_add rfl rfl (by omega)) ?_
            refine den_again rfl rfl ?_
            rw [show l = l' by rw [hst, if_neg (by rw [h]; simp)]]; exact hag
        · simp only [List.cons_append, List.nil_append, List.take_length, hQ]
          refine den_let1 (d := .b (decide ((x.length : Int) < x.length))) rfl ?_
          refine den_ite rfl (fun h => absurd (of_decide_eq_true h) (by omega)) (fun _ => ?_)
          refine den_let1 (d := .b true) (den_eql rfl rfl rfl) ?_
          refine den_t rfl ?_
          refine den_let1 (d := .b true) (den_eql rfl rfl rfl) ?_
          exact den_ret rfl rfl
  · have k1 : pPath ⟨ns, bs⟩ a = ([], treeCheck ⟨ns, bs⟩) := by unfold pPath; rw [if_pos h0]
    have k2 : pWork ⟨ns, bs⟩ a = (0, treeCheck ⟨ns, bs⟩) := by unfold pWork; rw [k1, if_pos h0]
    have k3 : pFork ⟨ns, bs⟩ a b = (0, treeCheck ⟨ns, bs⟩) := by unfold pFork; rw [k1, if_pos h0]
    have kB : pBest ⟨ns, bs⟩ = (0, treeCheck ⟨ns, bs⟩) := by unfold pBest; rw [if_pos h0]
    refine start _ _ _ _ _ _ _ _ k1 k2 k3 kB _ _ ?_ _
    clear start hP hW hF hB hC k1 k2 k3 kB
    generalize treeCheck ⟨ns, bs⟩ = bad at *
    refine den_let1 (d := .b true) (den_neq' rfl rfl h0) ?_
    refine den_t rfl ?_
    refine den_let1 (d := .b true) (den_call rfl spGrown_at' rfl) ?_
    refine den_t rfl ?_
    refine den_let1 (d := .b true) (den_eql rfl rfl rfl) ?_
    refine den_t rfl ?_
    refine den_let1 (d := .b true) (den_eql rfl rfl rfl) ?_
    refine den_t rfl ?_
    refine den_let1 (d := .b true) (den_eql rfl rfl rfl) ?_
    refine den_t rfl ?_
    refine den_let1 (d := .b true) (den_eql rfl rfl rfl) ?_
    refine den_t rfl ?_
    refine den_let1 (d := I 0) (den_len rfl rfl) ?_
    refine den_let1 (d := .b true) (den_eql rfl rfl rfl) ?_
    refine den_t rfl ?_
    refine den_let1 (d := .b true) (den_eql rfl rfl rfl) ?_
    refine den_t rfl ?_
    refine den_let1 (d := .b true) (den_eql rfl rfl rfl) ?_
    refine den_t rfl ?_
    refine den_let1 (d := .b true) (den_eql rfl rfl rfl) ?_
    exact den_ret rfl rfl
end Go.Proofs.Ytnnbnjanekibpaa
namespace Go.Proofs.Ytnnbnjanekibpaa
open Go.RowKit
set_option linter.unusedVariables false
set_option maxRecDepth 100000
unseal rds fact in
theorem Sep.outRds {w0 W : World} {F0 : Nat → Prop} {Γ : List Res} {α : Type} {S : Sh α} {xs : List α} {A : Option Addr} {n c : Nat} (hS : Sep w0 F0 (rds xs A n c S :: Γ) W) : Rds S W (All w0.heap.size F0 W) xs A n c := hS.out At.z
theorem er_path (t : Tree) (m : Int) : Er (pPath t m).2 := by
  unfold pPath
  split
  · exact er_tree t
  · split <;> exact er_lit _ rfl
theorem er_fork (t : Tree) (a b : Int) : Er (pFork t a b).2 := by
  unfold pFork
  split
  · exact er_path ..
  · split
    · exact er_path ..
    · exact er_lit _ rfl
theorem bd_path {t : Tree} {m : Int} (h : (pPath t m).2 = 0) : ∀ v ∈ (pPath t m).1, 1 ≤ v ∧ v ≤ 120 := by
  unfold pPath at h ⊢
  by_cases h0 : treeCheck t ≠ 0
  · rw [if_pos h0] at h; exact absurd h h0
  rw [if_neg h0] at h ⊢
  by_cases h1 : m ≠ 0 ∧ idx t.names m < 0
  · rw [if_pos h1] at h; cases h
  rw [if_neg h1]
  intro v hv
  have ok := (treeCheck_iff t.names t.blocks).1 (Decidable.not_not.1 h0)
  have := ok.name (pathL_in ok (by omega) v hv)
  exact ⟨this.1, this.2.1⟩
theorem i64_z : I64 0 := ⟨by decide, by decide⟩
theorem i64_5 : I64 5 := ⟨by decide, by decide⟩
theorem i64_work (t : Tree) (m : Int) : I64 (pWork t m).1 ∧ I64 (pWork t m).2 := by
  have he : Er (pWork t m).2 := by
    unfold pWork
    split
    · exact er_path ..
    · exact er_lit _ rfl
  refine ⟨?_, he.i64⟩
  by_cases h0 : treeCheck t = 0
  · by_cases h1 : m ≠ 0 ∧ idx t.names m < 0
    · have k1 : pPath t m = ([], 5) := by unfold pPath; rw [if_neg (fun h => h h0), if_pos h1]
      have : pWork t m = (0, 5) := by unfold pWork; rw [k1]; rfl
      rw [this]; exact i64_z
    · have hm : m = 0 ∨ 0 ≤ idx t.names m := by omega
      rw [pWork_eq h0 hm]
      have := pw_bd ((treeCheck_iff t.names t.blocks).1 h0) hm
      exact ⟨by show _ ≤ pw _ _ _; omega, by show pw _ _ _ ≤ _; omega⟩
  · have k1 : pPath t m = ([], treeCheck t) := by unfold pPath; rw [if_pos h0]
    have : pWork t m = (0, treeCheck t) := by unfold pWork; rw [k1, if_pos h0]
    rw [this]; exact i64_z
theorem forkL_in : ∀ (xs ys : List Int) (l : Int), forkL xs ys l = l ∨ forkL xs ys l ∈ xs
  | [], ys, l => .inl (by cases ys <;> rfl)
  | x :: xs, [], l => .inl rfl
  | x :: xs, y :: ys, l => by
    rw [forkL]
    rcases forkL_in xs ys (if x = y then x else l) with h | h
    · rw [h]
      split
      · exact .inr (List.mem_cons_self ..)
      · exact .inl rfl
    · exact .inr (List.mem_cons_of_mem _ h)
theorem i64_fork (t : Tree) (a b : Int) : I64 (pFork t a b).1 ∧ I64 (pFork t a b).2 := by
  refine ⟨?_, (er_fork t a b).i64⟩
  unfold pFork
  split
  · exact i64_z
  · rename_i h0
    split
    · exact i64_z
    · simp only
      rcases forkL_in (pPath t a).1 (pPath t b).1 0 with h | h
      · rw [h]; exact i64_z
      · have := bd_path (Decidable.not_not.1 h0) _ h
        exact ⟨by omega, by omega⟩
theorem i64_best (t : Tree) : I64 (pBest t).1 ∧ I64 (pBest t).2 := by
  by_cases h0 : treeCheck t = 0
  · rw [pBest_eq h0]
    refine ⟨?_, i64_z⟩
    have ok := (treeCheck_iff t.names t.blocks).1 h0
    rcases best_in (ns := t.names) t.blocks with h | h
    · show I64 (bestP t.names t.blocks).1
      rw [h]; exact i64_z
    · have := ok.name h
      exact ⟨by show _ ≤ (bestP t.names t.blocks).1; omega, by show (bestP t.names t.blocks).1 ≤ _; omega⟩
  · have : pBest t = (0, treeCheck t) := by unfold pBest; rw [if_pos h0]
    rw [this]; exact ⟨i64_z, (er_tree t).i64⟩
theorem meets_two {P : Program} {α : Type} {e : α → List Dt} {m k : α → Int} {pk : List PK} {f : Nat} (hpk : isMine pk = false) (hen : En P f) (hm : ∀ x, I64 (m x) ∧ I64 (k x))
    (h : ∀ x W F us, (∀ b, F b → b < W.heap.size) → PKRs W F pk (e x) us → Calls P f us.toArray W fun r W' => r = .returned (.tuple #[.int .i64 (m x), .int .i64 (k x)]) ∧ Below W.heap.size W W') :
    Meets P (specOf e fun x => [I (m x), I (k x)]) f ⟨pk, [(false, [.scal]), (false, [.scal])], true⟩ :=
  meets_pure hpk hen (by simp [cfsOf]) (fun x j dd hj hd => by
    match j, hj, hd with
    | 0, _, hd => simp only [List.getElem?_cons_zero, Option.some.injEq] at hd; subst hd; rfl
    | 1, _, hd => simp only [List.getElem?_cons_zero, List.getElem?_cons_succ, Option.some.injEq] at hd; subst hd; rfl
    | j + 2, _, hd => simp at hd) (fun x => rfl) fun x W F us hF hargs => (h x W F us hF hargs).mono fun r W' ⟨h1, h2⟩ =>
      ⟨_, [.int .i64 (m x), .int .i64 (k x)], F, h1, h2, ⟨[_, _], rfl, _, _, [_], [_], rfl, rfl, ⟨rfl, rfl⟩, _, _, [_], [], rfl, rfl, ⟨rfl, rfl⟩, rfl, rfl⟩, ⟨.i _ _ (wrap_i64 (hm x).1), .i _ _ (wrap_i64 (hm x).2), trivial⟩, fun b hb => .inl hb⟩
theorem mTPath : Meets Try.prog spTPath 39 ⟨[.agg 2, .one], [(false, [.pure]), (false, [.scal])], false⟩ :=
  meets_pure (s := ⟨[.agg 2, .one], [(false, [.pure]), (false, [.scal])], false⟩) rfl (en_of (fn := Try.f39) (by kernel_rfl) (by kernel_rfl) (by kernel_rfl)) (by simp [cfsOf]) (fun x j dd hj hd => by
    match j, hj, hd with
    | 0, hj, _ => simp [cfsOf] at hj
    | 1, _, hd => simp only [List.getElem?_cons_zero, List.getElem?_cons_succ, Option.some.injEq] at hd; subst hd; rfl
    | j + 2, _, hd => simp at hd) (fun x => rfl) fun x W F us hF h => by
    obtain ⟨cs, us, rfl, h1, h⟩ := pks_agg h rfl
    obtain ⟨v2, us, rfl, h2, h⟩ := pks_one h
    obtain rfl := pks_nil h
    obtain ⟨rfl, k2⟩ := rep_int h2
    refine (Path_c x.1 cs x.2 (Sep.start1 hF (she_tree.of h1)) At.z).mono ?_
    rintro r W' ⟨A, n, c, rfl, hS⟩
    exact ⟨_, [.slice A n c, .int .i64 (pPath x.1 x.2).2], _, rfl, hS.below, ⟨[_, _], rfl, _, _, [_], [_], rfl, rfl, ⟨rfl, rfl⟩, _, _, [_], [], rfl, rfl, ⟨rfl, rfl⟩, rfl, rfl⟩, ⟨rds_rep she_int hS.outRds, .i _ _ (wrap_i64 (er_path ..).i64), trivial⟩, fun b hb => hb⟩
theorem mTWork : Meets Try.prog spTWork 44 ⟨[.agg 2, .one], [(false, [.scal]), (false, [.scal])], true⟩ :=
  meets_two rfl (en_of (fn := Try.f44) (by kernel_rfl) (by kernel_rfl) (by kernel_rfl)) (fun x => i64_work x.1 x.2) fun x W F us hF h => by
    obtain ⟨cs, us, rfl, h1, h⟩ := pks_agg h rfl
    obtain ⟨v2, us, rfl, h2, h⟩ := pks_one h
    obtain rfl := pks_nil h
    obtain ⟨rfl, k2⟩ := rep_int h2
    exact (Work_c x.1 cs x.2 (Sep.start1 hF (she_tree.of h1)) At.z).mono fun r W' h => ⟨h.1, h.2.below⟩
theorem mTFork : Meets Try.prog spTFork 37 ⟨[.agg 2, .one, .one], [(false, [.scal]), (false, [.scal])], true⟩ :=
  meets_two rfl (en_of (fn := Try.f37) (by kernel_rfl) (by kernel_rfl) (by kernel_rfl)) (fun x => i64_fork x.1 x.2.1 x.2.2) fun x W F us hF h => by
    obtain ⟨cs, us, rfl, h1, h⟩ := pks_agg h rfl
    obtain ⟨v2, us, rfl, h2, h⟩ := pks_one h
    obtain ⟨v3, us, rfl, h3, h⟩ := pks_one h
    obtain rfl := pks_nil h
    obtain ⟨rfl, k2⟩ := rep_int h2
    obtain ⟨rfl, k3⟩ := rep_int h3
    exact Fork_any x.1 cs x.2.1 x.2.2 W F (she_tree.of h1) hF
theorem mTBest : Meets Try.prog spTBest 43 ⟨[.agg 2], [(false, [.scal]), (false, [.scal])], true⟩ :=
  meets_two rfl (en_of (fn := Try.f43) (by kernel_rfl) (by kernel_rfl) (by kernel_rfl)) (fun x => i64_best x) fun x W F us hF h => by
    obtain ⟨cs, rfl, h1⟩ := pks_agg' h
    exact (Best_c x cs (Sep.start1 hF (she_tree.of h1)) At.z).mono fun r W' h => ⟨h.1, h.2.below⟩
theorem mEqual : Meets Try.prog spEqual 18 ⟨[.one, .one], [(false, [.scal])], true⟩ :=
  meets_scal2 rfl (en_of (fn := Try.f18) (by kernel_rfl) (by kernel_rfl) (by kernel_rfl)) (fun _ => rfl) fun x W F us hF h => by
    obtain ⟨v, us, rfl, h1, h⟩ := pks_one h
    obtain ⟨v2, us, rfl, h2, h⟩ := pks_one h
    obtain rfl := pks_nil h
    obtain ⟨A, n, c, rfl, k1⟩ := rep_rds she_int h1
    obtain ⟨A2, n2, c2, rfl, k2⟩ := rep_rds she_int h2
    refine (equal_int x.1 x.2 A A2 n c n2 c2 W F F k1 k2).mono ?_
    rintro r W' ⟨rfl, m, rfl⟩
    exact ⟨_, rfl, below_drewN (Below.refl _ _) m, .b _⟩
def sigsPath : List (Nat × Sig) := [(50, ⟨[.one, .one], [(false, [.scal])], true⟩), (68, ⟨[.agg 2, .one], [(false, [.fresh 3 1]), (false, [.scal])], false⟩), (71, ⟨[.one, .one], [(false, [.scal])], true⟩), (87, ⟨[.one], [(false, [.fresh 3 1])], false⟩), (70, ⟨[.agg 2, .one], [(false, [.scal])], true⟩), (38, ⟨[], [(false, [.scal])], true⟩), (46, ⟨[.agg 2], [(false, [.scal])], true⟩), (39, ⟨[.agg 2, .one], [(false, [.pure]), (false, [.scal])], false⟩), (44, ⟨[.agg 2, .one], [(false, [.scal]), (false, [.scal])], true⟩), (37, ⟨[.agg 2, .one, .one], [(false, [.scal]), (false, [.scal])], true⟩), (43, ⟨[.agg 2], [(false, [.scal]), (false, [.scal])], true⟩), (69, ⟨[.agg 2], [(false, [.scal])], true⟩), (18, ⟨[.one, .one], [(false, [.scal])], true⟩), (108, ⟨[.mine 3 1], [], false⟩)]
theorem scalOk_b {pk : List PK} {e z : Nat} {l : Bool} {x : List (List Dt)} {b : Bool} : scalOk ⟨pk, [(false, [.fresh e z]), (false, [.scal])], l⟩ [.l z x, .b b] := by
  intro i d hi hd
  match i, hi, hd with
  | 0, hi, _ => simp [cfsOf] at hi
  | 1, _, hd => simp only [List.getElem?_cons_zero, List.getElem?_cons_succ, Option.some.injEq] at hd; subst hd; rfl
  | i + 2, _, hd => simp at hd
theorem scalOk_1 {pk : List PK} {l : Bool} {d : Dt} (h : d.scal = true) : scalOk ⟨pk, [(false, [.scal])], l⟩ [d] := by
  intro i x hi hd
  match i, hi, hd with
  | 0, _, hd => simp only [List.getElem?_cons_zero, Option.some.injEq] at hd; subst hd; exact h
  | i + 1, _, hd => simp at hd
theorem mPathN : ∀ n, Meets Try.prog (spPathN n) 68 ⟨[.agg 2, .one], [(false, [.fresh 3 1]), (false, [.scal])], false⟩
  | 0 => by
    refine meets_dec (sp := spsPath0) (sigs := sigsPath) (cut := []) (hints := []) (fn := Try.f68) (t := tPathOf) (by kernel_rfl) (by kernel_rfl) (by kernel_rfl) ?_ ?_
    · exact sig_cons mIndex fun ci f s _ => meets_none f s
    · rintro ds rs - h
      obtain ⟨⟨⟨⟨ns, bs⟩, m⟩, ht, hr⟩, rfl, rfl⟩ := specOf_some h
      refine ⟨⟨1, path_den rfl ns bs m ht fun h0 h1 => ?_⟩, scalOk_b⟩
      simp only at hr
      unfold remN at hr
      rw [if_neg h0] at hr
      omega
  | n + 1 => by
    refine meets_dec (sp := spsPath n) (sigs := sigsPath) (cut := []) (hints := []) (fn := Try.f68) (t := tPathOf) (by kernel_rfl) (by kernel_rfl) (by kernel_rfl) ?_ ?_
    · exact sig_cons mIndex (sig_cons (mPathN n) fun ci f s _ => meets_none f s)
    · rintro ds rs - h
      obtain ⟨⟨⟨⟨ns, bs⟩, m⟩, ht, hr⟩, rfl, rfl⟩ := specOf_some h
      refine ⟨⟨1, path_den rfl ns bs m ht fun h0 h1 p hp => ?_⟩, scalOk_b⟩
      have := (pathL_step ((treeCheck_iff ns bs).1 ht) h1).2.2
      simp only at hr
      subst hp
      exact spPathN_at ns bs _ ht (by omega)
theorem mPath : Meets Try.prog spPath 68 ⟨[.agg 2, .one], [(false, [.fresh 3 1]), (false, [.scal])], false⟩ := by
  refine .mk rfl ?_
  intro W F ds args rs hF hargs hsp
  obtain ⟨⟨⟨⟨ns, bs⟩, m⟩, ht⟩, rfl, rfl⟩ := specOf_some hsp
  exact (mPathN (remN ns m)).1 rfl W F _ args _ hF hargs (spPathN_at ns bs m ht (Nat.le_refl _))
theorem mWorkOf : Meets Try.prog spWorkOf 70 ⟨[.agg 2, .one], [(false, [.scal])], true⟩ := by
  refine meets_dec (sp := fun ci => [spIndex, spPath, spContains].getD ci fun _ => none) (sigs := sigsPath) (cut := []) (hints := [⟨4, [.t 5, .t 19]⟩]) (fn := Try.f70) (t := tWorkOf) (by kernel_rfl) (by kernel_rfl) (by kernel_rfl) ?_ ?_
  · exact sig_cons mIndex (sig_cons mPath (sig_cons mContains fun ci f s _ => meets_none f s))
  · rintro ds rs - h
    obtain ⟨⟨⟨⟨ns, bs⟩, m⟩, ht, hm⟩, rfl, rfl⟩ := specOf_some h
    exact ⟨⟨30, work_den rfl ns bs m ht hm (spPath_at ns bs m ht)⟩, scalOk_1 rfl⟩
theorem mBestOf : Meets Try.prog spBestOf 69 ⟨[.agg 2], [(false, [.scal])], true⟩ := by
  refine meets_dec (sp := fun ci => [spIndex, spPath, spContains, spCloneI, spWorkOf, fun _ => none, fun _ => none, fun _ => none, fun _ => none, fun _ => none, fun _ => none, fun _ => none, fun _ => none, spSort].getD ci fun _ => none) (sigs := sigsPath) (cut := []) (hints := [⟨5, [.t 4, .t 14]⟩]) (fn := Try.f69) (t := tBestOf) (by kernel_rfl) (by kernel_rfl) (by kernel_rfl) ?_ ?_
  · exact sig_cons mIndex (sig_cons mPath (sig_cons mContains (sig_cons mCloneI (sig_cons mWorkOf (sig_cons (meets_none _ _) (sig_cons (meets_none _ _) (sig_cons (meets_none _ _) (sig_cons (meets_none _ _) (sig_cons (meets_none _ _) (sig_cons (meets_none _ _) (sig_cons (meets_none _ _) (sig_cons (meets_none _ _) (sig_cons mSort sig_nil)))))))))))))
  · rintro ds rs - h
    obtain ⟨⟨⟨ns, bs⟩, ht⟩, rfl, rfl⟩ := specOf_some h
    exact ⟨⟨30, best_den rfl rfl rfl ns bs ht⟩, scalOk_1 rfl⟩
noncomputable def spPathsLaw : Spec := specOf eTNN fun _ => [.b true]
theorem mPathsLaw : Meets Try.prog spPathsLaw 17 ⟨[.agg 2, .one, .one], [(false, [.scal])], true⟩ := by
  refine meets_dec (sp := spsPaths) (sigs := sigsPath) (cut := []) (hints := [⟨20, [.t 20, .t 167]⟩]) (fn := Try.f17) (t := tTreePaths) (by kernel_rfl) (by kernel_rfl) (by kernel_rfl) ?_ ?_
  · exact sig_cons mIndex (sig_cons mPath (sig_cons mContains (sig_cons mCloneI (sig_cons mWorkOf (sig_cons mGrown (sig_cons mCheckTree (sig_cons mTPath (sig_cons mTWork (sig_cons mTFork (sig_cons mTBest (sig_cons mBestOf (sig_cons mEqual fun ci f s _ => meets_none f s))))))))))))
  · rintro ds rs - h
    obtain ⟨x, rfl, rfl⟩ := specOf_some h
    exact ⟨⟨30, paths_den x.1 x.2.1 x.2.2⟩, scalOk_1 rfl⟩
theorem treePaths_walk (t : Tree) (cs : List Value) (a b : Int) (w : World) (ht : shTree.rep w (Lt w.heap.size) t cs) (a0 : -9223372036854775808 ≤ a) (a1 : a ≤ 9223372036854775807) (b0 : -9223372036854775808 ≤ b) (b1 : b ≤ 9223372036854775807) :
    Calls Try.prog 17 #[.agg cs.toArray, .int .i64 a, .int .i64 b] w fun e w' => e = .returned (.bool true) ∧ Below w.heap.size w w' :=
  meets_calls (F := Lt w.heap.size) (us := [.agg cs.toArray, .int .i64 a, .int .i64 b]) rfl (en_of (fn := Try.f17) (by kernel_rfl) (by kernel_rfl) (by kernel_rfl)) mPathsLaw (fun _ h => h) (specOf_at (e := eTNN) eTNN_inj (t, a, b))
    (pks_mk_agg (d1 := eTree t) (d2 := [I a, I b]) (she_tree.to ht) rfl (pks_mk_one (.i _ _ (wrap_i64 ⟨a0, a1⟩)) (pks_mk_one (.i _ _ (wrap_i64 ⟨b0, b1⟩)) pks_mk_nil)))
end Go.Proofs.Ytnnbnjanekibpaa
