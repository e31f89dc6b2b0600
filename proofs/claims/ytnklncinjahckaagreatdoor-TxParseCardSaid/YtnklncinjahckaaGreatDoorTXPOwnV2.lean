/- Own texts, put together by wip/bundle.py: VdJ, VdK, VdL, VdF, VdM, VdN, VdO, VdP. -/
import Derived.Laws.OwnMore
import Derived.Laws.Small
import Derived.MapKept
import Derived.Orders
import Derived.Test.YtnklncinjahckaaGreatDoorTXPOwnB
import Derived.Test.YtnklncinjahckaaGreatDoorTXPOwnV1
namespace Go.Proofs.YtnklncinjahckaaGreatDoor
open Go.RowKit
set_option linter.unusedVariables false
set_option linter.unusedSimpArgs false
theorem wrap_nat {m : Nat} (h : m ≤ 9223372036854775807) : IntKind.i64.wrap (m : Int) = m := by
  unfold IntKind.wrap
  simp only [IntKind.bits, IntKind.signed, Bool.true_and, ge_iff_le, decide_eq_true_eq]
  split <;> omega
theorem foldl_setV (off : Nat) : ∀ (us : List Value) (s : Nat) (vs : List Value), (us.zipIdx s).foldl (fun (cs : Array Value) (x : Value × Nat) => cs.setIfInBounds (off + x.2) x.1) vs.toArray = (setV vs (off + s) us).toArray
  | [], _, _ => rfl
  | u :: us, s, vs => by
    rw [List.zipIdx_cons, List.foldl_cons, setV, List.setIfInBounds_toArray, foldl_setV off us (s + 1)]
    rfl
theorem fill_cons {place : Nat → Option (Nat × Nat)} {i off : Nat} {v : Value} {us vs : List Value} {rest : List (Nat × Value)} (hp : place i = some (off, us.length)) (hv : v.cells = us.toArray) (hl : off + us.length ≤ vs.length) :
    Instr.fill place vs.toArray ((i, v) :: rest) = Instr.fill place (setV vs off us).toArray rest := by
  have h1 : v.cells.size = us.length := by rw [hv]; simp
  rw [Instr.fill]
  simp only [hp]
  rw [if_neg (by simp [h1]; omega)]
  congr 1
  rw [hv, ← Array.foldl_toList, Array.toList_zipIdx, List.toList_toArray]
  exact foldl_setV off us 0 vs
def PartsR (c : Ctx) : List (Nat × List C1) → List (Nat × Value) → Prop
  | [], [] => True
  | (i, cs) :: ps, (j, v) :: vs => i = j ∧ (∃ us : List Value, v.cells = us.toArray ∧ C1Rs c cs us ∧ ∀ u ∈ us, u.oneCell' = true) ∧ PartsR c ps vs
  | _, _ => False
theorem fill_ok {place : Nat → Option (Nat × Nat)} {c : Ctx} : ∀ {ps : List (Nat × List C1)} {cells cells' : List C1} {parts : List (Nat × Value)} {vs : List Value}, placeAll place cells ps = some cells' → PartsR c ps parts → C1Rs c cells vs →
    ∃ vs' : List Value, Instr.fill place vs.toArray parts = some vs'.toArray ∧ C1Rs c cells' vs'
  | [], cells, cells', [], vs, h, _, hc => by
    simp only [placeAll, Option.some.injEq] at h
    subst h
    exact ⟨vs, rfl, hc⟩
  | (i, cs) :: ps, cells, cells', (j, v) :: parts, vs, h, hp, hc => by
    obtain ⟨rfl, ⟨us, h1, h2, _⟩, h3⟩ := hp
    unfold placeAll at h
    split at h
    · cases h
    · rename_i off n hpl
      split at h
      · rename_i hcond
        have hl := h2.len
        have hvl := hc.len
        rw [fill_cons (us := us) (by rw [hpl, ← hcond.1, hl]) h1 (by omega)]
        exact fill_ok h h3 (hc.setAll off h2)
      · cases h
section
variable {P : Program} {w0 W : World} {F0 : Bk} {E : Env} {τ : List SV} {ω : List (Option Ob)} {a : Act} {ρ : Nat → Value} {cx : Cx} {o : Oper} {e : Eff} {sp : Nat → Spec} {n nt kb : Nat} {kn : List (Nat × Bool)} {Q : Exit → Act → World → Prop}
theorem evParts_ok (h : Sim w0 F0 E τ ω a W ρ) : ∀ {parts : List (Nat × Operand)} {ps : List (Nat × List C1)}, (evParts cx parts).run τ ω = some ps → PartsR (ctx w0 F0 E ω ρ W) ps (parts.map fun p => (p.1, a.eval p.2)) ∧ ps.length = parts.length
  | [], ps, hr => by
    simp only [evParts, run_pure, Option.some.injEq] at hr
    subst hr
    exact ⟨trivial, rfl⟩
  | (i, x) :: parts, ps, hr => by
    simp only [evParts, run_bind, run_ofO, run_ite, Option.bind_eq_some_iff] at hr
    obtain ⟨sv, h1, cs, h2, r, h3, hr⟩ := hr
    split at hr
    · cases hr
    rename_i hok
    simp only [run_pure, Option.some.injEq] at hr
    subst hr
    obtain ⟨us, hu, hc⟩ := svCells_ok h2 (evR_ok h h1)
    have hone := hc.one (by simpa using hok)
    have hcells : (a.eval x).cells = us.toArray := by
      rcases hu with hu | hu
      · rw [hu]; rfl
      · rw [hu] at hone ⊢
        exact cells_of_one (hone _ (by simp))
    obtain ⟨k1, k2⟩ := evParts_ok h h3
    exact ⟨⟨rfl, ⟨us, hcells, hc, hone⟩, k1⟩, by simp [k2]⟩
theorem op_build {t : Nat} {parts : Array (Nat × Operand)} (h : Sim w0 F0 E τ ω a W ρ) (ho : o.op = .build t parts) (hr : (stepOp cx kb n nt kn o).run τ ω = some e) (hty : ∀ t i, cx.ti t = some i → TyOk P t i) : o.wp P a W (Goes w0 F0 E τ ω e.ws) Q := by
  unfold stepOp at hr
  rw [ho] at hr
  simp only [run_bind, run_ofO, run_ite, Option.bind_eq_some_iff] at hr
  obtain ⟨ti, hti, ps, hps, hr⟩ := hr
  split at hr
  · cases hr
  rename_i hnot
  simp only [not_or, not_and, ne_eq, Decidable.not_not] at hnot
  have ht := hty t ti hti
  split at hr
  · rename_i hsome
    obtain ⟨⟨len, et⟩, harr⟩ := Option.isSome_iff_exists.1 hsome
    simp only [run_bind, run_ofO, put1, run_pure, Option.bind_eq_some_iff, Option.some.injEq] at hr
    obtain ⟨cs, hcs, rfl⟩ := hr
    obtain ⟨hp, _⟩ := evParts_ok h hps
    obtain ⟨it, z, hi, hz, hzl⟩ := ht.zero hnot.1
    obtain ⟨hu, ie, de, hie, hsz, _⟩ := ht.arr _ _ harr
    obtain ⟨vs', hf, hc⟩ := fill_ok hcs hp (litsB_rep hzl (ctx w0 F0 E ω ρ W))
    have hb : P.built t (parts.map fun p => (p.1, a.eval p.2)).toList = some vs'.toArray := by
      unfold Program.built
      simp only [hi, hu, hz, hie, hsz]
      rw [Array.toList_map, ← hf]
    refine wp_value (v := .agg vs'.toArray) (W' := W) ?_ (h.goes o ⟨vs', rfl, hc⟩)
    unfold execOp
    have := run_build (P := P) W t (parts.map fun p => (p.1, a.eval p.2)) _ hb
    simp only [ho, Sem.run_bind]
    rw [show (parts.map fun x => match x with | (i, x) => (i, a.eval x)) = parts.map fun p => (p.1, a.eval p.2) from rfl, this]
    rfl
  rename_i hnone
  simp only [run_bind, run_ofO, put1, run_pure, Option.bind_eq_some_iff, Option.some.injEq] at hr
  obtain ⟨cs, hcs, rfl⟩ := hr
  obtain ⟨hp, _⟩ := evParts_ok h hps
  obtain ⟨it, z, hi, hz, hzl⟩ := ht.zero hnot.1
  obtain ⟨fs, hu, hm, _⟩ := ht.flds (fun ho => hnone (by cases ha : ti.arr with | none => exact absurd ha (hnot.2 ho) | some _ => rfl))
  obtain ⟨vs', hf, hc⟩ := fill_ok hcs hp (litsB_rep hzl (ctx w0 F0 E ω ρ W))
  have hb : P.built t (parts.map fun p => (p.1, a.eval p.2)).toList = some vs'.toArray := by
    unfold Program.built
    simp only [hi, hu, hz, hm]
    rw [Array.toList_map, ← hf]
    simp only [Array.toArray_toList, List.getElem?_toArray]
  refine wp_value (v := .agg vs'.toArray) (W' := W) ?_ (h.goes o ⟨vs', rfl, hc⟩)
  unfold execOp
  have := run_build (P := P) W t (parts.map fun p => (p.1, a.eval p.2)) _ hb
  simp only [ho, Sem.run_bind]
  rw [show (parts.map fun x => match x with | (i, x) => (i, a.eval x)) = parts.map fun p => (p.1, a.eval p.2) from rfl, this]
  rfl
theorem chunks_vals {E : Env} {sz : Nat} : ∀ {m : Nat} {as0 : List Atom} {r : List (List Dt)}, as0.length = m * sz → valss E (chunks sz m as0) = some r → vals E as0 = some r.flatten ∧ r.length = m
  | 0, as0, r, hl, h => by
    simp only [chunks, valss, Option.some.injEq] at h
    subst h
    have : as0 = [] := List.eq_nil_of_length_eq_zero (by simpa using hl)
    subst this
    exact ⟨rfl, rfl⟩
  | m + 1, as0, r, hl, h => by
    simp only [chunks, valss, Option.bind_eq_bind, Option.bind_eq_some_iff, Option.pure_def, Option.some.injEq] at h
    obtain ⟨d, hd, ds, hds, rfl⟩ := h
    rw [Nat.succ_mul] at hl
    obtain ⟨h1, h2⟩ := chunks_vals (m := m) (by rw [List.length_drop, hl]; omega) hds
    refine ⟨?_, by simp [h2]⟩
    have key : ∀ (xs ys : List Atom) (d1 d2 : List Dt), vals E xs = some d1 → vals E ys = some d2 → vals E (xs ++ ys) = some (d1 ++ d2) := by
      intro xs
      induction xs with
      | nil => intro ys d1 d2 h1 h2; simp only [vals, Option.some.injEq] at h1; subst h1; exact h2
      | cons x xs ih =>
        intro ys d1 d2 h1 h2
        simp only [vals, Option.bind_eq_bind, Option.bind_eq_some_iff, Option.pure_def, Option.some.injEq] at h1
        obtain ⟨dx, hx, dxs, hxs, rfl⟩ := h1
        simp [vals, hx, ih ys dxs d2 hxs h2]
    rw [← List.take_append_drop sz as0, List.flatten_cons]
    exact key _ _ _ _ hd h1
theorem vals_len {E : Env} : ∀ {as0 : List Atom} {ds : List Dt}, vals E as0 = some ds → ds.length = as0.length
  | [], ds, h => by simp only [vals, Option.some.injEq] at h; subst h; rfl
  | a :: as0, ds, h => by
    simp only [vals, Option.bind_eq_bind, Option.bind_eq_some_iff, Option.pure_def, Option.some.injEq] at h
    obtain ⟨d, _, ds', h2, rfl⟩ := h
    simp [vals_len h2]
theorem setV_mid : ∀ (us pre mid post : List Value), us.length = mid.length → setV (pre ++ mid ++ post) pre.length us = pre ++ us ++ post
  | [], pre, mid, post, h => by
    have : mid = [] := List.eq_nil_of_length_eq_zero h.symm
    subst this; simp [setV]
  | u :: us, pre, m :: mid, post, h => by
    rw [setV]
    have e1 : (pre ++ m :: mid ++ post).set pre.length u = (pre ++ [u]) ++ mid ++ post := by
      simp [List.set_append_right]
    rw [e1, show pre.length + 1 = (pre ++ [u]).length by simp, setV_mid us (pre ++ [u]) mid post (by simpa using h)]
    simp
theorem fill_dense' {c : Ctx} {sz : Nat} : ∀ {ps : List (Nat × List C1)} {i0 : Nat} {parts : List (Nat × Value)} {pre junk : List Value}, inOrder sz i0 ps = true → PartsR c ps parts → pre.length = i0 * sz → junk.length = ps.length * sz →
    ∃ us : List Value, Instr.fill (fun i => some (i * sz, sz)) (pre ++ junk).toArray parts = some (pre ++ us).toArray ∧ C1Rs c (ps.flatMap (·.2)) us ∧ us.length = ps.length * sz ∧ ∀ u ∈ us, u.oneCell' = true
  | [], i0, [], pre, junk, _, _, _, hj => by
    have : junk = [] := List.eq_nil_of_length_eq_zero (by simpa using hj)
    subst this
    exact ⟨[], rfl, trivial, by simp, by simp⟩
  | (i, cs) :: ps, i0, (j, v) :: parts, pre, junk, ho, hp, hpre, hj => by
    simp only [inOrder, Bool.and_eq_true, beq_iff_eq] at ho
    obtain ⟨⟨rfl, hcs⟩, ho⟩ := ho
    obtain ⟨rfl, ⟨us, h1, h2, h3⟩, h4⟩ := hp
    have hl := h2.len
    simp only [List.length_cons, Nat.succ_mul] at hj
    have hful : (pre ++ junk).length = pre.length + junk.length := List.length_append
    rw [fill_cons (us := us) (by rw [← hl, hcs]) h1 (by rw [hful]; omega)]
    have e1 : setV (pre ++ junk) (i * sz) us = (pre ++ us) ++ junk.drop sz := by
      have := setV_mid us pre (junk.take sz) (junk.drop sz) (by rw [List.length_take]; omega)
      rw [List.append_assoc, List.take_append_drop, hpre] at this
      exact this
    rw [e1]
    obtain ⟨us', g1, g2, g3, g4⟩ := fill_dense' (pre := pre ++ us) (junk := junk.drop sz) ho h4 (by rw [List.length_append, Nat.succ_mul]; omega) (by rw [List.length_drop]; omega)
    refine ⟨us ++ us', by rw [g1, List.append_assoc], ?_, by rw [List.length_append, List.length_cons, Nat.succ_mul]; omega, fun u hu => ?_⟩
    · rw [List.flatMap_cons]; exact h2.append g2
    · rcases List.mem_append.1 hu with h' | h'
      · exact h3 u h'
      · exact g4 u h'
theorem frz_none {ω ω1 : List (Option Ob)} (h : FrzRel ω ω1) {k : Nat} (hk : ω[k]? = some none) : ω1[k]? = some none := by
  rcases h.2 k with h1 | ⟨_, _, _, h1, _⟩
  · rw [h1]; exact hk
  · rw [hk] at h1; cases h1
theorem frAs_len : ∀ {cs : List C1} {xs : List Atom} {ws : List Wr}, (frAs cs).run τ ω = some (xs, ws) → xs.length = cs.length
  | [], xs, ws, hr => by
    simp only [frAs, run_pure, Option.some.injEq, Prod.mk.injEq] at hr
    obtain ⟨rfl, rfl⟩ := hr
    rfl
  | c :: cs, xs, ws, hr => by
    simp only [frAs, run_bind, run_pure, Option.bind_eq_some_iff, Option.some.injEq, Prod.mk.injEq] at hr
    obtain ⟨⟨x, w⟩, h1, ⟨ys, us⟩, h2, rfl, rfl⟩ := hr
    simp [frAs_len h2]
theorem op_buildSlice {t len : Nat} {parts : Array (Nat × Operand)} (h : Sim w0 F0 E τ ω a W ρ) (ho : o.op = .buildSlice t len parts) (hr : (stepOp cx kb n nt kn o).run τ ω = some e) (hf : Facts sp E n e) (hty : ∀ t i, cx.ti t = some i → TyOk P t i) : o.wp P a W (Goes w0 F0 E τ ω e.ws) Q := by
  unfold stepOp at hr
  rw [ho] at hr
  simp only [run_bind, run_ofO, run_ite, Option.bind_eq_some_iff] at hr
  obtain ⟨ti, hti, ⟨et, sz, by_⟩, hel, ps, hps, hr⟩ := hr
  simp only at hr
  split at hr
  · cases hr
  rename_i hnot
  simp only [not_or, ne_eq, Decidable.not_not, Bool.not_eq_false, Nat.not_lt] at hnot
  obtain ⟨hlen, hord, hmax⟩ := hnot
  simp only [run_bind, run_pure, Option.bind_eq_some_iff, Option.some.injEq] at hr
  obtain ⟨⟨as0, ws⟩, hfr, k, hk, rfl⟩ := hr
  have ht := hty t ti hti
  obtain ⟨hu, ie, z, hie, hz, hsz, hby, hzs, hpos, hsz2, _⟩ := ht.el _ _ _ hel
  obtain ⟨hd, hk⟩ := newKey_ok hk
  obtain ⟨hp, hpl⟩ := evParts_ok h hps
  subst hlen
  obtain ⟨us, g1, g2, g3, g4⟩ := fill_dense' (pre := []) (junk := ((Array.range (ps.length * ie.size)).map (z.cells[· % z.cells.size]!)).toList) hord hp (by simp) (by simp [hsz])
  simp only [List.nil_append, Array.toArray_toList] at g1
  obtain ⟨q1, q2, ds, q3, q4⟩ := frAs_ok (FrzRel.refl ω) h hfr g2
  have hasl := frAs_len hfr
  have hal : as0.length = ps.length * sz := by rw [hasl, g2.len, g3]
  obtain ⟨d, hd0, hn⟩ := hf.one
  simp only [denX, Option.bind_eq_bind, Option.bind_eq_some_iff] at hd0
  obtain ⟨r, hr1, hd0⟩ := hd0
  split at hd0
  · rename_i hcond
    obtain ⟨hc1, hc2⟩ := hcond
    injection hd0 with hd0
    subst hd0
    obtain ⟨v1, v2⟩ := chunks_vals hal hr1
    rw [q3] at v1
    injection v1 with v1
    subst v1
    have hrl : ∀ x ∈ r, x.length = sz := fun x hx => by simpa using List.all_eq_true.1 hc1 x hx
    have hk2 := frz_none q2.rel hk
    have hlt := (List.getElem?_eq_some_iff.1 hk2).1
    have hnew := q2.sim.new (W' := W.alloc (.cells us.toArray et)) hk2 ((Below.refl _ _).alloc (Nat.le_refl _) _) (.row et sz (.v n)) (.slice (some ⟨W.heap.size, 0, none⟩) ps.length ps.length) (fun b hb => by
      simp only [own, Value.ownBlock, Option.some.injEq] at hb; omega) (fun hle => ?_)
    · have hexec : (execOp a.eval o).run P W = .ok (.value (.slice (some ⟨W.heap.size, 0, none⟩) ps.length ps.length)) (W.alloc (.cells us.toArray et)) := by
        have hsub : (Instr.buildSlice t ps.length (parts.map fun p => (p.1, a.eval p.2))).run P W = .ok (.slice (some ⟨W.heap.size, 0, none⟩) ps.length ps.length) (W.alloc (.cells us.toArray et)) := by
          have hg1 : Instr.fill (fun i => some (i * ie.size, ie.size)) ((Array.range (ps.length * ie.size)).map (z.cells[· % z.cells.size]!)) (parts.map fun p => (p.1, a.eval p.2)).toList = some us.toArray := by
            rw [Array.toList_map]
            simpa [hsz] using g1
          by_cases h0 : ps.length * ie.size = 0
          · have hpn : ps.length = 0 := by
              rcases Nat.mul_eq_zero.1 h0 with h | h
              · exact h
              · omega
            have hparts : parts = #[] := Array.eq_empty_of_size_eq_zero (by rw [← Array.length_toList, ← hpl, hpn])
            have hun : us = [] := List.eq_nil_of_length_eq_zero (by rw [g3, hpn]; simp)
            subst hparts; subst hun
            simp [Instr.buildSlice, run_underlying hu, sizeOf, typeInfo, hie, hpn, Instr.fill, newRow]
            congr 2
            exact Array.eq_empty_of_size_eq_zero (by simp)
          · refine run_buildSlice W t et ps.length _ us.toArray ie z hu hie hz ?_ h0 hg1
            have := Nat.mul_le_mul hmax (show ie.size ≤ 1000 by omega)
            omega
        unfold execOp
        simp only [ho, Sem.run_bind]
        rw [show (parts.map fun x => match x with | (i, x) => (i, a.eval x)) = parts.map fun p => (p.1, a.eval p.2) from rfl, hsub]
        rfl
      refine wp_value hexec ⟨upd ρ k (.slice (some ⟨W.heap.size, 0, none⟩) ps.length ps.length), ?_⟩
      simp only [wr_append, q1]
      exact hnew.dst o (sv := .one (.row k)) ⟨⟨_, List.getElem?_set_self hlt⟩, (upd_self _ _ _).symm, rfl⟩
    · refine ⟨r, us, hn, hrl, ?_, q4.mono hle.agree hle.more⟩
      rw [show (ctx w0 F0 E ((wr τ ω ws).2.set k (some (.row et sz (.v n)))) (upd ρ k (.slice (some ⟨W.heap.size, 0, none⟩) ps.length ps.length)) (W.alloc (.cells us.toArray et))).ρ k = .slice (some ⟨W.heap.size, 0, none⟩) ps.length ps.length from upd_self _ _ _, v2]
      refine ⟨g3, .inr ⟨W.heap.size, ps.length, us.toArray, rfl, h.bsz, heap_alloc_new W _, Nat.le_refl _, by unfold maxLen; omega, by simp [g3], ?_⟩⟩
      rw [List.toList_toArray, List.take_of_length_le (by omega)]
  · cases hd0
theorem slA_ok (h : Sim w0 F0 E τ ω a W ρ) {c : C1} {x : Atom} (hr : (slA c).run τ ω = some x) {v : Value} (hc : C1R (ctx w0 F0 E ω ρ W) c v) : ∃ d, x.val E = some d ∧ Rep W (Lt W.heap.size) d v := by
  have hF : ∀ b, Frr w0 F0 ω ρ W b → Lt W.heap.size b := fun b hb => h.frLt hb
  cases c with
  | «at» y =>
    simp only [slA, run_pure, Option.some.injEq] at hr
    subst hr
    obtain ⟨d, h1, h2⟩ := C1R.at_ hc
    exact ⟨d, h1, h2.mono (fun _ _ => rfl) hF⟩
  | row k =>
    simp only [slA, run_bind, run_rO, Option.bind_eq_some_iff] at hr
    obtain ⟨ob, hob, hr⟩ := hr
    obtain ⟨_, hv, _⟩ := hc
    simp only [ctx] at hv
    split at hr
    · rename_i e' sz y
      simp only [run_pure, Option.some.injEq] at hr
      subst hr
      obtain ⟨xs, vs, b1, b2, b3, b4⟩ := h.objs k _ hob
      refine ⟨_, b1, ?_⟩
      rw [hv]
      exact row_rep b2 b3 b4 (fun b hb => hF b hb) (fun g hg => (ownsRow_lt b3 hg).2)
    · rename_i y
      simp only [run_pure, Option.some.injEq] at hr
      subst hr
      obtain ⟨d, b1, b2⟩ := h.objs k _ hob
      exact ⟨d, b1, by rw [hv]; exact b2.mono (fun _ _ => rfl) hF⟩
    · cases hr
  | _ => cases hr
theorem rep_news {W : World} {F : Nat → Prop} {sz : Nat} {xs : List (List Dt)} {A : Option Addr} {m c : Nat} (h : Rep W F (.l sz xs) (.slice A m c)) (hpos : 0 < sz) :
    m = xs.length ∧ ∃ news : List Value, news.length = xs.length * sz ∧ Reps W F xs.flatten news ∧ (0 < xs.length → ∃ b q, A = some ⟨b, q, none⟩ ∧ ∀ (j : Nat) (u : Value), news[j]? = some u → W.cell? ⟨b, q + j, none⟩ = some u) := by
  cases h with
  | l _ _ _ _ _ b q vs g0 g1 g2 g3 g4 g5 g6 =>
    have hlen : ∀ (ys : List (List Dt)), (∀ y ∈ ys, y.length = sz) → ys.flatten.length = ys.length * sz := by
      intro ys
      induction ys with
      | nil => intro _; simp
      | cons y ys ih =>
        intro hy
        rw [List.flatten_cons, List.length_append, hy y (List.mem_cons_self ..), ih fun z hz => hy z (List.mem_cons_of_mem _ hz), List.length_cons, Nat.succ_mul]
        omega
    have hfl := hlen xs g3
    have hget : ∀ j, j < xs.length * sz → ∃ x d, xs[j / sz]? = some x ∧ x[j % sz]? = some d ∧ xs.flatten[j]? = some d := by
      intro j hj
      have h1 : j / sz < xs.length := (Nat.div_lt_iff_lt_mul hpos).2 hj
      have h2 : j % sz < xs[j / sz].length := by rw [g3 _ (List.getElem_mem h1)]; exact Nat.mod_lt _ hpos
      refine ⟨xs[j / sz], xs[j / sz][j % sz], List.getElem?_eq_getElem h1, List.getElem?_eq_getElem h2, ?_⟩
      have := flat_at' g3 (List.getElem?_eq_getElem h1) (List.getElem?_eq_getElem h2)
      rw [Nat.mul_comm, Nat.div_add_mod] at this
      exact this
    refine ⟨g0, (List.range (xs.length * sz)).map fun j => vs (j / sz) (j % sz), by simp, Reps.of (by simp [hfl]) fun j d v hd hv => ?_, fun hp => ⟨b, q, (g4 hp).1, fun j u hu => ?_⟩⟩
    · obtain ⟨hj, rfl⟩ := rangeMap_get hv
      obtain ⟨x, d', h1, h2, h3⟩ := hget j hj
      rw [h3] at hd; injection hd with hd; subst hd
      exact g6 _ _ _ _ h1 h2
    · obtain ⟨hj, rfl⟩ := rangeMap_get hu
      obtain ⟨x, d', h1, h2, h3⟩ := hget j hj
      have := g5 _ _ _ _ h1 h2
      rw [Nat.add_assoc, Nat.mul_comm (j / sz), Nat.div_add_mod] at this
      exact this
theorem lenA_ok (h : Sim w0 F0 E τ ω a W ρ) {c : C1} {x : Atom} (hr : (lenA c).run τ ω = some x) {v : Value} (hc : C1R (ctx w0 F0 E ω ρ W) c v) : ∃ d, x.val E = some d ∧ (Rep W (Lt W.heap.size) d v ∨ ∃ sz xs A cap, d = .l sz xs ∧ v = .slice A xs.length cap ∧ xs.length ≤ 1000000) := by
  have key : ∀ c : C1, (slA c).run τ ω = some x → C1R (ctx w0 F0 E ω ρ W) c v → ∃ d, x.val E = some d ∧ (Rep W (Lt W.heap.size) d v ∨ ∃ sz xs A cap, d = .l sz xs ∧ v = .slice A xs.length cap ∧ xs.length ≤ 1000000) := fun c h1 h2 =>
    let ⟨d, h3, h4⟩ := slA_ok h h1 h2
    ⟨d, h3, .inl h4⟩
  cases c with
  | row k =>
    simp only [lenA, run_bind, run_rO, Option.bind_eq_some_iff] at hr
    obtain ⟨ob, hob, hr⟩ := hr
    split at hr
    · rename_i y
      simp only [run_pure, Option.some.injEq] at hr
      subst hr
      obtain ⟨sz, xs, A, cap, h1, h2, h3⟩ := h.objs k _ hob
      obtain ⟨_, hv, _⟩ := hc
      exact ⟨_, h1, .inr ⟨sz, xs, A, cap, rfl, hv.trans h2, h3⟩⟩
    · exact key _ hr hc
  | _ =>
    simp only [lenA] at hr
    exact key _ hr hc
theorem op_len {c : Call} (h : Sim w0 F0 E τ ω a W ρ) (ho : o.op = .call c) (hcl : c.callee = .builtin .len) (hr : (stepOp cx kb n nt kn o).run τ ω = some e) (hf : Facts sp E n e) (hty : ∀ t i, cx.ti t = some i → TyOk P t i) : o.wp P a W (Goes w0 F0 E τ ω e.ws) Q := by
  unfold stepOp at hr
  rw [ho] at hr
  simp only [stCall, hcl] at hr
  split at hr
  · rename_i x t hx htt
    simp only [run_bind, run_ofO, run_ite, Option.bind_eq_some_iff] at hr
    obtain ⟨ti, hti, cc, h1, xa, h2, hr⟩ := hr
    have ht := hty t ti hti
    obtain ⟨d, hd, hrep⟩ := lenA_ok h h2 (evC_ok h h1)
    have hexec : ∀ m : Nat, (Builtin.len_ #[t] o.type #[a.eval x]).run P W = .ok (.int .i64 m) W → (execOp a.eval o).run P W = .ok (.value (.int .i64 m)) W := by
      intro m hm
      have e1 : c.args = #[x] := by rw [← Array.toArray_toList (xs := c.args), hx]
      have e2 : c.argTypes = #[t] := by rw [← Array.toArray_toList (xs := c.argTypes), htt]
      unfold execOp
      simp only [ho, resolve, hcl, e1, e2, invoke, builtin, Sem.run_bind, Sem.run_pure, Result.andThen_ok, List.map_toArray, List.map_cons, List.map_nil, hm]
    split at hr
    · rename_i hel
      simp only [run_pure, Option.some.injEq] at hr
      subst hr
      obtain ⟨⟨et, sz, by_⟩, hel⟩ := Option.isSome_iff_exists.1 hel
      obtain ⟨hu, _⟩ := ht.el _ _ _ hel
      obtain ⟨d', hd', hn⟩ := hf.one
      simp only [denX, hd] at hd'
      split at hd'
      · rename_i zz sz' xs hz
        injection hz with hz; subst hz
        injection hd' with hd'; subst hd'
        have he : P.elem t = et := by simp [Program.elem, hu]
        rcases hrep with hrep | ⟨sz2, xs2, A2, cap2, e2, hgx, hle⟩
        rotate_left
        · injection e2 with e2 e3
          subst e3
          refine wp_value (hexec xs.length (by rw [hgx]; exact run_len_slice (P := P) W t o.type A2 xs.length cap2 (by rw [he]; exact hu))) (h.goes o ⟨_, hn, ?_⟩)
          exact .i _ _ (wrap_nat (by omega))
        generalize hgx : a.eval x = vx at hrep
        cases hrep with
        | l _ _ A m cp b q vs g0 g1 g2 g3 g4 g5 g6 =>
          refine wp_value (hexec m (by rw [hgx]; exact run_len_slice (P := P) W t o.type A m cp (by rw [he]; exact hu))) (h.goes o ⟨_, hn, ?_⟩)
          rw [g0]
          exact .i _ _ (wrap_nat (by omega))
      · cases hd'
    · split at hr
      · rename_i hzs
        simp only [run_pure, Option.some.injEq] at hr
        subst hr
        have hu := ht.str hzs
        obtain ⟨d', hd', hn⟩ := hf.one
        simp only [denX, hd] at hd'
        split at hd'
        · rename_i zz xs hz
          injection hz with hz; subst hz
          injection hd' with hd'; subst hd'
          rcases hrep with hrep | ⟨_, _, _, _, e2, _⟩
          rotate_left
          · cases e2
          obtain ⟨hv, hle⟩ := rep_s hrep
          refine wp_value (hexec xs.length (by rw [hv]; exact run_len_string (P := P) W t o.type _ hu)) (h.goes o ⟨_, hn, .i _ _ (wrap_nat hle)⟩)
        · cases hd'
      · cases hr
  · cases hr
def NewsR (W : World) (F : Nat → Prop) (sz : Nat) (ys : List (List Dt)) (vy : Value) : Prop :=
  ∃ A c, ∃ news : List Value, vy = .slice A ys.length c ∧ news.length = ys.length * sz ∧ Reps W F ys.flatten news ∧ (0 < ys.length → ∃ b q, A = some ⟨b, q, none⟩ ∧ ∀ (j : Nat) (u : Value), news[j]? = some u → W.cell? ⟨b, q + j, none⟩ = some u)
theorem rep_newsR {W : World} {F : Nat → Prop} {sz : Nat} {ys : List (List Dt)} {vy : Value} (hr : Rep W F (.l sz ys) vy) (hpos : 0 < sz) : NewsR W F sz ys vy := by
  generalize hd : Dt.l sz ys = d at hr
  have hr' := hr
  cases hr' with
  | l sz' ys' A c cp b q vs g0 g1 g2 g3 g4 g5 g6 =>
    injection hd with e1 e2
    subst e1; subst e2
    obtain ⟨hm, news, hn1, hn2, hn3⟩ := rep_news hr hpos
    exact ⟨A, cp, news, by rw [hm], hn1, hn2, hn3⟩
  | _ => cases hd
theorem slA_news (h : Sim w0 F0 E τ ω a W ρ) {c : C1} {x : Atom} (hr : (slA c).run τ ω = some x) {v : Value} (hc : C1R (ctx w0 F0 E ω ρ W) c v) {sz : Nat} {ys : List (List Dt)} (hx : x.val E = some (.l sz ys)) (hpos : 0 < sz) : NewsR W (Frr w0 F0 ω ρ W) sz ys v := by
  cases c with
  | «at» y =>
    simp only [slA, run_pure, Option.some.injEq] at hr
    subst hr
    obtain ⟨d, h1, h2⟩ := C1R.at_ hc
    simp only [ctx] at h1
    rw [hx] at h1; injection h1 with h1; subst h1
    exact rep_newsR h2 hpos
  | row k =>
    simp only [slA, run_bind, run_rO, Option.bind_eq_some_iff] at hr
    obtain ⟨ob, hob, hr⟩ := hr
    obtain ⟨_, hv, _⟩ := hc
    simp only [ctx] at hv
    split at hr
    · rename_i e' sz' y
      simp only [run_pure, Option.some.injEq] at hr
      subst hr
      obtain ⟨xs, vs, b1, b2, b3, b4⟩ := h.objs k _ hob
      simp only [ctx] at b1 b3 b4
      rw [hx] at b1; injection b1 with b1; injection b1 with b1 b1'; subst b1; subst b1'
      rw [hv]
      rcases b3.2 with ⟨hn, h0⟩ | ⟨g, cap, cur, hv', hb, hh, hnc, hcm, hcs, ht⟩
      · refine ⟨none, 0, vs, by rw [hn, h0], b3.1, b4, fun hp => by omega⟩
      · refine ⟨_, cap, vs, hv', b3.1, b4, fun hp => ⟨g, 0, rfl, fun j u hj => ?_⟩⟩
        rw [cell_of_row W g _ cur e' (0, 0) hh, Nat.zero_add]
        have : (cur.toList.take (ys.length * sz))[j]? = some u := by rw [ht]; exact hj
        rw [List.getElem?_take] at this
        split at this
        · simpa using this
        · cases this
    · rename_i y
      simp only [run_pure, Option.some.injEq] at hr
      subst hr
      obtain ⟨d, b1, b2⟩ := h.objs k _ hob
      simp only [ctx] at b1 b2
      rw [hx] at b1; injection b1 with b1; subst b1
      rw [hv]
      exact rep_newsR b2 hpos
    · cases hr
  | _ => cases hr
theorem run_append_of_nil' {W : World} (base : Nat) (t ty e : TypeId) (i : TypeInfo) (size : Nat) (ht : P.underlying t = some (.slice e)) (hi : P.info? e = some i)
    (v : Value) (n : Nat) (xs : List Value) (hown : W.ownsRow base e size v n xs) (c : Nat) : (Builtin.append_ #[t, t] ty #[v, .slice none 0 c]).run P W = .ok v W := by
  rcases hown.2 with ⟨rfl, rfl⟩ | ⟨g, cap, cur, rfl, _, _, hnc, _⟩
  · simp [Builtin.append_, run_underlying ht, sizeOf, typeInfo, hi, Builtin.lenOf, Builtin.firstCells]
  · simp [Builtin.append_, run_underlying ht, sizeOf, typeInfo, hi, Builtin.lenOf, Builtin.firstCells, hnc, storeCells]
theorem run_append_rep {W : World} {F : Nat → Prop} {base t ty et sz by_ : Nat} {ie : TypeInfo} {z : Value} (hu : P.underlying t = some (.slice et)) (hie : P.info? et = some ie) (hz : ie.zero = some z) (hsz : ie.size = sz) (hby : ie.bytes = by_) (hzs : z.cells.size = sz) (hpos : 0 < sz) (hb : by_ ≤ 10000)
    {v : Value} {m : Nat} {cells : List Value} (hown : W.ownsRow base et sz v m cells) {ys : List (List Dt)} {vy : Value} (hr : NewsR W F sz ys vy) (hl : m + ys.length ≤ 1000000) (hbase : base ≤ W.heap.size) :
    ∃ v' W' news, Reps W F ys.flatten news ∧ (Builtin.append_ #[t, t] ty #[v, vy]).run P W = .ok v' W' ∧ W'.ownsRow base et sz v' (m + ys.length) (cells ++ news) ∧ W.grownBy W' v.ownBlock ∧ (v'.ownBlock = v.ownBlock ∨ v'.ownBlock = some W.heap.size) := by
  obtain ⟨A, cp, news, rfl, hn1, hn2, hn3⟩ := hr
  cases A with
  | none =>
    have h0 : ys.length = 0 := by
      rcases Nat.eq_zero_or_pos ys.length with h0 | h0
      · exact h0
      · obtain ⟨b, q, e, _⟩ := hn3 h0; cases e
    have hys : ys = [] := List.eq_nil_of_length_eq_zero h0
    subst hys
    have hnn : news = [] := List.eq_nil_of_length_eq_zero (by simpa using hn1)
    subst hnn
    exact ⟨v, W, [], hn2, run_append_of_nil' base t ty et ie sz hu hie v m cells hown cp, by simpa using hown, World.grownBy.refl W _, .inl rfl⟩
  | some ad =>
    have hone := hn2.one
    obtain ⟨v', w', hrun, h2, h3, _, h5⟩ := run_append_own_at (P := P) W base t ty et ie z sz by_ hu hie hz hsz hby hzs hpos v m cells hown ad ys.length cp news hn1 (fun j u hj => by
      have hp : 0 < ys.length := by
        rcases Nat.eq_zero_or_pos ys.length with h0 | h0
        · rw [h0, Nat.zero_mul] at hn1
          have := List.eq_nil_of_length_eq_zero hn1
          subst this; cases hj
        · exact h0
      obtain ⟨b', q', e, hcell⟩ := hn3 hp
      injection e with e
      subst e
      rw [show ((⟨b', q', none⟩ : Addr).add j) = ⟨b', q' + j, none⟩ from Addr.add_mid ..]
      exact hcell j u hj) hone (by unfold maxLen; omega) (by
      have := Nat.mul_le_mul (show m + ys.length ≤ 1000000 by omega) hb
      omega) hbase
    exact ⟨v', w', news, hn2, hrun, h2, h3, h5⟩
theorem grown_below {W W' : World} {B : Nat} {r : Option Nat} (h : W.grownBy W' r) (hr : ∀ g, r = some g → B ≤ g) (hB : B ≤ W.heap.size) : Below B W W' :=
  ⟨h.os, h.tape, h.output, h.size, fun k hk => h.block k (by omega) fun e => by have := hr k e.symm; omega⟩
theorem ownsRow_one {w : World} {base e size n : Nat} {v : Value} {xs : List Value} (h : w.ownsRow base e size v n xs) : v.oneCell' = true := by
  rcases h.2 with ⟨rfl, _⟩ | ⟨g, cap, cur, rfl, _⟩ <;> rfl
theorem NewsR.sizes {W : World} {F : Nat → Prop} {sz : Nat} {ys : List (List Dt)} {vy : Value} (h : Rep W F (.l sz ys) vy) : ∀ y ∈ ys, y.length = sz := by
  cases h with
  | l _ _ A m cp b q vs g0 g1 g2 g3 g4 g5 g6 => exact g3
theorem op_append {c : Call} (h : Sim w0 F0 E τ ω a W ρ) (ho : o.op = .call c) (hcl : c.callee = .builtin .append) (hr : (stepOp cx kb n nt kn o).run τ ω = some e) (hf : Facts sp E n e) (hty : ∀ t i, cx.ti t = some i → TyOk P t i) : o.wp P a W (Goes w0 F0 E τ ω e.ws) Q := by
  unfold stepOp at hr
  rw [ho] at hr
  simp only [stCall, hcl] at hr
  split at hr
  · rename_i x y t t' hx htt
    simp only [run_ite] at hr
    split at hr
    · cases hr
    rename_i htt'
    simp only [ne_eq, Decidable.not_not] at htt'
    subst htt'
    simp only [run_bind, run_ofO, Option.bind_eq_some_iff] at hr
    obtain ⟨ti, hti, ⟨et, sz, by_⟩, hel, k, hk, cy, hy1, b, hy2, cxx, hx1, hr⟩ := hr
    have ht := hty t ti hti
    obtain ⟨hu, ie, z, hie, hz, hsz, hby, hzs, hpos, hsz2, hby2⟩ := ht.el _ _ _ hel
    obtain ⟨hd, hk⟩ := newKey_ok hk
    have hlt := (List.getElem?_eq_some_iff.1 hk).1
    obtain ⟨dy, hdy, hrepy⟩ := slA_ok h hy2 (evC_ok h hy1)
    have hcx := evC_ok h hx1
    have e1 : c.args = #[x, y] := by rw [← Array.toArray_toList (xs := c.args), hx]
    have e2 : c.argTypes = #[t, t] := by rw [← Array.toArray_toList (xs := c.argTypes), htt]
    have hexec : ∀ v' W', (Builtin.append_ #[t, t] o.type #[a.eval x, a.eval y]).run P W = .ok v' W' → (execOp a.eval o).run P W = .ok (.value v') W' := by
      intro v' W' hm
      unfold execOp
      simp only [ho, resolve, hcl, e1, e2, invoke, builtin, Sem.run_bind, Sem.run_pure, Result.andThen_ok, List.map_toArray, List.map_cons, List.map_nil, hm]
    split at hr
    · rename_i z'
      simp only [run_ite] at hr
      split at hr
      · rename_i hzz
        subst hzz
        simp only [run_pure, Option.some.injEq] at hr
        subst hr
        obtain ⟨d, hd', hn⟩ := hf.one
        have hnil : (Atom.c (.nil z')).val E = some (.l z' []) := rfl
        simp only [denX, hnil, hdy] at hd'
        split at hd'
        · rename_i z1 xs1 z2 ys hz1 hz2
          injection hz1 with hz1; injection hz1 with hz1 hz1'; subst hz1; subst hz1'
          injection hz2 with hz2; subst hz2
          split at hd'
          · rename_i hcond
            obtain ⟨_, rfl, hll⟩ := hcond
            injection hd' with hd'; subst hd'
            have hxv : a.eval x = .slice none 0 0 := C1R.isNil hcx
            have hyl := NewsR.sizes hrepy
            obtain ⟨v', W', news, g1, g2, g3, g4, g5⟩ := run_append_rep (P := P) (ty := o.type) hu hie hz hsz hby hzs hpos hby2 (W.ownsRow_nil w0.heap.size et _) (slA_news h hy2 (evC_ok h hy1) hdy hpos) (by simpa using hll) h.bsz
            rw [← hxv] at g2
            have hnew := h.new (W' := W') hk (grown_below g4 (fun g hg => by cases hg) (Nat.le_refl _)) (.row et z2 (.v n)) v' (fun b hb => by
              simp only [own] at hb
              rcases g5 with g5 | g5
              · rw [g5] at hb; cases hb
              · rw [g5] at hb; injection hb with hb; omega) (fun hle => by
              refine ⟨ys, news, hn, hyl, ?_, g1.mono hle.agree hle.more⟩
              rw [show (ctx w0 F0 E (ω.set k (some (.row et z2 (.v n)))) (upd ρ k v') W').ρ k = v' from upd_self _ _ _]
              rw [Nat.zero_add, List.nil_append] at g3
              exact g3)
            refine wp_value (hexec v' W' g2) ⟨upd ρ k v', ?_⟩
            exact hnew.dst o (sv := .one (.row k)) ⟨⟨_, List.getElem?_set_self hlt⟩, (upd_self _ _ _).symm, ownsRow_one g3⟩
          · cases hd'
        · cases hd'
      · cases hr
    · rename_i k0
      simp only [run_bind, run_rO, Option.bind_eq_some_iff] at hr
      obtain ⟨ob, hob, hr⟩ := hr
      split at hr
      · rename_i e' z' xa
        simp only [run_ite] at hr
        split at hr
        · rename_i hcond
          obtain ⟨rfl, rfl⟩ := hcond
          simp only [run_pure, Option.some.injEq] at hr
          subst hr
          obtain ⟨xs, vs, b1, b2, b3, b4⟩ := h.objs k0 _ hob
          obtain ⟨d, hd', hn⟩ := hf.one
          simp only [ctx] at b1
          simp only [denX, b1, hdy] at hd'
          split at hd'
          · rename_i z1 xs1 z2 ys hz1 hz2
            injection hz1 with hz1; injection hz1 with hz1 hz1'; subst hz1; subst hz1'
            injection hz2 with hz2; subst hz2
            split at hd'
            · rename_i hcond
              obtain ⟨_, rfl, hll⟩ := hcond
              injection hd' with hd'; subst hd'
              obtain ⟨_, hxv, _⟩ := hcx
              simp only [ctx] at hxv b3 b4
              have hyl := NewsR.sizes hrepy
              obtain ⟨v', W', news, g1, g2, g3, g4, g5⟩ := run_append_rep (P := P) (ty := o.type) hu hie hz hsz hby hzs hpos hby2 b3 (slA_news h hy2 (evC_ok h hy1) hdy hpos) hll h.bsz
              rw [← hxv] at g2
              have hkk : k ≠ k0 := fun e => by rw [e] at hk; rw [hk] at hob; cases hob
              have hlt0 := (List.getElem?_eq_some_iff.1 hob).1
              have hb3 : ∀ g, (ρ k0).ownBlock = some g → w0.heap.size ≤ g ∧ g < W.heap.size := fun g hg => ownsRow_lt b3 hg
              have hgk : ∀ o', ((ω.set k0 (some (.gone xa))).set k (some (.row e' z2 (.v n))))[k0]? = some (some o') → o' = .gone xa := by
                intro o' h1
                rw [List.getElem?_set_ne hkk, List.getElem?_set_self hlt0] at h1
                simp only [Option.some.injEq] at h1
                exact h1.symm
              have hgd : ∀ o', ((ω.set k0 (some (.gone xa))).set k (some (.row e' z2 (.v n))))[k]? = some (some o') → o' = .row e' z2 (.v n) := by
                intro o' h1
                rw [List.getElem?_set_self (by simpa using hlt)] at h1
                simp only [Option.some.injEq] at h1
                exact h1.symm
              have hnew : Sim w0 F0 E τ ((ω.set k0 (some (.gone xa))).set k (some (.row e' z2 (.v n)))) a W' (upd ρ k v') := by
                refine h.gen [k0, k] (grown_below g4 (fun g hg => (hb3 g hg).1) h.bsz) h.defers h.size (fun j hj => ?_) (fun j hj => ?_) (fun b hb hno => ?_) (fun j hj o' ho' b hb => ?_) (fun j hj j' hj' o1 o2 g h1 h2 h3 h4 => ?_) (fun hle _ j hj o' ho' => ?_) (fun _ _ t sv ht => .inl ⟨ht, rfl⟩)
                · simp only [List.mem_cons, List.not_mem_nil, or_false, not_or] at hj
                  rw [List.getElem?_set_ne (Ne.symm hj.2), List.getElem?_set_ne (Ne.symm hj.1)]
                · refine ⟨live_set (by simpa using hlt) (live_set hlt0 hj), upd_ne _ _ fun e => ?_⟩
                  obtain ⟨q, hq⟩ := hj
                  rw [e, hk] at hq; cases hq
                · refine g4.block b hb fun e => hno k0 (by simp) _ hob ?_
                  simp only [own]; exact e.symm
                · simp only [List.mem_cons, List.not_mem_nil, or_false] at hj
                  rcases hj with rfl | rfl
                  · rw [hgk o' ho'] at hb; simp only [own] at hb; cases hb
                  · rw [hgd o' ho', upd_self] at hb
                    simp only [own] at hb
                    rcases g5 with g5 | g5
                    · exact .inl ⟨k0, by simp, _, hob, by simp only [own]; rw [← g5]; exact hb⟩
                    · rw [g5] at hb; injection hb with hb; exact .inr (by omega)
                · simp only [List.mem_cons, List.not_mem_nil, or_false] at hj hj'
                  rcases hj with rfl | rfl
                  · rw [hgk o1 h1] at h3; simp only [own] at h3; cases h3
                  · rcases hj' with rfl | rfl
                    · rw [hgk o2 h2] at h4; simp only [own] at h4; cases h4
                    · rfl
                · simp only [List.mem_cons, List.not_mem_nil, or_false] at hj
                  rcases hj with rfl | rfl
                  · rw [hgk o' ho']
                    have hρj : upd ρ k v' j = ρ j := upd_ne _ _ (fun e => hkk e.symm)
                    rcases b3.2 with ⟨hn0, h00⟩ | ⟨g, cap, cur, hv', _⟩
                    · exact ⟨_, xs, none, 0, b1, by show upd ρ k v' j = _; rw [hρj, hn0, h00], by omega⟩
                    · exact ⟨_, xs, _, cap, b1, by show upd ρ k v' j = _; rw [hρj, hv'], by omega⟩
                  · rw [hgd o' ho']
                    refine ⟨xs ++ ys, vs ++ news, hn, fun x hx => ?_, ?_, ?_⟩
                    · rcases List.mem_append.1 hx with h' | h'
                      · exact b2 x h'
                      · exact hyl x h'
                    · rw [show (ctx w0 F0 E ((ω.set k0 (some (.gone xa))).set j (some (.row e' z2 (.v n)))) (upd ρ j v') W').ρ j = v' from upd_self _ _ _, List.length_append]
                      exact g3
                    · rw [List.flatten_append]
                      exact (b4.mono hle.agree hle.more).append (g1.mono hle.agree hle.more)
              refine wp_value (hexec v' W' g2) ⟨upd ρ k v', ?_⟩
              exact hnew.dst o (sv := .one (.row k)) ⟨⟨_, List.getElem?_set_self (by simpa using hlt)⟩, (upd_self _ _ _).symm, ownsRow_one g3⟩
            · cases hd'
          · cases hd'
        · cases hr
      · cases hr
    · cases hr
  · cases hr
end
end Go.Proofs.YtnklncinjahckaaGreatDoor
namespace Go.Proofs.YtnklncinjahckaaGreatDoor
open Go.RowKit
set_option linter.unusedVariables false
set_option linter.unusedSimpArgs false
def PtrR (W : World) (F : Nat → Prop) (ds : List Dt) (v : Value) : Prop := ∃ g o, ∃ us : List Value, v = .pointer (some ⟨g, o, none⟩) ∧ F g ∧ W.rangeAt g o us ∧ Reps W F ds us
def CapsR (W : World) (F : Nat → Prop) : List Nat → List Dt → List Value → Prop
  | [], ds, us => ds = [] ∧ us = []
  | n :: ns, ds, us => ∃ d1 d2 v vs, ds = d1 ++ d2 ∧ us = v :: vs ∧ d1.length = n ∧ PtrR W F d1 v ∧ CapsR W F ns d2 vs
def PKR (W : World) (F : Nat → Prop) : PK → List Dt → Value → Prop
  | .one, ds, v => ∃ d, ds = [d] ∧ Rep W F d v
  | .agg n, ds, v => ds.length = n ∧ ∃ us : List Value, v = .agg us.toArray ∧ Reps W F ds us
  | .ptr n, ds, v => ds.length = n ∧ PtrR W F ds v
  | .clos f ns, ds, v => ∃ us : List Value, v = .func (.func f) #[] us.toArray ∧ CapsR W F ns ds us
  | .mine _ _, _, _ => False
def PKRs (W : World) (F : Nat → Prop) : List PK → List Dt → List Value → Prop
  | [], ds, us => ds = [] ∧ us = []
  | p :: ps, ds, us => ∃ d1 d2 v vs, ds = d1 ++ d2 ∧ us = v :: vs ∧ PKR W F p d1 v ∧ PKRs W F ps d2 vs
def CFR (W : World) (F : Nat → Prop) (base : Nat) : CF → Dt → Value → Prop
  | .pure, d, v => Rep W F d v
  | .scal, d, v => d.scal = true ∧ Rep W F d v
  | .fresh e sz, d, v => ∃ xs vs, d = .l sz xs ∧ (∀ x ∈ xs, x.length = sz) ∧ W.ownsRow base e sz v xs.length vs ∧ Reps W F xs.flatten vs
def PartV : Bool × List CF → Value → List Value → Prop
  | (true, fs), v, us => v = .agg us.toArray ∧ us.length = fs.length
  | (false, fs), v, us => us = [v] ∧ fs.length = 1
def PartsV : List (Bool × List CF) → List Value → List Value → Prop
  | [], vs, us => vs = [] ∧ us = []
  | p :: ps, vs, us => ∃ v vs' u1 u2, vs = v :: vs' ∧ us = u1 ++ u2 ∧ PartV p v u1 ∧ PartsV ps vs' u2
def ResV : List (Bool × List CF) → Value → List Value → Prop
  | [p], v, us => PartV p v us
  | ps, v, us => ∃ vs : List Value, v = .tuple vs.toArray ∧ PartsV ps vs us
structure ResR (W : World) (F : Nat → Prop) (W' : World) (s : Sig) (rs : List Dt) (v : Value) (us : List Value) (F' : Nat → Prop) : Prop where
  val : ResV s.res v us
  lrs : rs.length = (cfsOf s).length
  lus : us.length = (cfsOf s).length
  cells : ∀ (j : Nat) (f : CF) (d : Dt) (u : Value), (cfsOf s)[j]? = some f → rs[j]? = some d → us[j]? = some u → CFR W' F' W.heap.size f d u
  own : ∀ b, F' b → F b ∨ (W.heap.size ≤ b ∧ b < W'.heap.size)
  apart : ∀ (j e sz : Nat) (u : Value) (b : Nat), (cfsOf s)[j]? = some (.fresh e sz) → us[j]? = some u → u.ownBlock = some b → ¬ F' b
  dj : ∀ (j j' e sz e' sz' : Nat) (u u' : Value) (b : Nat), (cfsOf s)[j]? = some (.fresh e sz) → us[j]? = some u → (cfsOf s)[j']? = some (.fresh e' sz') → us[j']? = some u' → u.ownBlock = some b → u'.ownBlock = some b → j = j'
def Does (P : Program) (f : Nat) (args : Array Value) (W : World) (R : Value → World → Prop) : Prop :=
  ((callFunc f args).run P W = .ok (.enter f args) W ∧ Calls P f args W fun e W' => ∃ v, e = .returned v ∧ R v W') ∨
  ∃ v W', (callFunc f args).run P W = .ok (.value v) W' ∧ R v W'
def MeetsP (P : Program) (spec : Spec) (f : Nat) (s : Sig) : Prop :=
  ∀ (W : World) (F : Nat → Prop) (ds : List Dt) (args : List Value) (rs : List Dt), Lows F W → PKRs W F s.args ds args → spec ds = some rs →
    Does P f args.toArray W fun v W' => Below W.heap.size W W' ∧ ∃ us F', ResR W F W' s rs v us F'
def MeetsM (P : Program) (spec : Spec) (f : Nat) (s : Sig) (e sz : Nat) (ps : List PK) : Prop :=
  ∀ (W : World) (F : Nat → Prop) (base : Nat) (v : Value) (xs : List (List Dt)) (vs : List Value) (ds : List Dt) (args : List Value) (rs : List Dt), Lows F W → base ≤ W.heap.size → (∀ b, v.ownBlock = some b → ¬ F b) →
    (∀ x ∈ xs, x.length = sz) → W.ownsRow base e sz v xs.length vs → Reps W F xs.flatten vs → PKRs W F ps ds args → spec (.l sz xs :: ds) = some rs →
    ∃ xs', rs = [.l sz xs'] ∧ (∀ x ∈ xs', x.length = sz) ∧ Does P f (v :: args).toArray W fun r W' => ∃ v' vs', ((s.res = [] → v' = v) ∧ (s.res ≠ [] → r = v')) ∧ W.grownBy W' v.ownBlock ∧
      W'.ownsRow base e sz v' xs'.length vs' ∧ Reps W' F xs'.flatten vs' ∧ (∀ b, v'.ownBlock = some b → v.ownBlock = some b ∨ W.heap.size ≤ b)
def Meets (P : Program) (spec : Spec) (f : Nat) (s : Sig) : Prop := (isMine s.args = false → MeetsP P spec f s) ∧ ∀ e sz ps, s.args = .mine e sz :: ps → MeetsM P spec f s e sz ps
theorem isMine_of {s : Sig} {e sz : Nat} {ps : List PK} (h : s.args = .mine e sz :: ps) : isMine s.args = true := by rw [h]; rfl
theorem Meets.mk {P : Program} {spec : Spec} {f : Nat} {s : Sig} (h : isMine s.args = false) (hm : MeetsP P spec f s) : Meets P spec f s := ⟨fun _ => hm, fun e sz ps he => by rw [isMine_of he] at h; cases h⟩
section
variable {P : Program} {w0 W : World} {F0 : Bk} {E : Env} {τ : List SV} {ω ω1 : List (Option Ob)} {a : Act} {ρ : Nat → Value} {cx : Cx} {o : Oper} {e : Eff} {sp : Nat → Spec} {n nt kb : Nat} {kn : List (Nat × Bool)} {Q : Exit → Act → World → Prop}
theorem vals_append {E : Env} : ∀ {xs ys : List Atom} {d1 d2 : List Dt}, vals E xs = some d1 → vals E ys = some d2 → vals E (xs ++ ys) = some (d1 ++ d2)
  | [], ys, d1, d2, h1, h2 => by simp only [vals, Option.some.injEq] at h1; subst h1; exact h2
  | x :: xs, ys, d1, d2, h1, h2 => by
    simp only [vals, Option.bind_eq_bind, Option.bind_eq_some_iff, Option.pure_def, Option.some.injEq] at h1
    obtain ⟨dx, hx, dxs, hxs, rfl⟩ := h1
    simp [vals, hx, vals_append hxs h2]
theorem argCells_false : ∀ (cs : List C1), argCells false cs = frAs cs
  | [] => rfl
  | c :: cs => by
    have h1 : argOne false c = frA c := by cases c <;> rfl
    rw [argCells, frAs, h1, argCells_false cs]
theorem argPK_give (hω : FrzRel ω ω1) (h : Sim w0 F0 E τ ω1 a W ρ) {p : PK} {sv : SV} {xs : List Atom} {ws : List Wr} (hr : (argPK false p sv).run τ ω = some (xs, ws)) {v : Value} (hc : SVR (ctx w0 F0 E ω1 ρ W) sv v) :
    (wr τ ω1 ws).1 = τ ∧ Frz w0 W F0 E τ ω ω1 (wr τ ω1 ws).2 a ρ ∧ ∃ ds, vals E xs = some ds ∧ PKR W (Frr w0 F0 (wr τ ω1 ws).2 ρ W) p ds v := by
  unfold argPK at hr
  split at hr
  · rename_i c
    rw [argCells_false] at hr
    obtain ⟨h1, h2, ds, h3, h4⟩ := frAs_ok (vs := [v]) hω h hr ⟨hc, trivial⟩
    refine ⟨h1, h2, ds, h3, ?_⟩
    match ds, h4 with
    | [d], h4 => exact ⟨d, rfl, h4.1⟩
    | [], h4 => exact absurd h4 id
    | _ :: _ :: _, h4 => exact absurd h4.2 id
  · rename_i m cs
    simp only [run_ite] at hr
    split at hr
    · rename_i hl
      rw [argCells_false] at hr
      obtain ⟨us, hv, hcs⟩ := hc
      obtain ⟨h1, h2, ds, h3, h4⟩ := frAs_ok hω h hr hcs
      exact ⟨h1, h2, ds, h3, by rw [h4.len, ← hcs.len, hl], us, hv, h4⟩
    · cases hr
  · simp only [Bool.false_eq_true, if_false] at hr; cases hr
  · simp only [Bool.false_eq_true, false_and, if_false] at hr; cases hr
  · cases hr
theorem PKR.mono {W : World} {F F' : Nat → Prop} (hF : ∀ b, F b → F' b) {p : PK} {ds : List Dt} {v : Value} (h : PKR W F p ds v) : PKR W F' p ds v := by
  have hp : ∀ {ds v}, PtrR W F ds v → PtrR W F' ds v := fun ⟨g, q, us, h1, h2, h3, h4⟩ => ⟨g, q, us, h1, hF _ h2, h3, h4.mono (fun _ _ => rfl) hF⟩
  have hc : ∀ {ns ds us}, CapsR W F ns ds us → CapsR W F' ns ds us := by
    intro ns
    induction ns with
    | nil => intro ds us h; exact h
    | cons m ns ih => intro ds us ⟨d1, d2, v, vs, h1, h2, h3, h4, h5⟩; exact ⟨d1, d2, v, vs, h1, h2, h3, hp h4, ih h5⟩
  cases p with
  | one => obtain ⟨d, h1, h2⟩ := h; exact ⟨d, h1, h2.mono (fun _ _ => rfl) hF⟩
  | agg m => obtain ⟨h1, us, h2, h3⟩ := h; exact ⟨h1, us, h2, h3.mono (fun _ _ => rfl) hF⟩
  | ptr m => exact ⟨h.1, hp h.2⟩
  | clos f ns => obtain ⟨us, h1, h2⟩ := h; exact ⟨us, h1, hc h2⟩
  | mine e sz => exact absurd h id
theorem Frz.trans {ω2 ω3 : List (Option Ob)} (h : Frz w0 W F0 E τ ω ω1 ω2 a ρ) (k : Frz w0 W F0 E τ ω ω2 ω3 a ρ) : Frz w0 W F0 E τ ω ω1 ω3 a ρ :=
  ⟨k.sim, k.rel, ⟨fun _ _ => rfl, fun b hb => k.le.more b (h.le.more b hb), fun _ _ y => y, fun j hj => ⟨(k.le.live j (h.le.live j hj).1).1, rfl⟩⟩⟩
theorem argAll_give : ∀ {ps : List PK} {svs : List SV} {xs : List Atom} {ws : List Wr} {ω1 : List (Option Ob)} {us : List Value}, FrzRel ω ω1 → Sim w0 F0 E τ ω1 a W ρ → (argAll false ps svs).run τ ω = some (xs, ws) → us.length = svs.length → (∀ (j : Nat) (sv : SV) (u : Value), svs[j]? = some sv → us[j]? = some u → SVR (ctx w0 F0 E ω1 ρ W) sv u) →
    (wr τ ω1 ws).1 = τ ∧ Frz w0 W F0 E τ ω ω1 (wr τ ω1 ws).2 a ρ ∧ ∃ ds, vals E xs = some ds ∧ PKRs W (Frr w0 F0 (wr τ ω1 ws).2 ρ W) ps ds us
  | [], [], xs, ws, ω1, us, hω, h, hr, hl, hj => by
    simp only [argAll, run_pure, Option.some.injEq, Prod.mk.injEq] at hr
    obtain ⟨rfl, rfl⟩ := hr
    have : us = [] := List.eq_nil_of_length_eq_zero (by simpa using hl)
    subst this
    exact ⟨rfl, ⟨h, hω, Ctx.Le.refl _⟩, [], rfl, rfl, rfl⟩
  | p :: ps, sv :: svs, xs, ws, ω1, u :: us, hω, h, hr, hl, hj => by
    simp only [argAll, run_bind, run_pure, Option.bind_eq_some_iff, Option.some.injEq, Prod.mk.injEq] at hr
    obtain ⟨⟨x1, w1⟩, h1, ⟨x2, w2⟩, h2, rfl, rfl⟩ := hr
    obtain ⟨g1, g2, d1, g3, g4⟩ := argPK_give hω h h1 (hj 0 sv u rfl rfl)
    obtain ⟨k1, k2, d2, k3, k4⟩ := argAll_give g2.rel g2.sim h2 (by simpa using hl) fun j sv u h3 h4 => (hj (j + 1) sv u (by simpa using h3) (by simpa using h4)).mono g2.le
    rw [wr_append, g1]
    exact ⟨k1, g2.trans k2, d1 ++ d2, vals_append g3 k3, d1, d2, u, us, rfl, rfl, g4.mono k2.le.more, k4⟩
  | [], _ :: _, xs, ws, ω1, us, hω, h, hr, hl, hj => by cases hr
  | _ :: _, [], xs, ws, ω1, us, hω, h, hr, hl, hj => by cases hr
  | p :: ps, sv :: svs, xs, ws, ω1, [], hω, h, hr, hl, hj => by simp at hl
theorem argCells_lend (h : Sim w0 F0 E τ ω a W ρ) : ∀ {cs : List C1} {xs : List Atom} {ws : List Wr} {us : List Value}, (argCells true cs).run τ ω = some (xs, ws) → C1Rs (ctx w0 F0 E ω ρ W) cs us → ws = [] ∧ ∃ ds, vals E xs = some ds ∧ Reps W (Lt W.heap.size) ds us
  | [], xs, ws, [], hr, hc => by
    simp only [argCells, run_pure, Option.some.injEq, Prod.mk.injEq] at hr
    obtain ⟨rfl, rfl⟩ := hr
    exact ⟨rfl, [], rfl, trivial⟩
  | c :: cs, xs, ws, u :: us, hr, hc => by
    simp only [argCells, run_bind, run_pure, Option.bind_eq_some_iff, Option.some.injEq, Prod.mk.injEq] at hr
    obtain ⟨⟨x1, w1⟩, h1, ⟨x2, w2⟩, h2, rfl, rfl⟩ := hr
    have key : (slA c).run τ ω = some x1 ∧ w1 = [] := by
      cases c with
      | «at» y =>
        simp only [argOne, run_pure, Option.some.injEq, Prod.mk.injEq] at h1
        obtain ⟨rfl, rfl⟩ := h1
        exact ⟨rfl, rfl⟩
      | row k =>
        simp only [argOne, if_true, run_bind, run_pure, Option.bind_eq_some_iff, Option.some.injEq, Prod.mk.injEq] at h1
        obtain ⟨y, h3, rfl, rfl⟩ := h1
        exact ⟨h3, rfl⟩
      | _ => cases h1
    obtain ⟨h3, rfl⟩ := key
    obtain ⟨d, hd, hrep⟩ := slA_ok h h3 hc.1
    obtain ⟨rfl, ds, hds, hreps⟩ := argCells_lend h h2 hc.2
    exact ⟨rfl, d :: ds, by simp [vals, hd, hds], hrep, hreps⟩
theorem ptrCells_ok (h : Sim w0 F0 E τ ω a W ρ) {m : Nat} {c : C1} {xs : List Atom} (hr : (ptrCells m c).run τ ω = some xs) {v : Value} (hc : C1R (ctx w0 F0 E ω ρ W) c v) : ∃ ds, vals E xs = some ds ∧ ds.length = m ∧ PtrR W (Lt W.heap.size) ds v := by
  have hF : ∀ b, Frr w0 F0 ω ρ W b → Lt W.heap.size b := fun b hb => h.frLt hb
  cases c with
  | bp k off =>
    simp only [ptrCells, run_bind, run_rO, Option.bind_eq_some_iff] at hr
    obtain ⟨ob, hob, hr⟩ := hr
    have key : ∀ (cs : List C1), (if off + m ≤ cs.length then atomsOf ((cs.drop off).take m) else none) = some xs → (∃ g q vs, ρ k = .pointer (some ⟨g, q, none⟩) ∧ g < W.heap.size ∧ W.rangeAt g q vs ∧ C1Rs (ctx w0 F0 E ω ρ W) cs vs) → ∃ ds, vals E xs = some ds ∧ ds.length = m ∧ PtrR W (Lt W.heap.size) ds v := by
      intro cs hcs ⟨g, q, vs, h1, h2, h3, h4⟩
      split at hcs
      · rename_i hle
        obtain ⟨ds, hds, hreps⟩ := atomsOf_ok hcs (h4.part off m)
        obtain ⟨_, g', q', hρ, hv⟩ := hc
        simp only [ctx] at hρ
        rw [h1] at hρ
        simp only [Value.pointer.injEq, Option.some.injEq, Addr.mk.injEq] at hρ
        obtain ⟨rfl, rfl, _⟩ := hρ
        have hvl := h4.len
        refine ⟨ds, hds, ?_, g, q + off, (vs.drop off).take m, hv, h2, range_drop h3, hreps.mono (fun _ _ => rfl) hF⟩
        rw [hreps.len, List.length_take, List.length_drop]; omega
      · cases hcs
    split at hr
    · rename_i t cs
      simp only [run_ofO] at hr
      obtain ⟨g, vs, b1, b2, b3, b4⟩ := h.objs k _ hob
      refine key cs hr ⟨g, 0, vs, b1, ?_, hrange b3, b4⟩
      rcases Nat.lt_or_ge g W.heap.size with h' | h'
      · exact h'
      · simp only [ctx] at b3; rw [Array.getElem?_eq_none h'] at b3; cases b3
    · rename_i cs
      simp only [run_ofO] at hr
      obtain ⟨g, q, vs, b1, b2, b3, b4⟩ := h.objs k _ hob
      exact key cs hr ⟨g, q, vs, b1, hF _ b2, b3, b4⟩
    · cases hr
  | _ => cases hr
theorem capCells_ok (h : Sim w0 F0 E τ ω a W ρ) : ∀ {ns : List Nat} {ps : List (Nat × Nat)} {xs : List Atom} {us : List Value}, (capCells ns ps).run τ ω = some xs → CapRs (ctx w0 F0 E ω ρ W) ps us → ∃ ds, vals E xs = some ds ∧ CapsR W (Lt W.heap.size) ns ds us
  | [], [], xs, [], hr, hc => by
    simp only [capCells, run_pure, Option.some.injEq] at hr
    subst hr
    exact ⟨[], rfl, rfl, rfl⟩
  | m :: ns, (k, off) :: ps, xs, u :: us, hr, hc => by
    simp only [capCells, run_bind, run_pure, Option.bind_eq_some_iff, Option.some.injEq] at hr
    obtain ⟨x1, h1, x2, h2, rfl⟩ := hr
    obtain ⟨d1, g1, g2, g3⟩ := ptrCells_ok h h1 (v := u) hc.1
    obtain ⟨d2, k1, k2⟩ := capCells_ok h h2 hc.2
    exact ⟨d1 ++ d2, vals_append g1 k1, d1, d2, u, us, rfl, rfl, g2, g3, k2⟩
theorem argPK_lend (h : Sim w0 F0 E τ ω a W ρ) {p : PK} {sv : SV} {xs : List Atom} {ws : List Wr} (hr : (argPK true p sv).run τ ω = some (xs, ws)) {v : Value} (hc : SVR (ctx w0 F0 E ω ρ W) sv v) : ws = [] ∧ ∃ ds, vals E xs = some ds ∧ PKR W (Lt W.heap.size) p ds v := by
  unfold argPK at hr
  split at hr
  · rename_i c
    obtain ⟨h1, ds, h3, h4⟩ := argCells_lend (us := [v]) h hr ⟨hc, trivial⟩
    refine ⟨h1, ds, h3, ?_⟩
    match ds, h4 with
    | [d], h4 => exact ⟨d, rfl, h4.1⟩
    | [], h4 => exact absurd h4 id
    | _ :: _ :: _, h4 => exact absurd h4.2 id
  · rename_i m cs
    simp only [run_ite] at hr
    split at hr
    · rename_i hl
      obtain ⟨us, hv, hcs⟩ := hc
      obtain ⟨h1, ds, h3, h4⟩ := argCells_lend h hr hcs
      exact ⟨h1, ds, h3, by rw [h4.len, ← hcs.len, hl], us, hv, h4⟩
    · cases hr
  · rename_i m c
    simp only [if_true, run_bind, run_pure, Option.bind_eq_some_iff, Option.some.injEq, Prod.mk.injEq] at hr
    obtain ⟨x1, h1, rfl, rfl⟩ := hr
    obtain ⟨ds, g1, g2, g3⟩ := ptrCells_ok h h1 hc
    exact ⟨rfl, ds, g1, g2, g3⟩
  · rename_i f ns g caps
    simp only [true_and, run_ite] at hr
    split at hr
    · rename_i hfg
      subst hfg
      simp only [run_bind, run_pure, Option.bind_eq_some_iff, Option.some.injEq, Prod.mk.injEq] at hr
      obtain ⟨x1, h1, rfl, rfl⟩ := hr
      obtain ⟨us, hv, hcs⟩ := hc
      obtain ⟨ds, g1, g2⟩ := capCells_ok h h1 hcs
      exact ⟨rfl, ds, g1, us, hv, g2⟩
    · cases hr
  · cases hr
theorem argAll_lend (h : Sim w0 F0 E τ ω a W ρ) : ∀ {ps : List PK} {svs : List SV} {xs : List Atom} {ws : List Wr} {us : List Value}, (argAll true ps svs).run τ ω = some (xs, ws) → us.length = svs.length → (∀ (j : Nat) (sv : SV) (u : Value), svs[j]? = some sv → us[j]? = some u → SVR (ctx w0 F0 E ω ρ W) sv u) →
    ws = [] ∧ ∃ ds, vals E xs = some ds ∧ PKRs W (Lt W.heap.size) ps ds us
  | [], [], xs, ws, us, hr, hl, hj => by
    simp only [argAll, run_pure, Option.some.injEq, Prod.mk.injEq] at hr
    obtain ⟨rfl, rfl⟩ := hr
    have : us = [] := List.eq_nil_of_length_eq_zero (by simpa using hl)
    subst this
    exact ⟨rfl, [], rfl, rfl, rfl⟩
  | p :: ps, sv :: svs, xs, ws, u :: us, hr, hl, hj => by
    simp only [argAll, run_bind, run_pure, Option.bind_eq_some_iff, Option.some.injEq, Prod.mk.injEq] at hr
    obtain ⟨⟨x1, w1⟩, h1, ⟨x2, w2⟩, h2, rfl, rfl⟩ := hr
    obtain ⟨rfl, d1, g3, g4⟩ := argPK_lend h h1 (hj 0 sv u rfl rfl)
    obtain ⟨rfl, d2, k3, k4⟩ := argAll_lend h h2 (by simpa using hl) fun j sv u h3 h4 => hj (j + 1) sv u (by simpa using h3) (by simpa using h4)
    exact ⟨rfl, d1 ++ d2, vals_append g3 k3, d1, d2, u, us, rfl, rfl, g4, k4⟩
  | [], _ :: _, xs, ws, us, hr, hl, hj => by cases hr
  | _ :: _, [], xs, ws, us, hr, hl, hj => by cases hr
  | p :: ps, sv :: svs, xs, ws, [], hr, hl, hj => by simp at hl
end
end Go.Proofs.YtnklncinjahckaaGreatDoor
namespace Go.Proofs.YtnklncinjahckaaGreatDoor
open Go.RowKit
set_option linter.unusedVariables false
set_option linter.unusedSimpArgs false
theorem findSig_ok {f : Nat} {vs : List SV} {l : List (Nat × Sig)} {i ci : Nat} {s : Sig} (h : findSig f vs l i = some (ci, s)) : i ≤ ci ∧ l[ci - i]? = some (f, s) := by
  induction l generalizing i with
  | nil => cases h
  | cons p l ih =>
    obtain ⟨g, s'⟩ := p
    unfold findSig at h
    split at h
    · rename_i hc
      simp only [Option.some.injEq, Prod.mk.injEq] at h
      obtain ⟨rfl, rfl⟩ := h
      rw [Nat.sub_self, ← hc.1]
      exact ⟨Nat.le_refl _, rfl⟩
    · obtain ⟨h1, h2⟩ := ih h
      refine ⟨by omega, ?_⟩
      rw [show ci - i = (ci - (i + 1)) + 1 by omega]
      exact h2
def KeyAt (d nt : Nat) (cfs : List CF) (k i : Nat) : Prop := ∃ e sz, cfs[i]? = some (.fresh e sz) ∧ k = d + nt * i
theorem KeyAt.inj {d nt : Nat} (hnt : nt ≠ 0) {cfs : List CF} {k i j : Nat} (h : KeyAt d nt cfs k i) (h' : KeyAt d nt cfs k j) : i = j := by
  obtain ⟨_, _, _, h1⟩ := h
  obtain ⟨_, _, _, h2⟩ := h'
  have : nt * i = nt * j := by omega
  exact Nat.eq_of_mul_eq_mul_left (Nat.pos_of_ne_zero hnt) this
theorem wr_resW {n d nt : Nat} (hnt : nt ≠ 0) : ∀ (fs : List CF) (j0 : Nat) (τ : List SV) (ω : List (Option Ob)), (wr τ ω (resW n d nt j0 fs)).1 = τ ∧ (wr τ ω (resW n d nt j0 fs)).2.length = ω.length ∧
    ∀ k, (∀ i e sz, fs[i]? = some (.fresh e sz) → k = d + nt * (j0 + i) → k < ω.length → (wr τ ω (resW n d nt j0 fs)).2[k]? = some (some (.row e sz (.v (n + (j0 + i)))))) ∧
      ((∀ i, ¬ (∃ e sz, fs[i]? = some (.fresh e sz) ∧ k = d + nt * (j0 + i))) → (wr τ ω (resW n d nt j0 fs)).2[k]? = ω[k]?)
  | [], j0, τ, ω => ⟨rfl, rfl, fun k => ⟨fun i e sz h => by simp at h, fun _ => rfl⟩⟩
  | f :: fs, j0, τ, ω => by
    have shift : ∀ (fs : List CF) (f : CF) (k : Nat), (∀ i, ¬ (∃ e sz, (f :: fs)[i]? = some (.fresh e sz) ∧ k = d + nt * (j0 + i))) → ∀ i, ¬ (∃ e sz, fs[i]? = some (.fresh e sz) ∧ k = d + nt * (j0 + 1 + i)) := by
      rintro fs f k h i ⟨e, sz, h1, h2⟩
      exact h (i + 1) ⟨e, sz, by simpa using h1, by rw [h2]; congr 2; omega⟩
    cases f with
    | fresh e sz =>
      rw [resW, wr]
      obtain ⟨h1, h2, h3⟩ := wr_resW hnt fs (j0 + 1) τ (ω.set (d + nt * j0) (some (.row e sz (.v (n + j0)))))
      refine ⟨h1, by rw [h2]; simp, fun k => ⟨fun i e' sz' hi hk hlt => ?_, fun hno => ?_⟩⟩
      · cases i with
        | zero =>
          simp only [List.getElem?_cons_zero, Option.some.injEq, CF.fresh.injEq] at hi
          obtain ⟨rfl, rfl⟩ := hi
          rw [(h3 k).2 (by
            rintro i ⟨e2, sz2, _, h5⟩
            have : nt * (j0 + 0) = nt * (j0 + 1 + i) := by omega
            have := Nat.eq_of_mul_eq_mul_left (Nat.pos_of_ne_zero hnt) this
            omega)]
          rw [hk, Nat.add_zero, List.getElem?_set_self (by rw [hk, Nat.add_zero] at hlt; exact hlt)]
        | succ i =>
          have := (h3 k).1 i e' sz' (by simpa using hi) (by rw [hk]; congr 2; omega) (by simpa using hlt)
          rw [this]; congr 4; omega
      · rw [(h3 k).2 (shift fs _ k hno)]
        refine List.getElem?_set_ne fun e1 => hno 0 ⟨e, sz, rfl, by rw [Nat.add_zero]; omega⟩
    | pure =>
      rw [resW]
      · obtain ⟨h1, h2, h3⟩ := wr_resW hnt fs (j0 + 1) τ ω
        refine ⟨h1, h2, fun k => ⟨fun i e' sz' hi hk hlt => ?_, fun hno => (h3 k).2 (shift fs _ k hno)⟩⟩
        cases i with
        | zero => simp at hi
        | succ i =>
          have := (h3 k).1 i e' sz' (by simpa using hi) (by rw [hk]; congr 2; omega) hlt
          rw [this]; congr 4; omega
      · intro _ _ h; cases h
    | scal =>
      rw [resW]
      · obtain ⟨h1, h2, h3⟩ := wr_resW hnt fs (j0 + 1) τ ω
        refine ⟨h1, h2, fun k => ⟨fun i e' sz' hi hk hlt => ?_, fun hno => (h3 k).2 (shift fs _ k hno)⟩⟩
        cases i with
        | zero => simp at hi
        | succ i =>
          have := (h3 k).1 i e' sz' (by simpa using hi) (by rw [hk]; congr 2; omega) hlt
          rw [this]; congr 4; omega
      · intro _ _ h; cases h
theorem resC_len {n d nt : Nat} : ∀ (fs : List CF) (j0 : Nat), (resC n d nt j0 fs).length = fs.length
  | [], _ => rfl
  | .fresh e sz :: fs, j0 => by simp [resC, resC_len fs]
  | .pure :: fs, j0 => by simp [resC, resC_len fs]
  | .scal :: fs, j0 => by simp [resC, resC_len fs]
theorem resC_get {n d nt : Nat} : ∀ (fs : List CF) (j0 i : Nat) (c : C1), (resC n d nt j0 fs)[i]? = some c → (∃ e sz, fs[i]? = some (.fresh e sz) ∧ c = .row (d + nt * (j0 + i))) ∨ ((fs[i]? = some .pure ∨ fs[i]? = some .scal) ∧ c = .at (.v (n + (j0 + i))))
  | [], _, _, _, h => by simp [resC] at h
  | f :: fs, j0, i, c, h => by
    cases i with
    | zero =>
      cases f <;> (simp only [resC, List.getElem?_cons_zero, Option.some.injEq] at h; subst h; simp)
    | succ i =>
      have h' : (resC n d nt (j0 + 1) fs)[i]? = some c := by cases f <;> simpa [resC] using h
      rw [show j0 + (i + 1) = j0 + 1 + i by omega]
      simpa using resC_get fs (j0 + 1) i c h'
theorem keysFree_ok {τ : List SV} {ω : List (Option Ob)} : ∀ {ws : List Wr} {u : Unit}, (keysFree ws).run τ ω = some u → ∀ k v, Wr.o k v ∈ ws → ω[k]? = some none
  | [], _, _, _, _, h => by cases h
  | .t i v :: ws, u, hr, k, v', h => by
    rcases List.mem_cons.1 h with h | h
    · cases h
    · exact keysFree_ok (ws := ws) (u := u) (by simpa [keysFree] using hr) k v' h
  | .o i v :: ws, u, hr, k, v', h => by
    simp only [keysFree, run_bind, run_rO, Option.bind_eq_some_iff] at hr
    obtain ⟨x, hx, hr⟩ := hr
    cases x with
    | none =>
      rcases List.mem_cons.1 h with h | h
      · injection h with h1 h2; subst h1; exact hx
      · exact keysFree_ok hr k v' h
    | some y => cases hr
theorem resW_mem {n d nt : Nat} : ∀ (fs : List CF) (j0 i e sz : Nat), fs[i]? = some (.fresh e sz) → Wr.o (d + nt * (j0 + i)) (some (.row e sz (.v (n + (j0 + i))))) ∈ resW n d nt j0 fs
  | [], _, _, _, _, h => by simp at h
  | f :: fs, j0, 0, e, sz, h => by
    simp only [List.getElem?_cons_zero, Option.some.injEq] at h
    subst h
    simp [resW]
  | f :: fs, j0, i + 1, e, sz, h => by
    have := resW_mem (n := n) (d := d) (nt := nt) fs (j0 + 1) i e sz (by simpa using h)
    rw [show j0 + (i + 1) = j0 + 1 + i by omega]
    cases f with
    | fresh e' sz' => rw [resW]; exact List.mem_cons_of_mem _ this
    | pure => rw [resW]; exact this; intro _ _ h; cases h
    | scal => rw [resW]; exact this; intro _ _ h; cases h
theorem part_PR {c : Ctx} {p : Bool × List CF} {v : Value} {us : List Value} {cs : List C1} (h : PartV p v us) (hc : C1Rs c cs us) : PR c (p.1, cs) v := by
  obtain ⟨g, fs⟩ := p
  cases g with
  | true =>
    simp only [PR, if_true]
    exact ⟨us, h.1, hc⟩
  | false =>
    simp only [PR, Bool.false_eq_true, if_false]
    obtain ⟨rfl, _⟩ := h
    match cs, hc with
    | [x], hc => exact ⟨x, rfl, hc.1⟩
    | [], hc => exact absurd hc id
    | _ :: _ :: _, hc => exact absurd hc.2 id
theorem PartV.len {p : Bool × List CF} {v : Value} {us : List Value} (h : PartV p v us) : us.length = p.2.length := by
  obtain ⟨g, fs⟩ := p
  cases g with
  | true => exact h.2
  | false => obtain ⟨rfl, h2⟩ := h; exact h2.symm
theorem C1Rs.split {c : Ctx} : ∀ {u1 u2 : List Value} {cs : List C1}, C1Rs c cs (u1 ++ u2) → C1Rs c (cs.take u1.length) u1 ∧ C1Rs c (cs.drop u1.length) u2
  | [], u2, cs, h => ⟨by simp [C1Rs], by simpa using h⟩
  | u :: u1, u2, x :: cs, h => by
    obtain ⟨h1, h2⟩ := C1Rs.split h.2
    exact ⟨⟨h.1, by simpa using h1⟩, by simpa using h2⟩
  | u :: u1, u2, [], h => absurd h id
theorem splitP_ok {c : Ctx} : ∀ {ps : List (Bool × List CF)} {vs us : List Value} {cs : List C1}, PartsV ps vs us → C1Rs c cs us → PRs c (splitP ps cs) vs
  | [], vs, us, cs, h, hc => by obtain ⟨rfl, rfl⟩ := h; exact trivial
  | p :: ps, vs, us, cs, h, hc => by
    obtain ⟨v, vs', u1, u2, rfl, rfl, h1, h2⟩ := h
    obtain ⟨k1, k2⟩ := C1Rs.split hc
    rw [h1.len] at k1 k2
    exact ⟨part_PR h1 k1, splitP_ok h2 k2⟩
theorem resSV_ok {τ : List SV} {ω : List (Option Ob)} {c : Ctx} {ps : List (Bool × List CF)} {cs : List C1} {sv : SV} (hr : (resSV ps cs).run τ ω = some sv) {v : Value} {us : List Value} (hv : ResV ps v us) (hc : C1Rs c cs us) : SVR c sv v := by
  unfold resSV at hr
  match ps, hv with
  | [p], hv =>
    have hl := PartV.len hv
    have e : splitP [p] cs = [(p.1, cs.take p.2.length)] := rfl
    rw [e] at hr
    simp only at hr
    refine asSV_ok hr (part_PR hv ?_)
    rw [List.take_of_length_le (by rw [hc.len, hl]; exact Nat.le_refl _)]
    exact hc
  | [], hv =>
    obtain ⟨vs, rfl, h2⟩ := hv
    simp only [splitP, run_pure, Option.some.injEq] at hr
    subst hr
    exact ⟨vs, rfl, splitP_ok h2 hc⟩
  | p :: q :: ps, hv =>
    obtain ⟨vs, rfl, h2⟩ := hv
    have := splitP_ok h2 hc
    simp only [splitP, run_pure, Option.some.injEq] at hr
    subst hr
    exact ⟨vs, rfl, this⟩
theorem wp_does {P : Program} {W : World} {a : Act} {o : Oper} {c : Call} {f : Nat} {us caps : List Value} {fx : Operand} (ho : o.op = .call c) (hc : c.callee = .value fx) (hf : a.eval fx = .func (.func f) #[] caps.toArray) (hus : (c.args.map a.eval).toList = us)
    {R : Value → World → Prop} (hd : Does P f (us ++ caps).toArray W R) {K : Act → World → Prop} {Q : Exit → Act → World → Prop} (hk : ∀ v W', R v W' → K (a.put o.dst v) W') : o.wp P a W K Q := by
  have e1 : c.args.map a.eval = us.toArray := by rw [← hus, Array.toArray_toList]
  have hrun : (execOp a.eval o).run P W = (callFunc f (us ++ caps).toArray).run P W := by
    unfold execOp
    simp only [ho, resolve, hc, hf, Deferred.ofValue, invoke, Sem.run_bind, Sem.run_pure, Result.andThen_ok, e1]
    congr 2
    simp
  unfold Oper.wp
  rw [hrun]
  rcases hd with ⟨h1, h2⟩ | ⟨v, W', h1, h2⟩
  · rw [h1, Oper.upon_enter]
    exact h2.mono fun e w' ⟨v, he, hR⟩ => by subst he; exact hk v w' hR
  · rw [h1]; exact hk v W' h2
section
variable {P : Program} {w0 W : World} {F0 : Bk} {E : Env} {τ : List SV} {ω ω1 : List (Option Ob)} {a : Act} {ρ : Nat → Value} {cx : Cx} {o : Oper} {e : Eff} {sp : Nat → Spec} {n nt kb : Nat} {kn : List (Nat × Bool)} {Q : Exit → Act → World → Prop}
open Classical in
theorem Sim.called (h : Sim w0 F0 E τ ω a W ρ) {W' : World} (hb : Below W.heap.size W W') {s : Sig} {rs : List Dt} {v : Value} {us : List Value} {F' : Nat → Prop} (hres : ResR W (Frr w0 F0 ω ρ W) W' s rs v us F') {d : Nat} (hnt : nt ≠ 0)
    (hfree : ∀ (i e sz : Nat), (cfsOf s)[i]? = some (.fresh e sz) → ω[d + nt * i]? = some none) (hE : ∀ (i : Nat) (x : Dt), rs[i]? = some x → E[n + i]? = some x) :
    ∃ ρ', Sim w0 F0 E τ (wr τ ω (resW n d nt 0 (cfsOf s))).2 a W' ρ' ∧ C1Rs (ctx w0 F0 E (wr τ ω (resW n d nt 0 (cfsOf s))).2 ρ' W') (resC n d nt 0 (cfsOf s)) us := by
  obtain ⟨g1, g2, g3⟩ := wr_resW (n := n) (d := d) hnt (cfsOf s) 0 τ ω
  generalize hω3 : (wr τ ω (resW n d nt 0 (cfsOf s))).2 = ω3 at *
  have gkey : ∀ i e sz, (cfsOf s)[i]? = some (.fresh e sz) → ω3[d + nt * i]? = some (some (.row e sz (.v (n + i)))) := by
    intro i e sz hi
    have := (g3 (d + nt * i)).1 i e sz hi (by rw [Nat.zero_add]) (List.getElem?_eq_some_iff.1 (hfree i e sz hi)).1
    rw [Nat.zero_add] at this; exact this
  have gno : ∀ k, (∀ i, ¬ KeyAt d nt (cfsOf s) k i) → ω3[k]? = ω[k]? := fun k hk => (g3 k).2 fun i ⟨e, sz, h1, h2⟩ => hk i ⟨e, sz, h1, by rw [Nat.zero_add] at h2; exact h2⟩
  let ρ' : Nat → Value := fun k => if hk : ∃ i, KeyAt d nt (cfsOf s) k i then us.getD (Classical.choose hk) undef else ρ k
  have hρk : ∀ k i, KeyAt d nt (cfsOf s) k i → ρ' k = us.getD i undef := by
    intro k i hk
    have hex : ∃ i, KeyAt d nt (cfsOf s) k i := ⟨i, hk⟩
    simp only [ρ', dif_pos hex]
    rw [KeyAt.inj hnt (Classical.choose_spec hex) hk]
  have hρn : ∀ k, (¬ ∃ i, KeyAt d nt (cfsOf s) k i) → ρ' k = ρ k := fun k hk => by simp only [ρ', dif_neg hk]
  have hus : ∀ i e sz, (cfsOf s)[i]? = some (.fresh e sz) → ∃ u x, us[i]? = some u ∧ rs[i]? = some x ∧ us.getD i undef = u ∧ CFR W' F' W.heap.size (.fresh e sz) x u := by
    intro i e sz hi
    have hlt := (List.getElem?_eq_some_iff.1 hi).1
    have h1 : i < us.length := by rw [hres.lus]; exact hlt
    have h2 : i < rs.length := by rw [hres.lrs]; exact hlt
    exact ⟨us[i], rs[i], List.getElem?_eq_getElem h1, List.getElem?_eq_getElem h2, by simp [List.getD_eq_getElem?_getD, h1], hres.cells i _ _ _ hi (List.getElem?_eq_getElem h2) (List.getElem?_eq_getElem h1)⟩
  have hkeyω : ∀ k i, KeyAt d nt (cfsOf s) k i → ω[k]? = some none ∧ ∃ e sz, (cfsOf s)[i]? = some (.fresh e sz) ∧ ω3[k]? = some (some (.row e sz (.v (n + i)))) := by
    rintro k i ⟨e, sz, h1, rfl⟩
    exact ⟨hfree i e sz h1, e, sz, h1, gkey i e sz h1⟩
  have hlive : ∀ k, live ω k → live ω3 k ∧ ρ' k = ρ k := by
    intro k hk
    have hno : ¬ ∃ i, KeyAt d nt (cfsOf s) k i := fun ⟨i, hi⟩ => by
      obtain ⟨q, hq⟩ := hk
      rw [(hkeyω k i hi).1] at hq; cases hq
    refine ⟨?_, hρn k hno⟩
    obtain ⟨q, hq⟩ := hk
    exact ⟨q, by rw [gno k fun i hi => hno ⟨i, hi⟩]; exact hq⟩
  have hF : (∀ b, Frr w0 F0 ω ρ W b → Frr w0 F0 ω3 ρ' W' b) → ∀ b, F' b → Frr w0 F0 ω3 ρ' W' b := by
    intro hle b hb'
    rcases hres.own b hb' with h1 | h1
    · exact hle b h1
    · refine ⟨.inr ⟨by have := h.bsz; omega, h1.2⟩, ?_⟩
      rintro ⟨k, q, h2, h3⟩
      by_cases hk : ∃ i, KeyAt d nt (cfsOf s) k i
      · obtain ⟨i, hi⟩ := hk
        obtain ⟨_, e, sz, h4, h5⟩ := hkeyω k i hi
        rw [h5] at h2
        simp only [Option.some.injEq] at h2
        subst h2
        rw [hρk k i hi] at h3
        simp only [own] at h3
        obtain ⟨u, x, h6, _, h7, _⟩ := hus i e sz h4
        rw [h7] at h3
        exact hres.apart i e sz u b h4 h6 h3 hb'
      · rw [gno k fun i hi => hk ⟨i, hi⟩] at h2
        rw [hρn k hk] at h3
        have := ((h.objs k q h2).lt h3).2
        simp only [ctx] at this
        omega
  have key : ∀ k i q, KeyAt d nt (cfsOf s) k i → ω3[k]? = some (some q) → ∃ e sz u x xs vs, (cfsOf s)[i]? = some (.fresh e sz) ∧ q = .row e sz (.v (n + i)) ∧ us[i]? = some u ∧ ρ' k = u ∧ rs[i]? = some x ∧ x = .l sz xs ∧ (∀ y ∈ xs, y.length = sz) ∧ W'.ownsRow W.heap.size e sz u xs.length vs ∧ Reps W' F' xs.flatten vs := by
    intro k i q hi hq
    obtain ⟨_, e, sz, h4, h5⟩ := hkeyω k i hi
    rw [h5] at hq
    simp only [Option.some.injEq] at hq
    obtain ⟨u, x, h6, h6', h7, h8⟩ := hus i e sz h4
    obtain ⟨xs, vs, h9, h10, h11, h12⟩ := h8
    exact ⟨e, sz, u, x, xs, vs, h4, hq.symm, h6, by rw [hρk k i hi, h7], h6', h9, h10, h11, h12⟩
  have hks : ∀ k, k ∈ (List.range ω.length).filter (fun k => decide (∃ i, KeyAt d nt (cfsOf s) k i)) ↔ ∃ i, KeyAt d nt (cfsOf s) k i := by
    intro k
    simp only [List.mem_filter, List.mem_range, decide_eq_true_eq]
    exact ⟨fun h => h.2, fun ⟨i, hi⟩ => ⟨(List.getElem?_eq_some_iff.1 (hkeyω k i hi).1).1, i, hi⟩⟩
  have hsim : Sim w0 F0 E τ ω3 a W' ρ' := by
    refine h.gen ((List.range ω.length).filter (fun k => decide (∃ i, KeyAt d nt (cfsOf s) k i))) (hb.mono h.bsz) h.defers h.size (fun k hk => ?_) hlive (fun b hlt _ => hb.block b hlt) (fun k hk q hq b hb' => ?_) (fun k hk k' hk' q q' g h1 h2 h3 h4 => ?_) (fun hle _ k hk q hq => ?_) (fun _ _ t sv ht => .inl ⟨ht, rfl⟩)
    · rw [hks] at hk
      exact gno k fun i hi => hk ⟨i, hi⟩
    · obtain ⟨i, hi⟩ := (hks k).1 hk
      obtain ⟨e, sz, u, x, xs, vs, h1, rfl, h3, h4, h5, h6, h7, h8, h9⟩ := key k i q hi hq
      rw [h4] at hb'
      exact .inr (ownsRow_lt h8 hb').1
    · obtain ⟨i, hi⟩ := (hks k).1 hk
      obtain ⟨i', hi'⟩ := (hks k').1 hk'
      obtain ⟨e, sz, u, x, xs, vs, a1, rfl, a3, a4, _⟩ := key k i q hi h1
      obtain ⟨e', sz', u', x', xs', vs', b1, rfl, b3, b4, _⟩ := key k' i' q' hi' h2
      rw [a4] at h3
      rw [b4] at h4
      have := hres.dj i i' e sz e' sz' u u' g a1 a3 b1 b3 h3 h4
      subst this
      obtain ⟨_, _, _, e1⟩ := hi
      obtain ⟨_, _, _, e2⟩ := hi'
      rw [e1, e2]
    · obtain ⟨i, hi⟩ := (hks k).1 hk
      obtain ⟨e, sz, u, x, xs, vs, h1, rfl, h3, h4, h5, rfl, h7, h8, h9⟩ := key k i q hi hq
      refine ⟨xs, vs, hE i _ h5, h7, ?_, h9.mono (fun _ _ => rfl) (hF hle.more)⟩
      rw [show (ctx w0 F0 E ω3 ρ' W').ρ k = u from h4]
      refine ⟨h8.1, h8.2.imp id fun ⟨g, cap, cur, k1, k2, k3⟩ => ⟨g, cap, cur, k1, Nat.le_trans h.bsz k2, k3⟩⟩
  refine ⟨ρ', hsim, C1Rs.of (by rw [resC_len, hres.lus]) fun j c u hc hu => ?_⟩
  have hlt : j < us.length := (List.getElem?_eq_some_iff.1 hu).1
  have hrl : j < rs.length := by rw [hres.lrs, ← hres.lus]; exact hlt
  have hx := List.getElem?_eq_getElem hrl
  have hmore : ∀ b, Frr w0 F0 ω ρ W b → Frr w0 F0 ω3 ρ' W' b := by
    intro b hb'
    have hlt := h.frLt hb'
    refine ⟨hb'.1.imp id fun x => ⟨x.1, Nat.lt_of_lt_of_le x.2 hb.size⟩, ?_⟩
    rintro ⟨k, q, h2, h3⟩
    by_cases hk : ∃ i, KeyAt d nt (cfsOf s) k i
    · obtain ⟨i, hi⟩ := hk
      obtain ⟨e, sz, u, x, xs, vs, h1, rfl, h3', h4, h5, h6, h7, h8, h9⟩ := key k i q hi h2
      rw [h4] at h3
      have := (ownsRow_lt h8 h3).1
      omega
    · rw [gno k fun i hi => hk ⟨i, hi⟩] at h2
      rw [hρn k hk] at h3
      exact hb'.2 ⟨k, q, h2, h3⟩
  rcases resC_get _ _ _ _ hc with ⟨e, sz, h1, rfl⟩ | ⟨h1, rfl⟩
  · rw [Nat.zero_add]
    have hk : KeyAt d nt (cfsOf s) (d + nt * j) j := ⟨e, sz, h1, rfl⟩
    obtain ⟨e, sz, u', x, xs, vs, k1, k2, k3, k4, k5, k6, k7, k8, k9⟩ := key _ j _ hk (gkey j e sz h1)
    rw [hu] at k3
    injection k3 with k3
    subst k3
    exact ⟨⟨_, gkey j _ _ h1⟩, k4.symm, ownsRow_one k8⟩
  · rw [Nat.zero_add]
    refine ⟨rs[j], hE j _ hx, ?_⟩
    rcases h1 with h1 | h1
    · exact (hres.cells j _ _ _ h1 hx hu).mono (fun _ _ => rfl) (hF hmore)
    · exact (hres.cells j _ _ _ h1 hx hu).2.mono (fun _ _ => rfl) (hF hmore)
theorem wr_o_keep : ∀ (ws : List Wr) (τ : List SV) (ω : List (Option Ob)) (k : Nat), ws.any (fun w => decide (w.loc = .o k)) = false → (wr τ ω ws).2[k]? = ω[k]?
  | [], τ, ω, k, _ => rfl
  | .t i v :: ws, τ, ω, k, h => by
    rw [List.any_cons, Bool.or_eq_false_iff] at h
    exact wr_o_keep ws _ _ k h.2
  | .o i v :: ws, τ, ω, k, h => by
    rw [List.any_cons, Bool.or_eq_false_iff] at h
    have h1 : i ≠ k := fun e => by subst e; simp [Wr.loc] at h
    have := wr_o_keep ws τ (ω.set i v) k h.2
    rw [List.getElem?_set_ne h1] at this
    exact this
theorem Sim.reRow (h : Sim w0 F0 E τ ω a W ρ) {k0 e sz : Nat} {xa xb : Atom} (hob : ω[k0]? = some (some (.row e sz xa))) {W' : World} {xs' : List (List Dt)} {vs' : List Value} (hn : xb.val E = some (.l sz xs')) (hsz : ∀ x ∈ xs', x.length = sz)
    (g3 : W'.ownsRow w0.heap.size e sz (ρ k0) xs'.length vs') (g4 : W.grownBy W' (ρ k0).ownBlock) (hr : Reps W' (Frr w0 F0 ω ρ W) xs'.flatten vs') : Sim w0 F0 E τ (ω.set k0 (some (.row e sz xb))) a W' ρ := by
  obtain ⟨xs, vs, b1, b2, b3, b4⟩ := h.objs k0 _ hob
  have hlt0 := (List.getElem?_eq_some_iff.1 hob).1
  have hb3 : ∀ g, (ρ k0).ownBlock = some g → w0.heap.size ≤ g ∧ g < W.heap.size := fun g hg => ownsRow_lt b3 hg
  have hgk : ∀ o', (ω.set k0 (some (.row e sz xb)))[k0]? = some (some o') → o' = .row e sz xb := by
    intro o' h1
    rw [List.getElem?_set_self hlt0] at h1
    simp only [Option.some.injEq] at h1
    exact h1.symm
  refine h.gen [k0] (grown_below g4 (fun g hg => (hb3 g hg).1) h.bsz) h.defers h.size (fun j hj => ?_) (fun j hj => ⟨live_set hlt0 hj, rfl⟩) (fun b hb hno => ?_) (fun j hj o' ho' b hb => ?_) (fun j hj j' hj' o1 o2 g h1 h2 h3 h4 => ?_) (fun hle _ j hj o' ho' => ?_) (fun _ _ t sv ht => .inl ⟨ht, rfl⟩)
  · simp only [List.mem_singleton] at hj
    rw [List.getElem?_set_ne (Ne.symm hj)]
  · refine g4.block b hb fun e => hno k0 (by simp) _ hob ?_
    simp only [own]; exact e.symm
  · simp only [List.mem_singleton] at hj
    subst hj
    rw [hgk o' ho'] at hb
    simp only [own] at hb
    exact .inl ⟨j, by simp, _, hob, by simp only [own]; exact hb⟩
  · simp only [List.mem_singleton] at hj hj'
    rw [hj, hj']
  · simp only [List.mem_singleton] at hj
    subst hj
    rw [hgk o' ho']
    exact ⟨xs', vs', hn, hsz, g3, hr.mono (fun _ _ => rfl) hle.more⟩
theorem Sim.newRow (h : Sim w0 F0 E τ ω a W ρ) {k0 k e sz : Nat} {xa xb : Atom} (hob : ω[k0]? = some (some (.row e sz xa))) (hk : ω[k]? = some none) {W' : World} {v' : Value} {xs' : List (List Dt)} {vs' : List Value} (hn : xb.val E = some (.l sz xs')) (hsz : ∀ x ∈ xs', x.length = sz)
    (g3 : W'.ownsRow w0.heap.size e sz v' xs'.length vs') (g4 : W.grownBy W' (ρ k0).ownBlock) (hr : Reps W' (Frr w0 F0 ω ρ W) xs'.flatten vs') (g5 : ∀ b, v'.ownBlock = some b → (ρ k0).ownBlock = some b ∨ W.heap.size ≤ b) :
    Sim w0 F0 E τ ((ω.set k0 (some .dead)).set k (some (.row e sz xb))) a W' (upd ρ k v') := by
  obtain ⟨xs, vs, b1, b2, b3, b4⟩ := h.objs k0 _ hob
  have hlt := (List.getElem?_eq_some_iff.1 hk).1
  have hkk : k ≠ k0 := fun e => by rw [e] at hk; rw [hk] at hob; cases hob
  have hlt0 := (List.getElem?_eq_some_iff.1 hob).1
  have hb3 : ∀ g, (ρ k0).ownBlock = some g → w0.heap.size ≤ g ∧ g < W.heap.size := fun g hg => ownsRow_lt b3 hg
  have hgk : ∀ o', ((ω.set k0 (some .dead)).set k (some (.row e sz xb)))[k0]? = some (some o') → o' = .dead := by
    intro o' h1
    rw [List.getElem?_set_ne hkk, List.getElem?_set_self hlt0] at h1
    simp only [Option.some.injEq] at h1
    exact h1.symm
  have hgd : ∀ o', ((ω.set k0 (some .dead)).set k (some (.row e sz xb)))[k]? = some (some o') → o' = .row e sz xb := by
    intro o' h1
    rw [List.getElem?_set_self (by simpa using hlt)] at h1
    simp only [Option.some.injEq] at h1
    exact h1.symm
  refine h.gen [k0, k] (grown_below g4 (fun g hg => (hb3 g hg).1) h.bsz) h.defers h.size (fun j hj => ?_) (fun j hj => ?_) (fun b hb hno => ?_) (fun j hj o' ho' b hb => ?_) (fun j hj j' hj' o1 o2 g h1 h2 h3 h4 => ?_) (fun hle _ j hj o' ho' => ?_) (fun _ _ t sv ht => .inl ⟨ht, rfl⟩)
  · simp only [List.mem_cons, List.not_mem_nil, or_false, not_or] at hj
    rw [List.getElem?_set_ne (Ne.symm hj.2), List.getElem?_set_ne (Ne.symm hj.1)]
  · refine ⟨live_set (by simpa using hlt) (live_set hlt0 hj), upd_ne _ _ fun e => ?_⟩
    obtain ⟨q, hq⟩ := hj
    rw [e, hk] at hq; cases hq
  · refine g4.block b hb fun e => hno k0 (by simp) _ hob ?_
    simp only [own]; exact e.symm
  · simp only [List.mem_cons, List.not_mem_nil, or_false] at hj
    rcases hj with rfl | rfl
    · rw [hgk o' ho'] at hb; simp only [own] at hb; cases hb
    · rw [hgd o' ho', upd_self] at hb
      simp only [own] at hb
      rcases g5 b hb with g5 | g5
      · exact .inl ⟨k0, by simp, _, hob, by simp only [own]; exact g5⟩
      · exact .inr g5
  · simp only [List.mem_cons, List.not_mem_nil, or_false] at hj hj'
    rcases hj with rfl | rfl
    · rw [hgk o1 h1] at h3; simp only [own] at h3; cases h3
    · rcases hj' with rfl | rfl
      · rw [hgk o2 h2] at h4; simp only [own] at h4; cases h4
      · rfl
  · simp only [List.mem_cons, List.not_mem_nil, or_false] at hj
    rcases hj with rfl | rfl
    · rw [hgk o' ho']; trivial
    · rw [hgd o' ho']
      refine ⟨xs', vs', hn, hsz, ?_, hr.mono (fun _ _ => rfl) hle.more⟩
      rw [show (ctx w0 F0 E ((ω.set k0 (some .dead)).set j (some (.row e sz xb))) (upd ρ j v') W').ρ j = v' from upd_self _ _ _]
      exact g3
theorem op_mut {c : Call} {fx : Operand} {f ci : Nat} {s : Sig} {vs : List SV} {us0 cus us : List Value} (h : Sim w0 F0 E τ ω a W ρ) (ho : o.op = .call c) (hcl : c.callee = .value fx) (hcv : a.eval fx = .func (.func f) #[] cus.toArray) (hus0 : (c.args.map a.eval).toList = us0)
    (hus : us0 ++ cus = us) (hul : us.length = vs.length) (huj : ∀ (j : Nat) (sv : SV) (u : Value), vs[j]? = some sv → us[j]? = some u → SVR (ctx w0 F0 E ω ρ W) sv u) (hM : Meets P (sp ci) f s) (hr : (stMut kb n o ci s vs).run τ ω = some e) (hf : Facts sp E n e) :
    o.wp P a W (Goes w0 F0 E τ ω e.ws) Q := by
  unfold stMut at hr
  split at hr
  · rename_i e0 sz ps k0 vs hsa
    match us, hul, huj with
    | u :: us', hul, huj =>
    have hrow := huj 0 _ u rfl rfl
    simp only [run_bind, Option.bind_eq_some_iff] at hr
    obtain ⟨⟨as0, ws⟩, hargs, hr⟩ := hr
    simp only [run_ite] at hr
    split at hr
    · cases hr
    rename_i hws
    simp only [Bool.not_eq_true] at hws
    simp only [run_bind, run_rO, Option.bind_eq_some_iff] at hr
    obtain ⟨ob, hob, hr⟩ := hr
    obtain ⟨g1, g2, ds, g3, g4⟩ := argAll_give (us := us') (FrzRel.refl ω) h hargs (by simpa using hul) (fun j sv u' h1 h2 => huj (j + 1) sv u' (by simpa using h1) (by simpa using h2))
    have hob' : (wr τ ω ws).2[k0]? = some ob := by rw [wr_o_keep ws τ ω k0 hws]; exact hob
    split at hr
    · rename_i e' z xa
      simp only [run_ite] at hr
      split at hr
      · cases hr
      rename_i hez
      simp only [not_or, ne_eq, Decidable.not_not] at hez
      obtain ⟨rfl, rfl⟩ := hez
      obtain ⟨xs, vs0, b1, b2, b3, b4⟩ := g2.sim.objs k0 _ hob'
      simp only [ctx] at b1 b3 b4
      obtain ⟨_, hu, _⟩ := hrow
      simp only [ctx] at hu
      have hblk : ∀ b, u.ownBlock = some b → ¬ Frr w0 F0 (wr τ ω ws).2 ρ W b := by
        intro b hb hfr
        exact hfr.2 ⟨k0, _, hob', by simp only [own]; rw [← hu]; exact hb⟩
      have hcall : ∀ d, denX sp E (.call ci (xa :: as0) 0) = some d → ∃ xs', d = .l z xs' ∧ (∀ x ∈ xs', x.length = z) ∧ Does P f (us0 ++ cus).toArray W fun r W' => ∃ v' vs', ((s.res = [] → v' = u) ∧ (s.res ≠ [] → r = v')) ∧ W.grownBy W' u.ownBlock ∧
          W'.ownsRow w0.heap.size e' z v' xs'.length vs' ∧ Reps W' (Frr w0 F0 (wr τ ω ws).2 ρ W) xs'.flatten vs' ∧ (∀ b, v'.ownBlock = some b → u.ownBlock = some b ∨ W.heap.size ≤ b) := by
        intro d hd
        have hv : vals E (xa :: as0) = some (.l z xs :: ds) := by simp only [vals, b1, g3, Option.bind_eq_bind, Option.bind_some, Option.pure_def]
        simp only [denX, hv, Option.bind_eq_bind, Option.bind_some, Option.bind_eq_some_iff] at hd
        obtain ⟨rs, h1, h2⟩ := hd
        obtain ⟨xs', rfl, h3, h4⟩ := hM.2 _ _ _ hsa W _ w0.heap.size u xs vs0 ds us' rs g2.sim.lows g2.sim.bsz hblk b2 (by rw [hu]; exact b3) b4 g4 h1
        simp only [List.getElem?_cons_zero, Option.some.injEq] at h2
        rw [hus]
        exact ⟨xs', h2.symm, h3, h4⟩
      split at hr
      · rename_i hres
        simp only [run_pure, Option.some.injEq] at hr
        subst hr
        obtain ⟨d, hd, hn⟩ := hf.one
        obtain ⟨xs', rfl, h3, hdo⟩ := hcall d hd
        refine wp_does ho hcl hcv hus0 hdo ?_
        rintro r W' ⟨v', vs', ⟨q1, _⟩, q2, q3, q4, q5⟩
        obtain rfl := q1 hres
        rw [hu] at q2 q3
        have hs := g2.sim.reRow hob' (xb := .v n) hn h3 q3 q2 q4
        refine ⟨ρ, ?_⟩
        simp only [wr_append, g1]
        exact hs.dst o (sv := .one .top) trivial
      · rename_i e2 z2 hres
        simp only [run_ite] at hr
        split at hr
        · cases hr
        simp only [run_bind, run_pure, Option.bind_eq_some_iff, Option.some.injEq] at hr
        obtain ⟨d0, hk, rfl⟩ := hr
        obtain ⟨_, hk⟩ := newKey_ok hk
        obtain ⟨d, hd, hn⟩ := hf.one
        obtain ⟨xs', rfl, h3, hdo⟩ := hcall d hd
        refine wp_does ho hcl hcv hus0 hdo ?_
        rintro r W' ⟨v', vs', ⟨_, q1⟩, q2, q3, q4, q5⟩
        obtain rfl := q1 (by rw [hres]; simp)
        rw [hu] at q2 q5
        have hkf := frz_none g2.rel hk
        have hs := g2.sim.newRow hob' hkf (xb := .v n) hn h3 q3 q2 q4 q5
        refine ⟨upd ρ d0 r, ?_⟩
        simp only [wr_append, g1]
        have hlt := (List.getElem?_eq_some_iff.1 hkf).1
        exact hs.dst o (sv := .one (.row d0)) ⟨⟨_, List.getElem?_set_self (by simpa using hlt)⟩, (upd_self _ _ _).symm, ownsRow_one q3⟩
      · cases hr
    · cases hr
  · cases hr
theorem op_call {c : Call} {fx : Operand} (h : Sim w0 F0 E τ ω a W ρ) (ho : o.op = .call c) (hcl : c.callee = .value fx) (hr : (stepOp cx kb n nt kn o).run τ ω = some e) (hf : Facts sp E n e) (hsig : ∀ ci f s, cx.sigs[ci]? = some (f, s) → Meets P (sp ci) f s) : o.wp P a W (Goes w0 F0 E τ ω e.ws) Q := by
  unfold stepOp at hr
  rw [ho] at hr
  simp only [stCall, hcl] at hr
  simp only [run_bind, Option.bind_eq_some_iff] at hr
  obtain ⟨cf, hcf, hr⟩ := hr
  have hfn := evC_ok h hcf
  cases cf with
  | fn f caps =>
    simp only [run_bind, run_ofO, Option.bind_eq_some_iff] at hr
    obtain ⟨vs0, hvs, ⟨ci, s⟩, hfs, hr⟩ := hr
    obtain ⟨hvl, hvj⟩ := evArgs_ok h hvs
    obtain ⟨hci, hget⟩ := findSig_ok hfs
    have hM0 := hsig ci f s (by simpa using hget)
    obtain ⟨cus, hcv, hcaps⟩ := hfn
    have hcl' : caps.length = cus.length := by
      clear hfs hcv hcf hr
      induction caps generalizing cus with
      | nil => cases cus with
        | nil => rfl
        | cons _ _ => exact absurd hcaps id
      | cons p ps ih => cases cus with
        | nil => exact absurd hcaps id
        | cons v vs => simp [ih vs hcaps.2]
    have hcj : ∀ (j : Nat) (p : Nat × Nat) (u : Value), caps[j]? = some p → cus[j]? = some u → CapR (ctx w0 F0 E ω ρ W) p u := by
      clear hfs hcv hcl' hcf hr
      induction caps generalizing cus with
      | nil => intro j p u hp; simp at hp
      | cons q qs ih => cases cus with
        | nil => exact absurd hcaps id
        | cons v vs =>
          intro j p u hp hu
          cases j with
          | zero => simp only [List.getElem?_cons_zero, Option.some.injEq] at hp hu; subst hp; subst hu; exact hcaps.1
          | succ j => exact ih vs hcaps.2 j p u (by simpa using hp) (by simpa using hu)
    let us0 := (c.args.map a.eval).toList
    have hus0 : us0 = c.args.toList.map a.eval := by simp [us0]
    have hul : (us0 ++ cus).length = (vs0 ++ caps.map fun p => SV.one (.bp p.1 p.2)).length := by
      simp [hus0, hvl, hcl']
    have huj : ∀ (j : Nat) (sv : SV) (u : Value), (vs0 ++ caps.map fun p => SV.one (.bp p.1 p.2))[j]? = some sv → (us0 ++ cus)[j]? = some u → SVR (ctx w0 F0 E ω ρ W) sv u := by
      intro j sv u h1 h2
      have hll : us0.length = vs0.length := by simp [hus0, hvl]
      by_cases hj : j < vs0.length
      · rw [List.getElem?_append_left hj] at h1
        rw [List.getElem?_append_left (by omega), hus0, List.getElem?_map, Option.map_eq_some_iff] at h2
        obtain ⟨x, hx, rfl⟩ := h2
        exact hvj j sv x h1 hx
      · rw [List.getElem?_append_right (by omega), List.getElem?_map, Option.map_eq_some_iff] at h1
        obtain ⟨p, hp, rfl⟩ := h1
        rw [List.getElem?_append_right (by omega), hll] at h2
        exact hcj _ p u hp h2
    simp only [run_ite] at hr
    split at hr
    · exact op_mut h ho hcl hcv rfl rfl hul huj hM0 hr hf
    rename_i hmine
    simp only [Bool.not_eq_true] at hmine
    have hM := hM0.1 hmine
    split at hr
    · cases hr
    rename_i hnot
    simp only [not_or, not_and, Bool.not_eq_false, Bool.not_eq_true] at hnot
    obtain ⟨hne, hnt, hlend, hdst⟩ := hnot
    simp only [run_bind, run_pure, Option.bind_eq_some_iff, Option.some.injEq] at hr
    obtain ⟨⟨as0, ws⟩, hargs, u0, hfree, sv, hsv, rfl⟩ := hr
    have hrs : ∀ ds, vals E as0 = some ds → ∃ rs, sp ci ds = some rs ∧ ∀ (i : Nat), i < (cfsOf s).length → ∃ x, rs[i]? = some x ∧ E[n + i]? = some x := by
      intro ds hds
      have hp : ∀ i, i < (cfsOf s).length → ∃ rs, sp ci ds = some rs ∧ ∃ x, rs[i]? = some x ∧ E[n + i]? = some x := by
        intro i hi
        obtain ⟨x, hx, hE⟩ := hf.1 i (.call ci as0 i) (by simp [hi])
        simp only [denX, hds, Option.bind_eq_bind, Option.bind_some, Option.bind_eq_some_iff] at hx
        obtain ⟨rs, h1, h2⟩ := hx
        exact ⟨rs, h1, x, h2, hE⟩
      obtain ⟨rs, h1, _⟩ := hp 0 (by omega)
      refine ⟨rs, h1, fun i hi => ?_⟩
      obtain ⟨rs', h2, h3⟩ := hp i hi
      rw [h1] at h2; injection h2 with h2; subst h2
      exact h3
    cases hld : s.lend with
    | false =>
      rw [hld] at hargs
      obtain ⟨g1, g2, ds, g3, g4⟩ := argAll_give (FrzRel.refl ω) h hargs hul huj
      obtain ⟨rs, hrs1, hrs2⟩ := hrs ds g3
      have hdo := hM W _ ds _ rs g2.sim.lows g4 hrs1
      refine wp_does ho hcl hcv rfl hdo fun v W' ⟨hb, us, F', hres⟩ => ?_
      have hcalled := g2.sim.called (nt := nt) (n := n) hb hres (d := kb + o.dst.getD 0) hnt (fun i e sz hi => ?_) (fun i x hx => ?_)
      · obtain ⟨ρ', hs, hcs⟩ := hcalled
        refine ⟨ρ', ?_⟩
        obtain ⟨k1, _, _⟩ := wr_resW (n := n) (d := kb + o.dst.getD 0) hnt (cfsOf s) 0 τ (wr τ ω ws).2
        simp only [wr_append, g1, k1]
        exact hs.dst o (resSV_ok hsv hres.val hcs)
      · exact frz_none g2.rel (by
          have := keysFree_ok hfree _ _ (resW_mem (n := n) (d := kb + o.dst.getD 0) (nt := nt) (cfsOf s) 0 i e sz hi)
          rw [Nat.zero_add] at this; exact this)
      · have hi : i < (cfsOf s).length := by rw [← hres.lrs]; exact (List.getElem?_eq_some_iff.1 hx).1
        obtain ⟨y, h1, h2⟩ := hrs2 i hi
        rw [hx] at h1; injection h1 with h1; subst h1
        exact h2
    | true =>
      rw [hld] at hargs
      obtain ⟨rfl, ds, g3, g4⟩ := argAll_lend h hargs hul huj
      obtain ⟨rs, hrs1, hrs2⟩ := hrs ds g3
      have hdo := hM W _ ds _ rs ⟨fun b hb => hb, h.low.2.on h.below⟩ g4 hrs1
      refine wp_does ho hcl hcv rfl hdo fun v W' ⟨hb, us, F', hres⟩ => ?_
      have hall := hlend hld
      have hsc : ∀ (i : Nat) (f : CF), (cfsOf s)[i]? = some f → f = .scal := by
        intro i f hi
        have := List.all_eq_true.1 hall f (List.mem_of_getElem? hi)
        cases f <;> first | rfl | cases this
      have hs := h.belows hb
      obtain ⟨k1, _, k3⟩ := wr_resW (n := n) (d := kb + o.dst.getD 0) hnt (cfsOf s) 0 τ ω
      have hω : (wr τ ω (resW n ((kb + o.dst.getD 0)) nt 0 (cfsOf s))).2 = ω := by
        apply List.ext_getElem?
        intro k
        exact (k3 k).2 fun i ⟨e, sz, h1, _⟩ => by have := hsc i _ h1; cases this
      refine ⟨ρ, ?_⟩
      simp only [List.nil_append, wr_append, k1, hω]
      refine hs.dst o (resSV_ok hsv hres.val (C1Rs.of (by rw [resC_len, hres.lus]) fun j cc u hc hu => ?_))
      have hlt : j < us.length := (List.getElem?_eq_some_iff.1 hu).1
      have hrl : j < rs.length := by rw [hres.lrs, ← hres.lus]; exact hlt
      have hx := List.getElem?_eq_getElem hrl
      rcases resC_get _ _ _ _ hc with ⟨e, sz, h1, rfl⟩ | ⟨h1, rfl⟩
      · have := hsc j _ h1; cases this
      · rw [Nat.zero_add]
        obtain ⟨y, h2, h3⟩ := hrs2 j (by rw [← hres.lrs]; exact hrl)
        rw [hx] at h2; injection h2 with h2; subst h2
        refine ⟨rs[j], h3, ?_⟩
        have hj : (cfsOf s)[j]? = some .scal := by
          rcases h1 with h1 | h1
          · have := hsc j _ h1; cases this
          · exact h1
        obtain ⟨c1, c2⟩ := hres.cells j _ _ _ hj hx hu
        exact c2.scal c1
  | _ => cases hr
end
end Go.Proofs.YtnklncinjahckaaGreatDoor
namespace Go.Proofs.YtnklncinjahckaaGreatDoor
open Go.RowKit
set_option linter.unusedVariables false
set_option linter.unusedSimpArgs false
section
variable {P : Program} {w0 W : World} {F0 : Bk} {E : Env} {τ : List SV} {ω : List (Option Ob)} {a : Act} {ρ : Nat → Value} {cx : Cx} {o : Oper} {e : Eff} {sp : Nat → Spec} {n nt kb : Nat} {kn : List (Nat × Bool)} {Q : Exit → Act → World → Prop}
theorem part_run {et : Nat} {d : TypeDesc} (hu : P.underlying et = some d) (hd : d.isRow = false) {xs : Array Value} {off : Nat} {v : Value} (hx : xs[off]? = some v) : (part et xs off).run P W = .ok v W := by
  have h1 : (isAgg et).run P W = .ok false W := by
    unfold isAgg
    simp only [Sem.run_bind, run_underlying hu, Result.andThen_ok]
    cases d <;> first | rfl | cases hd
  simp [part, h1, hx]
theorem index_run {t len et : Nat} {ti : TyI} (ht : TyOk P t ti) (ha : ti.arr = some (len, et)) {us : List Value} (hl : us.length = len) {m : Int} (h0 : 0 ≤ m) {u : Value} (hx : us[m.toNat]? = some u) (k : IntKind) :
    (Instr.index t (.agg us.toArray) (.int k m)).run P W = .ok u W := by
  obtain ⟨hu, ie, d, hie, hsz, hud, hd⟩ := ht.arr _ _ ha
  have hm := (List.getElem?_eq_some_iff.1 hx).1
  have hcond : 0 ≤ m ∧ m < (len : Int) := ⟨h0, by omega⟩
  have hp := part_run (P := P) (W := W) (et := et) (xs := us.toArray) (off := m.toNat * 1) (v := u) hud hd (by simpa using hx)
  simp [Instr.index, asIntOf, run_underlying hu, hcond, sizeOf, typeInfo, hie, hsz] at hp ⊢
  exact hp
theorem op_index {t : Nat} {x y : Operand} (h : Sim w0 F0 E τ ω a W ρ) (ho : o.op = .index t x y) (hr : (stepOp cx kb n nt kn o).run τ ω = some e) (hf : Facts sp E n e) (hty : ∀ t i, cx.ti t = some i → TyOk P t i) : o.wp P a W (Goes w0 F0 E τ ω e.ws) Q := by
  unfold stepOp at hr
  rw [ho] at hr
  simp only [stIndex, run_bind, run_ofO, Option.bind_eq_some_iff] at hr
  obtain ⟨ti, hti, ⟨len, et⟩, harr, sv, hsv, hr⟩ := hr
  have ht := hty t ti hti
  have hsvr := evR_ok h hsv
  have hexec : ∀ u k m us, a.eval x = .agg us → a.eval y = .int k m → (Instr.index t (.agg us) (.int k m)).run P W = .ok u W → (execOp a.eval o).run P W = .ok (.value u) W := by
    intro u k m us h1 h2 h3
    unfold execOp
    simp only [ho, h1, h2, Sem.run_bind, h3, Result.andThen_ok, Sem.run_pure]
  match sv, hsvr, hr with
  | .agg cs, ⟨us, hus, hcs⟩, hr =>
    simp only [run_ite] at hr
    split at hr
    · cases hr
    rename_i hlen
    simp only [ne_eq, Decidable.not_not] at hlen
    have hul : us.length = len := by rw [← hcs.len]; exact hlen
    simp only [run_bind, Option.bind_eq_some_iff] at hr
    obtain ⟨ia, hia, hr⟩ := hr
    obtain ⟨di, hdi, hri⟩ := evA_ok h hia
    split at hr
    · rename_i k
      simp only [run_ite] at hr
      split at hr
      · cases hr
      rename_i hk0
      simp only [run_bind, run_ofO, put1, run_pure, Option.bind_eq_some_iff, Option.some.injEq] at hr
      obtain ⟨c, hc, rfl⟩ := hr
      obtain ⟨u, hu, hcr⟩ := hcs.get hc
      injection hdi with hdi
      subst hdi
      have hey := (rep_i hri).1
      exact wp_value (hexec u _ _ _ hus hey (index_run ht harr hul (by omega) hu _)) (h.goes o hcr)
    · simp only [run_bind, run_ofO, run_pure, Option.bind_eq_some_iff, Option.some.injEq] at hr
      obtain ⟨as0, has, rfl⟩ := hr
      obtain ⟨d, hd, hn⟩ := hf.one
      obtain ⟨ds, hds, hreps⟩ := atomsOf_ok has hcs
      have hds' : vals E as0 = some ds := hds
      simp only [denX] at hd
      split at hd
      · rename_i m ds' hm hds2
        rw [hds'] at hds2
        injection hds2 with hds2
        subst hds2
        split at hd
        · rename_i hm0
          rw [asI_some hm] at hdi
          injection hdi with hdi
          subst hdi
          have hey := (rep_i hri).1
          obtain ⟨u, hu, hru⟩ := hreps.get hd
          exact wp_value (hexec u _ _ _ hus hey (index_run ht harr hul hm0 hu _)) (h.goes o ⟨d, hn, hru⟩)
        · cases hd
      · cases hd
  | .one _, _, hr => cases hr
  | .tup _, _, hr => cases hr
theorem op_min {c : Call} (h : Sim w0 F0 E τ ω a W ρ) (ho : o.op = .call c) (hcl : c.callee = .builtin .min) (hr : (stepOp cx kb n nt kn o).run τ ω = some e) (hf : Facts sp E n e) : o.wp P a W (Goes w0 F0 E τ ω e.ws) Q := by
  unfold stepOp at hr
  rw [ho] at hr
  simp only [stCall, hcl] at hr
  split at hr
  · rename_i x y t t' hx htt
    simp only [run_bind, run_pure, Option.bind_eq_some_iff, Option.some.injEq] at hr
    obtain ⟨xa, h1, ya, h2, rfl⟩ := hr
    obtain ⟨dx, hdx, hrx⟩ := evA_ok h h1
    obtain ⟨dy, hdy, hry⟩ := evA_ok h h2
    obtain ⟨d, hd, hn⟩ := hf.one
    simp only [denX, hdx, hdy] at hd
    split at hd
    · rename_i k i k' j e1 e2
      injection e1 with e1; subst e1
      injection e2 with e2; subst e2
      split at hd
      · rename_i hk
        subst hk
        injection hd with hd
        subst hd
        obtain ⟨g1, w1⟩ := rep_i hrx
        obtain ⟨g2, w2⟩ := rep_i hry
        have e1 : c.args = #[x, y] := by rw [← Array.toArray_toList (xs := c.args), hx]
        have e2 : c.argTypes = #[t, t'] := by rw [← Array.toArray_toList (xs := c.argTypes), htt]
        refine wp_value (v := .int k (if j < i then j else i)) (W' := W) ?_ (h.goes o ⟨_, hn, .i _ _ (by split <;> assumption)⟩)
        unfold execOp
        simp only [ho, resolve, hcl, e1, e2, invoke, builtin, Sem.run_bind, Sem.run_pure, Result.andThen_ok, List.map_toArray, List.map_cons, List.map_nil, g1, g2, run_min_int2]
      · cases hd
    · cases hd
  · cases hr
theorem slice3_run {t et : Nat} (hu : P.underlying t = some (.slice et)) {ie : TypeInfo} (hie : P.info? et = some ie) {A : Option Addr} {m c : Nat} (hmc : m ≤ c) {lo : Option Value} {l hh mx : Int} {k1 k2 : IntKind} (hlo : (lo = none ∧ l = 0) ∨ ∃ k, lo = some (.int k l)) (h0 : 0 ≤ l) (h1 : l ≤ hh) (h2 : hh ≤ mx) (h3 : mx ≤ m) :
    (Instr.sliceAt t (.slice A m c) lo (some (.int k1 hh)) (some (.int k2 mx))).run P W = .ok (.slice (if mx.toNat = l.toNat then A else A.map (·.add (l.toNat * ie.size))) (hh.toNat - l.toNat) (mx.toNat - l.toNat)) W := by
  have e1 : (Instr.sliceBounds true m c lo (some (.int k1 hh)) (some (.int k2 mx))).run P W = .ok (l.toNat, hh.toNat, mx.toNat) W := by
    unfold Instr.sliceBounds
    rcases hlo with ⟨rfl, rfl⟩ | ⟨k, rfl⟩
    · simp [bound_run (P := P) (W := W) (i := mx) (y := c) (by omega) (by omega), bound_run (P := P) (W := W) (i := hh) (y := mx.toNat) (by omega) (by omega)]
    · simp [bound_run (P := P) (W := W) (i := mx) (y := c) (by omega) (by omega), bound_run (P := P) (W := W) (i := hh) (y := mx.toNat) (by omega) (by omega), bound_run (P := P) (W := W) (i := l) (y := hh.toNat) (by omega) (by omega)]
  simp [Instr.sliceAt, Instr.slice, run_underlying hu, e1, sizeOf, typeInfo, hie]
theorem rep_sub3 {W : World} {F : Nat → Prop} {sz : Nat} {xs : List (List Dt)} {A : Option Addr} {m c : Nat} (h : Rep W F (.l sz xs) (.slice A m c)) {l hh mx : Nat} (h1 : l ≤ hh) (h2 : hh ≤ mx) (h3 : mx ≤ xs.length) :
    Rep W F (.l sz ((xs.take hh).drop l)) (.slice (if mx = l then A else A.map (·.add (l * sz))) (hh - l) (mx - l)) := by
  by_cases hml : mx = l
  · have he : (xs.take hh).drop l = [] := List.eq_nil_of_length_eq_zero (by rw [List.length_drop, List.length_take]; omega)
    rw [he, if_pos hml, show hh - l = 0 by omega, show mx - l = 0 by omega]
    exact .l sz [] _ 0 0 0 0 (fun _ _ => undef) rfl (by simp) (by omega) (by simp) (by simp) (by simp) (by simp)
  · have hk := rep_sub h (l := l) (hh := hh) h1 (by omega)
    rw [if_neg hml]
    cases h with
    | l _ _ _ _ _ b q vs g0 g1 g2 g3 g4 g5 g6 =>
      rw [if_neg (show ¬ c = l by omega)] at hk
      generalize hA : A.map (·.add (l * sz)) = B at hk ⊢
      generalize hX : (xs.take hh).drop l = X at hk ⊢
      have hXl : X.length ≤ mx - l := by rw [← hX, List.length_drop, List.length_take]; omega
      cases hk with
      | l _ _ _ _ _ b' q' vs' f0 f1 f2 f3 f4 f5 f6 => exact .l sz X B _ _ b' q' vs' f0 hXl (by omega) f3 f4 f5 f6
theorem op_slice3 {t : Nat} {x m : Operand} {lo hi : Option Operand} (h : Sim w0 F0 E τ ω a W ρ) (ho : o.op = .slice t x lo hi (some m)) (hr : (stepOp cx kb n nt kn o).run τ ω = some e) (hf : Facts sp E n e) (hty : ∀ t i, cx.ti t = some i → TyOk P t i) : o.wp P a W (Goes w0 F0 E τ ω e.ws) Q := by
  unfold stepOp at hr
  rw [ho] at hr
  simp only [stSlice3, run_bind, run_ofO, run_ite, Option.bind_eq_some_iff] at hr
  obtain ⟨ti, hti, ⟨et, sz, by_⟩, hel, l, hl, hh, hhh, hr⟩ := hr
  have ht := hty t ti hti
  obtain ⟨hu, ie, z, hie, _, hsz, _⟩ := ht.el _ _ _ hel
  split at hr
  · cases hr
  rename_i hsome
  simp only [run_bind, run_pure, Option.bind_eq_some_iff, Option.some.injEq] at hr
  obtain ⟨ma, hma, c, hc, ⟨xa, ws⟩, hfr, rfl⟩ := hr
  obtain ⟨g1, g2, d0, g3, g4⟩ := frA_ok (FrzRel.refl ω) h hfr (evC_ok h hc)
  obtain ⟨d, hd, hn⟩ := hf.1 0 _ rfl
  obtain ⟨d', hd', _⟩ := hf.1 1 _ rfl
  rcases evO_ok h hhh with ⟨_, rfl⟩ | ⟨y', r', rfl, rfl, hq⟩
  · simp at hsome
  simp only [denX, g3] at hd hd'
  match d0, g4 with
  | .l z0 xs, g4 =>
    simp only [Option.bind_eq_bind, Option.bind_eq_some_iff] at hd hd'
    obtain ⟨lv, hlv, hv, hhv, hd⟩ := hd
    obtain ⟨lv', hlv', mv, hmv, hd'⟩ := hd'
    split at hd
    · rename_i hcond
      obtain ⟨rfl, c0, c1, c2⟩ := hcond
      split at hd'
      · rename_i hcond'
        obtain ⟨_, _, c3, c4⟩ := hcond'
        injection hd with hd
        subst hd
        have hhl : hv = lv' := by
          have h1 : bndI E (xs.length : Int) (some r') = some hv := hhv
          have h2 : bndI E 0 (some r') = some lv' := hlv'
          simp only [bndI] at h1 h2
          rw [h1] at h2
          injection h2
        subst hhl
        obtain ⟨dm, hdm, hrm⟩ := evA_ok h hma
        have hme : a.eval m = .int .i64 mv := by
          have h1 : asI (ma.val E) = some mv := hmv
          rw [asI_some h1] at hdm
          injection hdm with hdm
          subst hdm
          exact (rep_i hrm).1
        have hye : a.eval y' = .int .i64 hv := hq _ hhv
        generalize hgx : a.eval x = vx at g4
        have g4' := g4
        cases g4' with
        | l _ _ A len cp b q vs k0 k1 k2 k3 k4 k5 k6 =>
          have hrun := slice3_run (P := P) (W := W) hu hie (A := A) (m := len) (c := cp) (k1 := .i64) (k2 := .i64) (by omega) (bnd_lo h hl hlv) c0 c1 c3 (by omega)
          have hrep := rep_sub3 g4 (l := lv.toNat) (hh := hv.toNat) (mx := mv.toNat) (by omega) (by omega) (by omega)
          rw [hsz] at hrun
          refine wp_value (v := .slice (if mv.toNat = lv.toNat then A else A.map (·.add (lv.toNat * z0))) (hv.toNat - lv.toNat) (mv.toNat - lv.toNat)) (W' := W) ?_ ⟨ρ, ?_⟩
          · unfold execOp
            simp only [ho, Option.map_some, hye, hme, hgx, Sem.run_bind, hrun, Result.andThen_ok, Sem.run_pure]
          · simp only [wr_append, g1]
            exact g2.sim.dst o (sv := .one (.at (.v n))) ⟨_, hn, hrep⟩
      · cases hd'
    · cases hd
  | .s xs, g4 => cases hd
  | .i k m, g4 => cases hd
  | .b z, g4 => cases hd
  | .e z, g4 => cases hd
theorem op_make {t : Nat} {x y : Operand} (h : Sim w0 F0 E τ ω a W ρ) (ho : o.op = .makeSlice t x y) (hr : (stepOp cx kb n nt kn o).run τ ω = some e) (hf : Facts sp E n e) (hty : ∀ t i, cx.ti t = some i → TyOk P t i) : o.wp P a W (Goes w0 F0 E τ ω e.ws) Q := by
  unfold stepOp at hr
  rw [ho] at hr
  simp only [stMake, run_bind, run_ofO, run_ite, Option.bind_eq_some_iff] at hr
  obtain ⟨ti, hti, ⟨et, sz, by_⟩, hel, te, hte, xa, hxa, ya, hya, hr⟩ := hr
  simp only at hr
  split at hr
  · cases hr
  rename_i hnot
  simp only [not_or, ne_eq, Decidable.not_not] at hnot
  obtain ⟨rfl, hzn⟩ := hnot
  simp only [run_bind, run_pure, Option.bind_eq_some_iff, Option.some.injEq] at hr
  obtain ⟨k, hk, rfl⟩ := hr
  have ht := hty t ti hti
  have hte' := hty et te hte
  obtain ⟨hu, ie, z, hie, hz, hsz, hby, hzs, hpos, hsz2, hby2⟩ := ht.el _ _ _ hel
  obtain ⟨it2, z2, hi2, hz2, hzl⟩ := hte'.zero hzn
  rw [hie] at hi2
  injection hi2 with hi2
  subst hi2
  rw [hz] at hz2
  injection hz2 with hz2
  subst hz2
  obtain ⟨hd, hk⟩ := newKey_ok hk
  obtain ⟨d, hd0, hn⟩ := hf.one
  simp only [denX] at hd0
  split at hd0
  · rename_i m hm
    split at hd0
    · rename_i hcond
      obtain ⟨m0, m1, hzsz⟩ := hcond
      injection hd0 with hd0
      subst hd0
      have hev : ∀ y : Operand, (evA cx 3 y).run τ ω = some xa → a.eval y = .int .i64 m := by
        intro y hy
        obtain ⟨dd, hdd, hrr⟩ := evA_ok h hy
        rw [asI_some hm] at hdd
        injection hdd with hdd
        subst hdd
        exact (rep_i hrr).1
      have hb1 : ie.bytes * m.toNat ≤ 281474976710656 := by
        have := Nat.mul_le_mul (show ie.bytes ≤ 10000 by omega) (show m.toNat ≤ 100000 by omega)
        omega
      have hb2 : m.toNat ≤ maxLen := by unfold maxLen; omega
      obtain ⟨W', hrun, hown, hgr⟩ := run_make_full (P := P) W w0.heap.size t et ie z sz hu hie hz hsz .i64 .i64 m.toNat hb1 hb2 h.bsz
      have hm' : ((m.toNat : Nat) : Int) = m := Int.toNat_of_nonneg m0
      rw [hm'] at hrun
      have hexec : (execOp a.eval o).run P W = .ok (.value (.slice (some ⟨W.heap.size, 0, none⟩) m.toNat m.toNat)) W' := by
        unfold execOp
        simp only [ho, hev _ hxa, hev _ hya, Sem.run_bind, hrun, Result.andThen_ok, Sem.run_pure]
      have hlt := (List.getElem?_eq_some_iff.1 hk).1
      have hbel : Below W.heap.size W W' := ⟨hgr.os, hgr.tape, hgr.output, hgr.size, fun b hb => hgr.block b hb (by simp)⟩
      have hnew := h.new (W' := W') hk hbel (.row et sz (.v n)) (.slice (some ⟨W.heap.size, 0, none⟩) m.toNat m.toNat) (fun b hb => by
        simp only [own, Value.ownBlock, Option.some.injEq] at hb; omega) (fun hle => ?_)
      · refine wp_value hexec ⟨upd ρ k (.slice (some ⟨W.heap.size, 0, none⟩) m.toNat m.toNat), ?_⟩
        exact hnew.dst o (sv := .one (.row k)) ⟨⟨_, List.getElem?_set_self hlt⟩, (upd_self _ _ _).symm, rfl⟩
      · have hzlen : z.cells.size = sz := hzs
        have hlits := litsB_rep hzl (ctx w0 F0 E ω ρ W)
        refine ⟨List.replicate m.toNat (te.z.map Lit.dt), (madeCells z.cells (m.toNat * sz)).toList, hn, fun x hx => ?_, ?_, ?_⟩
        · obtain ⟨_, rfl⟩ := List.mem_replicate.1 hx
          rw [List.length_map, hzsz]
        · rw [show (ctx w0 F0 E (ω.set k (some (.row et sz (.v n)))) (upd ρ k (.slice (some ⟨W.heap.size, 0, none⟩) m.toNat m.toNat)) W').ρ k = .slice (some ⟨W.heap.size, 0, none⟩) m.toNat m.toNat from upd_self _ _ _, List.length_replicate]
          exact hown
        · have hrl : ∀ x ∈ List.replicate m.toNat (te.z.map Lit.dt), x.length = sz := fun x hx => by
            obtain ⟨_, rfl⟩ := List.mem_replicate.1 hx
            rw [List.length_map, hzsz]
          have hfl : (List.replicate m.toNat (te.z.map Lit.dt)).flatten.length = m.toNat * sz := by
            have key : ∀ (n : Nat) (l : List Dt), (List.replicate n l).flatten.length = n * l.length := by
              intro n l
              induction n with
              | zero => simp
              | succ n ih => rw [List.replicate_succ, List.flatten_cons, List.length_append, ih, Nat.succ_mul]; omega
            rw [key, List.length_map, hzsz]
          refine Reps.of (by rw [hfl, Array.length_toList, size_madeCells]) fun j dd v hdd hv => ?_
          have hj : j < m.toNat * sz := by rw [← hfl]; exact (List.getElem?_eq_some_iff.1 hdd).1
          have hmod : j % sz < sz := Nat.mod_lt _ hpos
          have hdiv : j / sz < m.toNat := (Nat.div_lt_iff_lt_mul hpos).2 hj
          have hc : (te.z.map fun l => (C1.at (.c l)))[j % sz]? = some (.at (.c (te.z[j % sz]'(by omega)))) := by
            rw [List.getElem?_map, List.getElem?_eq_getElem (by omega)]; rfl
          obtain ⟨u, hu1, hu2⟩ := hlits.get hc
          obtain ⟨d2, hd2, hr2⟩ := C1R.at_ hu2
          injection hd2 with hd2
          subst hd2
          have hx1 : (List.replicate m.toNat (te.z.map Lit.dt))[j / sz]? = some (te.z.map Lit.dt) := by
            rw [List.getElem?_replicate, if_pos hdiv]
          have hx2 : (te.z.map Lit.dt)[j % sz]? = some (te.z[j % sz]'(by omega)).dt := by
            rw [List.getElem?_map, List.getElem?_eq_getElem (by omega)]; rfl
          have hx3 := flat_at' hrl hx1 hx2
          rw [Nat.mul_comm, Nat.div_add_mod] at hx3
          rw [hx3] at hdd
          injection hdd with hdd
          subst hdd
          have hv' : v = u := by
            have hg : (madeCells z.cells (m.toNat * sz)).toList[j]? = some (z.cells[j % z.cells.size]!) := by
              unfold madeCells
              simp [hj]
            rw [hg] at hv
            injection hv with hv
            rw [← hv, hzlen]
            have : z.cells[j % sz]? = some u := by rw [← Array.getElem?_toList]; exact hu1
            simp [getElem!_def, this]
          rw [hv']
          exact hr2.mono hle.agree hle.more
    · cases hd0
  · cases hd0
theorem mapR_find {W : World} {F : Nat → Prop} {vs : Nat} {g : Bool} (n : Int) : ∀ {rows : List (List Dt)} {es : List MapEntry} (i : Nat), MapR W F vs g rows es →
    (mfind n rows = none ∧ Instr.findNow (.int .i64) (.int .i64 n) es i = some none ∧ ∀ v, mputL n v rows = rows ++ [.i .i64 n :: v]) ∨
    ∃ (j : Nat) (ds : List Dt) (us : List Value) (e : MapEntry), mfind n rows = some ds ∧ Instr.findNow (.int .i64) (.int .i64 n) es i = some (some (i + j, e.val)) ∧ es[j]? = some e ∧ e.key = .int .i64 n ∧ ds.length = vs ∧ (if g then e.val = .agg us.toArray else us = [e.val]) ∧ Reps W F ds us ∧ ∀ v, mputL n v rows = rows.set j (.i .i64 n :: v)
  | [], [], i, _ => .inl ⟨rfl, rfl, fun v => rfl⟩
  | r :: rows, e :: es, i, ⟨⟨m, ds, us, h1, h2, h3, h4, h5, h6⟩, h⟩ => by
    subst h1
    have hs : Instr.sameNow (.int .i64) (.int .i64 n) e.key = some (n == m) := by rw [h4]; simp [Instr.sameNow]
    by_cases hnm : n = m
    · subst hnm
      refine .inr ⟨0, ds, us, e, by simp [mfind], ?_, rfl, h4, h3, h5, h6, fun v => by simp [mputL]⟩
      rw [Instr.findNow, hs]
      simp
    · have hb : (n == m) = false := by simpa using hnm
      rcases mapR_find n (i + 1) h with ⟨k1, k2, k3⟩ | ⟨j, ds', us', e', k1, k2, k3, k4, k5, k6, k7, k8⟩
      · refine .inl ⟨by simp [mfind, hnm, k1], ?_, fun v => by simp [mputL, hnm, k3]⟩
        rw [Instr.findNow, hs, hb]
        exact k2
      · refine .inr ⟨j + 1, ds', us', e', by simp [mfind, hnm, k1], ?_, by simpa using k3, k4, k5, k6, k7, fun v => by simp [mputL, hnm, k8]⟩
        rw [Instr.findNow, hs, hb, show i + (j + 1) = i + 1 + j by omega]
        exact k2
theorem MapR.push {W : World} {F : Nat → Prop} {vs : Nat} {g : Bool} {r : List Dt} {e : MapEntry} : ∀ {rows : List (List Dt)} {es : List MapEntry}, MapR W F vs g rows es → MapR W F vs g [r] [e] → MapR W F vs g (rows ++ [r]) (es ++ [e])
  | [], [], _, h => h
  | _ :: _, _ :: _, ⟨h1, h2⟩, h => ⟨h1, MapR.push h2 h⟩
theorem MapR.put {W : World} {F : Nat → Prop} {vs : Nat} {g : Bool} {r : List Dt} {e : MapEntry} : ∀ {rows : List (List Dt)} {es : List MapEntry} (j : Nat), MapR W F vs g rows es → MapR W F vs g [r] [e] → MapR W F vs g (rows.set j r) (es.set j e)
  | [], [], _, _, _ => trivial
  | _ :: _, _ :: _, 0, ⟨_, h2⟩, h => ⟨h.1, h2⟩
  | _ :: _, _ :: _, j + 1, ⟨h1, h2⟩, h => ⟨h1, MapR.put j h2 h⟩
theorem op_makeMap {t : Nat} {r : Option Operand} (h : Sim w0 F0 E τ ω a W ρ) (ho : o.op = .makeMap t r) (hr : (stepOp cx kb n nt kn o).run τ ω = some e) (hty : ∀ t i, cx.ti t = some i → TyOk P t i) : o.wp P a W (Goes w0 F0 E τ ω e.ws) Q := by
  unfold stepOp at hr
  rw [ho] at hr
  simp only [stMakeMap, run_bind, run_ofO, Option.bind_eq_some_iff] at hr
  obtain ⟨ti, hti, ⟨kt, et⟩, hmp, te, hte, k, hk, hr⟩ := hr
  simp only [run_ite] at hr
  split at hr
  · cases hr
  rename_i hres
  simp only [run_pure, Option.some.injEq] at hr
  subst hr
  obtain ⟨hu, _⟩ := (hty t ti hti).mp _ _ hmp
  obtain ⟨hd, hk⟩ := newKey_ok hk
  have hlt := (List.getElem?_eq_some_iff.1 hk).1
  have hexec : (execOp a.eval o).run P W = .ok (.value (.map (some W.heap.size))) (W.alloc (.map #[] 0)) := by
    have hm : (Instr.makeMap t (r.map a.eval)).run P W = .ok (.map (some W.heap.size)) (W.alloc (.map #[] 0)) := by
      unfold noRes at hres
      split at hres
      · simp [Instr.makeMap, newObj]
        rfl
      · simp [Instr.makeMap, Act.eval, run_underlying hu, asInt, asIntOf, newObj]
        rfl
      · exact absurd rfl hres
    unfold execOp
    simp only [ho, Sem.run_bind, hm, Result.andThen_ok, Sem.run_pure]
  have hnew := h.new (W' := W.alloc (.map #[] 0)) hk ((Below.refl _ _).alloc (Nat.le_refl _) _) (.map t te.n te.agg (.c (.nil (1 + te.n)))) (.map (some W.heap.size)) (fun b hb => by
    simp only [own, Option.some.injEq] at hb; omega) (fun hle => ⟨W.heap.size, [], [], 0, upd_self _ _ _, h.bsz, heap_alloc_new W _, rfl, trivial⟩)
  refine wp_value hexec ⟨upd ρ k (.map (some W.heap.size)), ?_⟩
  exact hnew.dst o (sv := .one (.row k)) ⟨⟨_, List.getElem?_set_self hlt⟩, (upd_self _ _ _).symm, rfl⟩
theorem op_lookup {t : Nat} {x y : Operand} {ok : Bool} (h : Sim w0 F0 E τ ω a W ρ) (ho : o.op = .lookup t x y ok) (hr : (stepOp cx kb n nt kn o).run τ ω = some e) (hf : Facts sp E n e) (hty : ∀ t i, cx.ti t = some i → TyOk P t i) : o.wp P a W (Goes w0 F0 E τ ω e.ws) Q := by
  unfold stepOp at hr
  rw [ho] at hr
  simp only [stLook, run_bind, run_ofO, Option.bind_eq_some_iff] at hr
  obtain ⟨ti, hti, ⟨kt, et⟩, hmp, te, hte, c, hc, hr⟩ := hr
  obtain ⟨hu, hku⟩ := (hty t ti hti).mp _ _ hmp
  have hte' := hty et te hte
  have hcr := evC_ok h hc
  split at hr
  · rename_i q
    simp only [run_bind, run_rO, Option.bind_eq_some_iff] at hr
    obtain ⟨ob, hob, hr⟩ := hr
    split at hr
    · rename_i t' vs g ma
      simp only [run_ite] at hr
      split at hr
      · cases hr
      rename_i hnot
      simp only [not_or, ne_eq, Decidable.not_not] at hnot
      obtain ⟨rfl, rfl, rfl, hzn, hpos0⟩ := hnot
      simp only [run_bind, Option.bind_eq_some_iff] at hr
      obtain ⟨ka, hka, hr⟩ := hr
      obtain ⟨_, hv, _⟩ := hcr
      simp only [ctx] at hv
      obtain ⟨b, rows, es, clock, o1, o2, o3, o4, o5⟩ := h.objs q _ hob
      simp only [ctx] at o1 o3 o4 o5
      obtain ⟨dk, hdk, hrk⟩ := evA_ok h hka
      obtain ⟨it, z, hi, hz, hzl⟩ := hte'.zero hzn
      have hzv := hte'.zv it z hi hz hzn
      have key : ∀ m, asI (ka.val E) = some m → ∃ (us : List Value) (ds : List Dt) (val : Value) (found : Bool), mfind m rows = (if found then some ds else none) ∧ (found = false → ds = te.z.map Lit.dt) ∧ us.length = te.n ∧ (if te.agg then val = .agg us.toArray else us = [val]) ∧ Reps W (Frr w0 F0 ω ρ W) ds us ∧ (Instr.lookup t' (a.eval x) (a.eval y) ok).run P W = .ok (if ok then .tuple #[val, .bool found] else val) W := by
        intro m hm
        rw [asI_some hm] at hdk
        injection hdk with hdk
        subst hdk
        obtain ⟨hey, _⟩ := rep_i hrk
        have hck : ∀ em, (Instr.checkKey em 10000 kt (.int .i64 m)).run P W = .ok () W := fun em => Go.MapKept.run_checkKey (d := .int .i64) (k := .int .i64 m) hku (by simp [Go.MapKept.IsKey]) em 9999
        rcases mapR_find m 0 o5 with ⟨k1, k2, _⟩ | ⟨j, ds, us, e0, k1, k2, k3, k4, k5, k6, k7, _⟩
        · refine ⟨z.cells.toList, te.z.map Lit.dt, z, false, by simp [k1], fun _ => rfl, ?_, ?_, ?_, ?_⟩
          · have := (litsB_rep hzl (ctx w0 F0 E ω ρ W)).len
            simp only [List.length_map] at this
            omega
          · split at hzv
            · rename_i hag
              obtain ⟨cs, rfl⟩ := hzv
              simp [hag, Value.cells]
            · rename_i hag
              rw [cells_of_one hzv]
              simp [hag]
          · refine Reps.of (by have := (litsB_rep hzl (ctx w0 F0 E ω ρ W)).len; simp only [List.length_map] at this ⊢; omega) fun i d v hd hv => ?_
            rw [List.getElem?_map, Option.map_eq_some_iff] at hd
            obtain ⟨l0, hl0, rfl⟩ := hd
            obtain ⟨u, hu1, hu2⟩ := (litsB_rep hzl (ctx w0 F0 E ω ρ W)).get (j := i) (x := .at (.c l0)) (by rw [List.getElem?_map, hl0]; rfl)
            rw [hv] at hu1
            injection hu1 with hu1
            subst hu1
            obtain ⟨d2, hd2, hr2⟩ := C1R.at_ hu2
            injection hd2 with hd2
            subst hd2
            exact hr2
          · rw [hv, o1, hey]
            simp [Instr.lookup, run_underlying hu, Go.MapKept.run_getObj_map o3, hck, Instr.findKey, run_underlying hku, k2, zeroValue, typeInfo, hi, hz]
        · refine ⟨us, ds, e0.val, true, by simp [k1], (fun hf => by cases hf), by rw [← k7.len, k5], k6, k7, ?_⟩
          rw [hv, o1, hey]
          simp [Instr.lookup, run_underlying hu, Go.MapKept.run_getObj_map o3, hck, Instr.findKey, run_underlying hku, k2]
      have hexec : ∀ v, (Instr.lookup t' (a.eval x) (a.eval y) ok).run P W = .ok v W → (execOp a.eval o).run P W = .ok (.value v) W := by
        intro v hv
        unfold execOp
        simp only [ho, Sem.run_bind, hv, Result.andThen_ok, Sem.run_pure]
      have gets : ∀ (m : Int) (us : List Value) (ds : List Dt) (found : Bool), asI (ka.val E) = some m → mfind m rows = (if found then some ds else none) → (found = false → ds = te.z.map Lit.dt) → us.length = te.n → Reps W (Frr w0 F0 ω ρ W) ds us → (∀ j, j < te.n → ∃ d, denX sp E (.mget te.z ma ka j) = some d ∧ E[n + j]? = some d) → C1Rs (ctx w0 F0 E ω ρ W) (newAts n te.n) us := by
        intro m us ds found hm hfd hz0 hl hrs hfs
        refine newAts_ok hl fun j u hu => ?_
        have hj := (List.getElem?_eq_some_iff.1 hu).1
        obtain ⟨d, hd, hE⟩ := hfs j (by omega)
        simp only [denX, o4, hm, hfd] at hd
        have hdj : ds[j]? = some d := by
          cases found with
          | true => exact hd
          | false =>
            rw [hz0 rfl, List.getElem?_map]
            exact hd
        obtain ⟨u', hu', hr'⟩ := hrs.get hdj
        rw [hu] at hu'
        injection hu' with hu'
        subst hu'
        exact ⟨d, hE, hr'⟩
      split at hr
      · rename_i hok
        subst hok
        simp only [run_pure, Option.some.injEq] at hr
        subst hr
        obtain ⟨db, hdb, hEb⟩ := hf.1 te.n (.mhas ma ka) (by simp)
        simp only [denX, o4] at hdb
        split at hdb
        · rename_i rows' m hrows hm
          injection hrows with hrows
          injection hrows with _ hrows
          subst hrows
          injection hdb with hdb
          subst hdb
          obtain ⟨us, ds, val, found, q1, q2, q3, q4, q5, q6⟩ := key m hm
          have hcs := gets m us ds found hm q1 q2 q3 q5 fun j hj => hf.1 j _ (by rw [List.getElem?_append_left (by simpa using hj)]; simp [hj])
          have hfo : (mfind m rows).isSome = found := by rw [q1]; cases found <;> rfl
          refine wp_value (hexec _ q6) (h.goes o ⟨[val, .bool found], rfl, ?_, ?_, trivial⟩)
          · unfold PR
            cases hg : te.agg with
            | true => rw [hg] at q4; simp only [if_true] at q4 ⊢; exact ⟨us, q4, hcs⟩
            | false =>
              rw [hg] at q4
              simp only [Bool.false_eq_true, if_false] at q4 ⊢
              subst q4
              have : te.n = 1 := by simpa using q3.symm
              rw [this] at hcs ⊢
              exact ⟨_, rfl, hcs.1⟩
          · exact ⟨_, rfl, _, hEb, by rw [hfo]; exact .b _⟩
        · cases hdb
      · rename_i hok
        simp only [Bool.not_eq_true] at hok
        subst hok
        simp only [run_bind, run_pure, Option.bind_eq_some_iff, Option.some.injEq] at hr
        obtain ⟨sv, hsv, rfl⟩ := hr
        have hm : ∃ m, asI (ka.val E) = some m := by
          have hpos : 0 < te.n := by
            omega
          obtain ⟨d, hd, _⟩ := hf.1 0 (.mget te.z ma ka 0) (by simp [hpos])
          simp only [denX, o4] at hd
          split at hd
          · rename_i hm; exact ⟨_, hm⟩
          · cases hd
        obtain ⟨m, hm⟩ := hm
        obtain ⟨us, ds, val, found, q1, q2, q3, q4, q5, q6⟩ := key m hm
        have hcs := gets m us ds found hm q1 q2 q3 q5 fun j hj => hf.1 j _ (by simp [hj])
        refine wp_value (hexec _ q6) (h.goes o (asSV_ok hsv ?_))
        unfold PR
        cases hg : te.agg with
        | true => rw [hg] at q4; simp only [if_true] at q4 ⊢; exact ⟨us, q4, hcs⟩
        | false =>
          rw [hg] at q4
          simp only [Bool.false_eq_true, if_false] at q4 ⊢
          subst q4
          have : te.n = 1 := by simpa using q3.symm
          rw [this] at hcs ⊢
          exact ⟨_, rfl, hcs.1⟩
    · cases hr
  · cases hr
theorem op_mapPut {t : Nat} {x y z : Operand} (h : Sim w0 F0 E τ ω a W ρ) (ho : o.op = .insert t x y z ∨ o.op = .mapUpdate t x y z) (hr : (stepOp cx kb n nt kn o).run τ ω = some e) (hf : Facts sp E n e) (hty : ∀ t i, cx.ti t = some i → TyOk P t i) : o.wp P a W (Goes w0 F0 E τ ω e.ws) Q := by
  have hr' : (stMapPut cx n o t x y z).run τ ω = some e := by
    unfold stepOp at hr
    rcases ho with ho | ho <;> (rw [ho] at hr; exact hr)
  have hexec : ∀ W', (Instr.mapUpdate t (a.eval x) (a.eval y) (a.eval z)).run P W = .ok () W' → (execOp a.eval o).run P W = .ok .skip W' := by
    intro W' hv
    unfold execOp
    rcases ho with ho | ho <;> simp only [ho, Sem.run_bind, hv, Result.andThen_ok, Sem.run_pure]
  clear hr ho
  simp only [stMapPut, run_bind, run_ofO, Option.bind_eq_some_iff] at hr'
  obtain ⟨ti, hti, ⟨kt, et⟩, hmp, te, hte, c, hc, hr⟩ := hr'
  obtain ⟨hu, hku⟩ := (hty t ti hti).mp _ _ hmp
  have hcr := evC_ok h hc
  split at hr
  · rename_i q
    simp only [run_bind, run_rO, Option.bind_eq_some_iff] at hr
    obtain ⟨ob, hob, hr⟩ := hr
    split at hr
    · rename_i t' vs g ma
      simp only [run_ite] at hr
      split at hr
      · cases hr
      rename_i htt
      simp only [ne_eq, Decidable.not_not] at htt
      subst htt
      simp only [run_bind, run_ofO, Option.bind_eq_some_iff] at hr
      obtain ⟨ka, hka, sv, hsv, cs, hcs, hr⟩ := hr
      simp only [run_ite] at hr
      split at hr
      · cases hr
      rename_i hnot
      simp only [mapOk, Bool.not_eq_false, Bool.and_eq_true, decide_eq_true_eq] at hnot
      obtain ⟨⟨⟨⟨hcl, rfl⟩, rfl⟩, hag⟩, hokc⟩ := hnot
      simp only [run_bind, Option.bind_eq_some_iff] at hr
      obtain ⟨⟨ats, ws⟩, hfr, hr⟩ := hr
      simp only [run_ite] at hr
      split at hr
      · cases hr
      rename_i hws
      simp only [run_pure, Option.some.injEq] at hr
      subst hr
      obtain ⟨_, hv, _⟩ := hcr
      simp only [ctx] at hv
      obtain ⟨us, hus, hcr⟩ := svCells_ok hcs (evR_ok h hsv)
      obtain ⟨g1, g2, ds, g3, g4⟩ := frAs_ok (FrzRel.refl ω) h hfr hcr
      have hob2 : (wr τ ω ws).2[q]? = some (some (.map t' te.n te.agg ma)) := by
        rcases g2.rel.2 q with h1 | ⟨e', sz, x', h1, _⟩
        · rw [h1]; exact hob
        · rw [hob] at h1; cases h1
      obtain ⟨b, rows, es, clock, o1, o2, o3, o4, o5⟩ := g2.sim.objs q _ hob2
      simp only [ctx] at o1 o3 o4 o5
      obtain ⟨dk, hdk, hrk⟩ := evA_ok h hka
      obtain ⟨d, hd, hn⟩ := hf.one
      simp only [denX, o4, g3] at hd
      split at hd
      · rename_i z' rows' m ds' hrows hm hds
        injection hrows with hrows
        injection hrows with _ hrows
        subst hrows
        injection hds with hds
        subst hds
        split at hd
        · rename_i hcond
          injection hd with hd
          subst hd
          rw [asI_some hm] at hdk
          injection hdk with hdk
          subst hdk
          obtain ⟨hey, hwm⟩ := rep_i hrk
          have hck : (Instr.checkKey false 10000 kt (.int .i64 m)).run P W = .ok () W := Go.MapKept.run_checkKey (d := .int .i64) (k := .int .i64 m) hku (by simp [Go.MapKept.IsKey]) false 9999
          have hval : if te.agg then a.eval z = .agg us.toArray else us = [a.eval z] := by
            rcases hus with hus | hus
            · cases sv with
              | agg c0 =>
                simp only [aggSV] at hag
                rw [if_pos hag.symm]
                exact hus
              | one c0 =>
                exfalso
                simp only [svCells, Option.some.injEq] at hcs
                subst hcs
                obtain ⟨hc1, _⟩ := (show okC c0 = true ∧ True from by simpa using hokc)
                have hone := C1R.one (evR_ok h hsv) hc1
                rw [hus] at hone
                cases hone
              | tup ps => cases hcs
            · cases sv with
              | one c0 =>
                simp only [aggSV] at hag
                rw [if_neg (by rw [← hag]; decide)]
                exact hus
              | agg c0 =>
                obtain ⟨us2, hus2, hc2⟩ := evR_ok h hsv
                simp only [svCells, Option.some.injEq] at hcs
                subst hcs
                exfalso
                have h1 := hcr.one (by simpa using hokc) (a.eval z) (by rw [hus]; simp)
                rw [hus2] at h1
                cases h1
              | tup ps => cases hcs
          have hent : ∀ bo, MapR W (Frr w0 F0 (wr τ ω ws).2 ρ W) te.n te.agg [.i .i64 m :: ds] [⟨.int .i64 m, a.eval z, bo⟩] := fun bo => ⟨⟨m, ds, us, rfl, hwm, hcond.1, rfl, hval, g4⟩, trivial⟩
          have hkt : (Instr.keyThatStays (.int .i64 m) (.int .i64 m)).run P W = .ok (.int .i64 m) W := by simp [Instr.keyThatStays, Instr.sameBits]
          obtain ⟨es', clock', hrun, hmr⟩ : ∃ (es' : List MapEntry) (clock' : Nat), (Instr.mapUpdate t' (a.eval x) (a.eval y) (a.eval z)).run P W = .ok () { W with heap := W.heap.setIfInBounds b (.map es'.toArray clock') } ∧ MapR W (Frr w0 F0 (wr τ ω ws).2 ρ W) te.n te.agg (mputL m ds rows) es' := by
            rcases mapR_find m 0 o5 with ⟨k1, k2, k3⟩ | ⟨j, ds0, us0, e0, k1, k2, k3, k4, k5, k6, k7, k8⟩
            · refine ⟨es ++ [⟨.int .i64 m, a.eval z, clock⟩], clock + 1, ?_, by rw [k3]; exact o5.push (hent clock)⟩
              rw [hv, o1, hey]
              simp [Instr.mapUpdate, run_underlying hu, Go.MapKept.run_getObj_map o3, hck, Instr.findKey, run_underlying hku, k2, Go.MapKept.run_setObj_map _ o3]
            · refine ⟨es.set j ⟨.int .i64 m, a.eval z, e0.born⟩, clock, ?_, by rw [k8]; exact o5.put j (hent _)⟩
              have hmod : es.modify j (fun e => { e with key := Value.int .i64 m, val := a.eval z }) = es.set j ⟨.int .i64 m, a.eval z, e0.born⟩ := by
                apply List.ext_getElem?
                intro i
                rw [List.getElem?_modify, List.getElem?_set]
                by_cases hij : j = i
                · subst hij
                  have := (List.getElem?_eq_some_iff.1 k3).1
                  rw [k3]
                  simp [this]
                · cases es[i]? <;> simp [hij]
              rw [hv, o1, hey]
              simp only [Nat.zero_add] at k2
              simp [Instr.mapUpdate, run_underlying hu, Go.MapKept.run_getObj_map o3, hck, Instr.findKey, run_underlying hku, k2, k3, k4, hkt, hmod, Go.MapKept.run_setObj_map _ o3]
          have hbl : b < W.heap.size := by
            rcases Nat.lt_or_ge b W.heap.size with h' | h'
            · exact h'
            · rw [Array.getElem?_eq_none h'] at o3; cases o3
          have hfar : ∀ k, k ≠ b → ({ W with heap := W.heap.setIfInBounds b (.map es'.toArray clock') } : World).heap[k]? = W.heap[k]? := fun k hk => by
            show (W.heap.setIfInBounds b _)[k]? = _
            rw [Array.getElem?_setIfInBounds_ne (Ne.symm hk)]
          refine wp_skipv (hexec _ hrun) ⟨ρ, ?_⟩
          have hsame := g2.sim.sameBlock (W' := { W with heap := W.heap.setIfInBounds b (.map es'.toArray clock') }) (o' := .map t' te.n te.agg (.v n)) hob2
            ⟨rfl, rfl, rfl, by simp, fun k hk => hfar k (by omega)⟩ (fun k hk => hfar k (fun e => hk (by rw [o1, e]; rfl))) (fun k hk => by rw [o1] at hk ⊢; exact hk)
            (fun hle _ => ⟨b, _, es', clock', o1, o2, by show (W.heap.setIfInBounds b _)[b]? = _; simp [hbl], hn, by rw [Nat.add_comm 1 te.n] at *; exact hmr.mono hle.agree hle.more⟩)
          simp only [wr_append, g1]
          exact hsame.dst o (sv := .one .und) rfl
        · cases hd
      · cases hd
    · cases hr
  · cases hr
end
end Go.Proofs.YtnklncinjahckaaGreatDoor
namespace Go.Proofs.YtnklncinjahckaaGreatDoor
open Go.RowKit
set_option linter.unusedVariables false
set_option linter.unusedSimpArgs false
section
variable {P : Program} {w0 W : World} {F0 : Bk} {E E' : Env} {τ τ' : List SV} {ω ω' : List (Option Ob)} {a : Act} {ρ : Nat → Value} {cx : Cx} {o : Oper} {e : Eff} {sp : Nat → Spec} {n nt kb : Nat} {kn : List (Nat × Bool)} {Q : Exit → Act → World → Prop}
theorem op_ok (h : Sim w0 F0 E τ ω a W ρ) (hr : (stepOp cx kb n nt kn o).run τ ω = some e) (hf : Facts sp E n e) (hk : KnOk E kn) (hty : ∀ t i, cx.ti t = some i → TyOk P t i) (hsig : ∀ ci f s, cx.sigs[ci]? = some (f, s) → Meets P (sp ci) f s) : o.wp P a W (Goes w0 F0 E τ ω e.ws) Q := by
  cases ho : o.op with
  | move x => exact op_move h (.inl ho) hr
  | assign x => exact op_move h (.inr ho) hr
  | pick c x y => exact op_pick h ho hr hf hk
  | alloc t => exact op_alloc h ho hr hty
  | box t x => exact op_box h ho hr
  | load t x => exact op_load h ho hr hf hty
  | store t x y => exact op_store h ho hr hf hty
  | fieldAddr t x f => exact op_fieldAddr h ho hr hty
  | indexAddr t x y => exact op_indexAddr h ho hr hf hty
  | slice t x lo hi mx => cases mx with
    | none => exact op_slice h ho hr hf hty
    | some m => exact op_slice3 h ho hr hf hty
  | index t x y => exact op_index h ho hr hf hty
  | makeSlice t x y => exact op_make h ho hr hf hty
  | makeMap t r => exact op_makeMap h ho hr hty
  | lookup t x y ok => exact op_lookup h ho hr hf hty
  | insert t x y z => exact op_mapPut h (.inl ho) hr hf hty
  | mapUpdate t x y z => exact op_mapPut h (.inr ho) hr hf hty
  | binOp op t x y t' => exact op_binOp h ho hr hf hty
  | unOp op t x => cases op with
    | not => exact op_not h ho hr hf hk
    | neg => exact op_neg h ho hr hf
    | _ => unfold stepOp at hr; rw [ho] at hr; cases hr
  | convert src dst x => exact op_convert h ho hr hf hty
  | build t parts => exact op_build h ho hr hty
  | buildSlice t len parts => exact op_buildSlice h ho hr hf hty
  | makeFunc fn first captured => cases fn with
    | func f => exact op_makeFunc h ho hr
    | _ => unfold stepOp at hr; rw [ho] at hr; cases hr
  | extract x j => exact op_extract h ho hr
  | nilCheck x => exact op_nilCheck h ho hr
  | call c => cases hcl : c.callee with
    | value fx => exact op_call h ho hcl hr hf hsig
    | builtin b => cases b with
      | len => exact op_len h ho hcl hr hf hty
      | append => exact op_append h ho hcl hr hf hty
      | min => exact op_min h ho hcl hr hf
      | _ => unfold stepOp at hr; rw [ho] at hr; simp only [stCall, hcl] at hr; cases hr
    | _ => unfold stepOp at hr; rw [ho] at hr; simp only [stCall, hcl] at hr; cases hr
  | _ => unfold stepOp at hr; rw [ho] at hr; cases hr
def LocEq (τ τ' : List SV) (ω ω' : List (Option Ob)) : Loc → Prop
  | .t i => τ[i]? = τ'[i]?
  | .o i => ω[i]? = ω'[i]?
theorem LocEq.refl (τ : List SV) (ω : List (Option Ob)) (l : Loc) : LocEq τ τ ω ω l := by cases l <;> rfl
theorem LocEq.trans {τ1 τ2 τ3 : List SV} {ω1 ω2 ω3 : List (Option Ob)} {l : Loc} (h : LocEq τ1 τ2 ω1 ω2 l) (k : LocEq τ2 τ3 ω2 ω3 l) : LocEq τ1 τ3 ω1 ω3 l := by
  cases l <;> exact Eq.trans h k
theorem LocEq.symm {τ1 τ2 : List SV} {ω1 ω2 : List (Option Ob)} {l : Loc} (h : LocEq τ1 τ2 ω1 ω2 l) : LocEq τ2 τ1 ω2 ω1 l := by cases l <;> exact Eq.symm h
theorem run_log {α : Type} {x : α} : ∀ (m : Rd α), m.run τ ω = some x → (∀ l ∈ m.log τ ω, LocEq τ τ' ω ω' l) → m.run τ' ω' = some x
  | .pure a, hr, _ => hr
  | .fail, hr, _ => hr
  | .t i k, hr, h => by
    simp only [Rd.run, Rd.log] at h hr ⊢
    cases hx : τ[i]? with
    | none => rw [hx] at hr; cases hr
    | some y =>
      rw [hx] at h hr
      have h1 : τ[i]? = τ'[i]? := h (.t i) (List.mem_cons_self ..)
      rw [← h1, hx]
      exact run_log (k y) hr fun l hl => h l (List.mem_cons_of_mem _ hl)
  | .o i k, hr, h => by
    simp only [Rd.run, Rd.log] at h hr ⊢
    cases hx : ω[i]? with
    | none => rw [hx] at hr; cases hr
    | some y =>
      rw [hx] at h hr
      have h1 : ω[i]? = ω'[i]? := h (.o i) (List.mem_cons_self ..)
      rw [← h1, hx]
      exact run_log (k y) hr fun l hl => h l (List.mem_cons_of_mem _ hl)
theorem wr_far {l : Loc} : ∀ (ws : List Wr) (τ : List SV) (ω : List (Option Ob)), (∀ w ∈ ws, w.loc ≠ l) → LocEq (wr τ ω ws).1 τ (wr τ ω ws).2 ω l
  | [], τ, ω, _ => LocEq.refl _ _ _
  | .t i v :: ws, τ, ω, h => by
    rw [wr]
    refine (wr_far ws _ _ fun w hw => h w (List.mem_cons_of_mem _ hw)).trans ?_
    have hne := h _ (List.mem_cons_self ..)
    cases l with
    | t j => exact List.getElem?_set_ne fun e => hne (by rw [e]; rfl)
    | o j => rfl
  | .o i v :: ws, τ, ω, h => by
    rw [wr]
    refine (wr_far ws _ _ fun w hw => h w (List.mem_cons_of_mem _ hw)).trans ?_
    have hne := h _ (List.mem_cons_self ..)
    cases l with
    | t j => rfl
    | o j => exact List.getElem?_set_ne fun e => hne (by rw [e]; rfl)
theorem set_congr {α : Type} {l l' : List α} {i j : Nat} {v : α} (h : l[j]? = l'[j]?) : (l.set i v)[j]? = (l'.set i v)[j]? := by
  by_cases e : i = j
  · subst e
    rw [List.getElem?_set, List.getElem?_set, if_pos rfl, if_pos rfl]
    by_cases h1 : i < l.length
    · have h2 : i < l'.length := by
        rw [List.getElem?_eq_getElem h1] at h
        exact (List.getElem?_eq_some_iff.1 h.symm).1
      rw [if_pos h1, if_pos h2]
    · have h2 : ¬ i < l'.length := fun h2 => by
        rw [List.getElem?_eq_getElem h2] at h
        exact h1 (List.getElem?_eq_some_iff.1 h).1
      rw [if_neg h1, if_neg h2]
  · rw [List.getElem?_set_ne e, List.getElem?_set_ne e]; exact h
theorem wr_congr {l : Loc} : ∀ (ws : List Wr) {τ τ' : List SV} {ω ω' : List (Option Ob)}, LocEq τ τ' ω ω' l → LocEq (wr τ ω ws).1 (wr τ' ω' ws).1 (wr τ ω ws).2 (wr τ' ω' ws).2 l
  | [], _, _, _, _, h => h
  | .t i v :: ws, _, _, _, _, h => by
    rw [wr, wr]
    refine wr_congr ws ?_
    cases l with
    | t j => exact set_congr h
    | o j => exact h
  | .o i v :: ws, _, _, _, _, h => by
    rw [wr, wr]
    refine wr_congr ws ?_
    cases l with
    | t j => exact h
    | o j => exact set_congr h
theorem state_ext {p q : List SV × List (Option Ob)} (h : ∀ l, LocEq p.1 q.1 p.2 q.2 l) : p = q := by
  obtain ⟨τ, ω⟩ := p
  obtain ⟨τ', ω'⟩ := q
  have h1 : τ = τ' := List.ext_getElem? fun i => h (.t i)
  have h2 : ω = ω' := List.ext_getElem? fun i => h (.o i)
  rw [h1, h2]
theorem wr_comm (A B : List Wr) (h : ∀ x ∈ A, ∀ y ∈ B, x.loc ≠ y.loc) (τ : List SV) (ω : List (Option Ob)) : wr (wr τ ω A).1 (wr τ ω A).2 B = wr (wr τ ω B).1 (wr τ ω B).2 A := by
  refine state_ext fun l => ?_
  by_cases hA : ∀ w ∈ A, w.loc ≠ l
  · exact (wr_congr B (wr_far A τ ω hA)).trans (wr_far A _ _ hA).symm
  · have hB : ∀ w ∈ B, w.loc ≠ l := by
      intro w hw e
      apply hA
      intro x hx e'
      exact h x hx w hw (e'.trans e.symm)
    exact (wr_far B _ _ hB).trans (wr_congr A (wr_far B τ ω hB)).symm
def gdIs (E : Env) (ops : List Oper) (τ : List SV) (o : Oper) (want : Bool) : Prop := match o.guard with
  | none => want = true
  | some (j, w) => ∃ d sv, (ops[j]?).bind (·.dst) = some d ∧ τ[d]? = some sv ∧ ((sv = .one .und ∧ want = false) ∨ ∃ x b, sv = .one (.at x) ∧ x.val E = some (.b b) ∧ want = (b == w))
def RecOk (cx : Cx) (kb nt : Nat) (ops : List Oper) (sp : Nat → Spec) (E : Env) (τ : List SV) (ω : List (Option Ob)) (o : Oper) (r : Rec) : Prop :=
  gdIs E ops τ o r.want ∧ (r.want = true → ∃ kn, KnOk E kn ∧ (stepOp cx kb r.n nt kn o).run τ ω = some r.eff ∧ Facts sp E r.n r.eff) ∧ (r.want = false → r.eff.ws = dstW o (.one .und))
def RecLog (cx : Cx) (kb nt : Nat) (ops : List Oper) (sp : Nat → Spec) (E : Env) (τ : List SV) (ω : List (Option Ob)) (o : Oper) (r : Rec) : Prop :=
  gdIs E ops τ o r.want ∧ (∀ l ∈ guardLog ops o, l ∈ r.log) ∧ (r.want = true → KnOk E r.kn ∧ (stepOp cx kb r.n nt r.kn o).run τ ω = some r.eff ∧ Facts sp E r.n r.eff ∧ ∀ l ∈ (stepOp cx kb r.n nt r.kn o).log τ ω, l ∈ r.log) ∧ (r.want = false → r.eff.ws = dstW o (.one .und))
theorem RecLog.move {ops : List Oper} {r : Rec} (h : RecLog cx kb nt ops sp E τ ω o r) (hl : ∀ l ∈ r.log, LocEq τ τ' ω ω' l) : RecOk cx kb nt ops sp E τ' ω' o r := by
  obtain ⟨h1, h2, h3, h4⟩ := h
  refine ⟨?_, fun hw => ?_, h4⟩
  · unfold gdIs at h1 ⊢
    unfold guardLog at h2
    split at h1
    · exact h1
    · rename_i j w hg
      obtain ⟨d, sv, g1, g2, g3⟩ := h1
      rw [hg] at h2
      simp only [g1] at h2
      have := hl (.t d) (h2 _ (by simp))
      exact ⟨d, sv, g1, (show τ[d]? = τ'[d]? from this).symm.trans g2, g3⟩
  · obtain ⟨k1, k2, k3, k4⟩ := h3 hw
    exact ⟨r.kn, k1, run_log _ k2 fun l h' => hl l (k4 l h'), k3⟩
inductive Tr (cx : Cx) (kb nt : Nat) (ops : List Oper) (sp : Nat → Spec) (E : Env) : List Oper → List SV → List (Option Ob) → List Rec → Prop
  | nil {τ : List SV} {ω : List (Option Ob)} : Tr cx kb nt ops sp E [] τ ω []
  | cons {o : Oper} {os : List Oper} {r : Rec} {rs : List Rec} {τ : List SV} {ω : List (Option Ob)} (h : RecLog cx kb nt ops sp E τ ω o r) (t : Tr cx kb nt ops sp E os (wr τ ω r.eff.ws).1 (wr τ ω r.eff.ws).2 rs) : Tr cx kb nt ops sp E (o :: os) τ ω (r :: rs)
def selW (L : Nat → Bool) : Nat → List Rec → List Wr
  | _, [] => []
  | i, r :: rs => (if L i then r.eff.ws else []) ++ selW L (i + 1) rs
theorem Tr.len {ops os : List Oper} {rs : List Rec} {τ : List SV} {ω : List (Option Ob)} (h : Tr cx kb nt ops sp E os τ ω rs) : rs.length = os.length := by
  induction h with
  | nil => rfl
  | cons h t ih => simp [ih]
theorem Tr.at_ {ops os : List Oper} {rs : List Rec} {τ : List SV} {ω : List (Option Ob)} (h : Tr cx kb nt ops sp E os τ ω rs) : ∀ (j0 : Nat) {i : Nat} {o : Oper} {r : Rec}, os[i]? = some o → rs[i]? = some r →
    RecLog cx kb nt ops sp E (wr τ ω (selW (fun _ => true) j0 (rs.take i))).1 (wr τ ω (selW (fun _ => true) j0 (rs.take i))).2 o r := by
  induction h with
  | nil => intro j0 i o r ho hr; simp at ho
  | cons h t ih =>
    intro j0 i o r ho hr
    cases i with
    | zero =>
      simp only [List.getElem?_cons_zero, Option.some.injEq] at ho hr
      subst ho; subst hr
      exact h
    | succ i =>
      have := ih (j0 + 1) (i := i) (by simpa using ho) (by simpa using hr)
      simp only [List.take_succ_cons, selW, if_true, wr_append]
      exact this
theorem sel_eq {l : Loc} {L : Nat → Bool} : ∀ (rs : List Rec) (j0 : Nat) (τ : List SV) (ω : List (Option Ob)), (∀ (i : Nat) (r : Rec), rs[i]? = some r → L (j0 + i) = false → ∀ w ∈ r.eff.ws, w.loc ≠ l) →
    LocEq (wr τ ω (selW (fun _ => true) j0 rs)).1 (wr τ ω (selW L j0 rs)).1 (wr τ ω (selW (fun _ => true) j0 rs)).2 (wr τ ω (selW L j0 rs)).2 l
  | [], _, _, _, _ => LocEq.refl _ _ _
  | r :: rs, j0, τ, ω, h => by
    simp only [selW, if_true, wr_append]
    have ih := fun τ ω => sel_eq (l := l) (L := L) rs (j0 + 1) τ ω fun i r hr hL => h (i + 1) r (by simpa using hr) (by rw [← hL]; congr 1; omega)
    cases hL : L j0 with
    | true => simp only [if_true]; exact ih _ _
    | false =>
      simp only [Bool.false_eq_true, if_false, wr]
      exact (ih _ _).trans (wr_congr _ (wr_far _ _ _ (h 0 r rfl (by simpa using hL))))
theorem selW_mem {L : Nat → Bool} : ∀ {rs : List Rec} {j0 : Nat} {w : Wr}, w ∈ selW L j0 rs → ∃ i r, rs[i]? = some r ∧ L (j0 + i) = true ∧ w ∈ r.eff.ws
  | [], _, _, h => by simp [selW] at h
  | r :: rs, j0, w, h => by
    simp only [selW, List.mem_append] at h
    rcases h with h | h
    · split at h
      · exact ⟨0, r, rfl, by simpa, h⟩
      · cases h
    · obtain ⟨i, r', h1, h2, h3⟩ := selW_mem h
      exact ⟨i + 1, r', by simpa using h1, by rw [← h2]; congr 1; omega, h3⟩
theorem selW_append {L : Nat → Bool} : ∀ (rs rs' : List Rec) (j0 : Nat), selW L j0 (rs ++ rs') = selW L j0 rs ++ selW L (j0 + rs.length) rs'
  | [], rs', j0 => by simp [selW]
  | r :: rs, rs', j0 => by
    simp only [List.cons_append, selW, selW_append rs rs' (j0 + 1), List.append_assoc, List.length_cons]
    congr 3; omega
theorem selW_congr {L L' : Nat → Bool} : ∀ (rs : List Rec) (j0 : Nat), (∀ i, i < rs.length → L (j0 + i) = L' (j0 + i)) → selW L j0 rs = selW L' j0 rs
  | [], _, _ => rfl
  | r :: rs, j0, h => by
    have e1 : L j0 = L' j0 := h 0 (by simp)
    have e2 : selW L (j0 + 1) rs = selW L' (j0 + 1) rs := selW_congr rs (j0 + 1) fun i hi => by
      have := h (i + 1) (by simpa using hi)
      rw [show j0 + 1 + i = j0 + (i + 1) by omega]; exact this
    simp only [selW]
    rw [e1, e2]
theorem sel_step {L L' : Nat → Bool} {rs : List Rec} {i : Nat} {r : Rec} (hr : rs[i]? = some r) (hL : L i = false) (hL' : ∀ j, L' j = (L j || decide (j = i))) (hdj : ∀ (j : Nat) (q : Rec), i < j → rs[j]? = some q → L j = true → ∀ x ∈ r.eff.ws, ∀ y ∈ q.eff.ws, x.loc ≠ y.loc) (τ : List SV) (ω : List (Option Ob)) :
    wr τ ω (selW L' 0 rs) = wr (wr τ ω (selW L 0 rs)).1 (wr τ ω (selW L 0 rs)).2 r.eff.ws := by
  have hlt := (List.getElem?_eq_some_iff.1 hr).1
  have hsplit : rs = rs.take i ++ r :: rs.drop (i + 1) := by
    conv => lhs; rw [← List.take_append_drop i rs]
    congr 1
    rw [List.drop_eq_getElem_cons hlt]
    rw [List.getElem?_eq_getElem hlt] at hr
    injection hr with hr
    rw [hr]
  have hti : (rs.take i).length = i := by rw [List.length_take]; omega
  have e1 : selW L' 0 rs = selW L 0 (rs.take i) ++ (r.eff.ws ++ selW L (i + 1) (rs.drop (i + 1))) := by
    conv => lhs; rw [hsplit]
    rw [selW_append, hti, selW_congr (L := L') (L' := L) (rs.take i) 0 (fun j hj => by rw [hL']; simp; omega)]
    simp only [selW, Nat.zero_add]
    rw [hL' i, selW_congr (L := L') (L' := L) (rs.drop (i + 1)) (i + 1) (fun j hj => by rw [hL']; simp; omega)]
    simp
  have e2 : selW L 0 rs = selW L 0 (rs.take i) ++ selW L (i + 1) (rs.drop (i + 1)) := by
    conv => lhs; rw [hsplit]
    rw [selW_append, hti]
    simp only [selW, Nat.zero_add, hL]
    simp
  rw [e1, e2, wr_append, wr_append, wr_append]
  refine wr_comm _ _ (fun x hx y hy => ?_) _ _
  obtain ⟨j, q, h1, h2, h3⟩ := selW_mem hy
  exact hdj (i + 1 + j) q (by omega) (by rw [List.getElem?_drop] at h1; exact h1) h2 x hx y h3
theorem Sim.wanted {ops : Array Oper} {want : Bool} (h : Sim w0 F0 E τ ω a W ρ) (hg : gdIs E ops.toList τ o want) : Region.wanted o (yielded ops a.tmps) = want := by
  unfold gdIs at hg
  unfold Region.wanted
  split at hg
  · rename_i hn; rw [hn]; exact hg.symm
  · rename_i j w hn
    rw [hn]
    obtain ⟨d, sv, h1, h2, h3⟩ := hg
    simp only
    have h1' : (ops[j]?).bind (·.dst) = some d := by simpa using h1
    have hsv := h.tmps d sv h2
    have hlt : d < a.tmps.size := by rw [h.size]; exact (List.getElem?_eq_some_iff.1 h2).1
    have hget : a.tmps[d]? = some (a.tmps.getD d undef) := by
      rw [Array.getD_eq_getD_getElem?, Array.getElem?_eq_getElem hlt]; rfl
    unfold yielded
    rw [h1']
    simp only [Option.bind_some, hget]
    rcases h3 with ⟨rfl, rfl⟩ | ⟨x, b, rfl, hx, rfl⟩
    · have : a.tmps.getD d undef = undef := hsv
      rw [this]
      rfl
    · obtain ⟨d', hd', hrep⟩ := C1R.at_ hsv
      simp only [ctx] at hd'
      rw [hx] at hd'; injection hd' with hd'; subst hd'
      rw [rep_b hrep]
      cases b <;> cases w <;> rfl
theorem rec_wp {ops : Array Oper} {r : Rec} {K : Act → World → Prop} (h : Sim w0 F0 E τ ω a W ρ) (hr : RecOk cx kb nt ops.toList sp E τ ω o r) (hty : ∀ t i, cx.ti t = some i → TyOk P t i) (hsig : ∀ ci f s, cx.sigs[ci]? = some (f, s) → Meets P (sp ci) f s)
    (hK : ∀ a' W', Goes w0 F0 E τ ω r.eff.ws a' W' → K a' W') : if Region.wanted o (yielded ops a.tmps) then o.wp P a W K Q ∨ (o.asks P a W ∧ LetsOut Q) else K (a.put o.dst undef) W := by
  obtain ⟨h1, h2, h3⟩ := hr
  rw [h.wanted h1]
  cases hw : r.want with
  | true =>
    simp only [if_true]
    obtain ⟨kn, k1, k2, k3⟩ := h2 hw
    exact .inl (Oper.wp_mono (fun a w hg => hK a w hg) (op_ok h k2 k3 k1 hty hsig))
  | false =>
    simp only [Bool.false_eq_true, if_false]
    refine hK _ _ ⟨ρ, ?_⟩
    rw [h3 hw]
    exact h.dst o (sv := .one .und) (v := undef) rfl
theorem ancs_ok : ∀ (l : List Oper) (acc : List (List Nat)), (∀ i, i < acc.length → (ancs l acc).getD i [] = acc.getD i []) ∧
    ∀ (j : Nat) (o : Oper), l[j]? = some o → ∀ k ∈ (ancs l acc).getD (acc.length + j) [], ∃ e ∈ o.after.toList, Region.binds .any e = true ∧ (k = e.on ∨ k ∈ (ancs l acc).getD e.on [])
  | [], acc => ⟨fun i _ => rfl, fun j o h => by simp at h⟩
  | o :: l, acc => by
    rw [ancs]
    obtain ⟨h1, h2⟩ := ancs_ok l (acc ++ [o.after.toList.flatMap fun e => if Region.binds .any e then e.on :: acc.getD e.on [] else []])
    have h0 : ∀ i, i < acc.length → (ancs l (acc ++ [o.after.toList.flatMap fun e => if Region.binds .any e then e.on :: acc.getD e.on [] else []])).getD i [] = acc.getD i [] := by
      intro i hi
      rw [h1 i (by simp; omega)]
      simp only [List.getD_eq_getElem?_getD]
      rw [List.getElem?_append_left hi]
    refine ⟨h0, fun j o' ho k hk => ?_⟩
    cases j with
    | zero =>
      simp only [List.getElem?_cons_zero, Option.some.injEq] at ho
      subst ho
      rw [Nat.add_zero, h1 _ (by simp)] at hk
      simp only [List.getD_eq_getElem?_getD] at hk
      rw [List.getElem?_append_right (Nat.le_refl _), Nat.sub_self, List.getElem?_cons_zero, Option.getD_some, List.mem_flatMap] at hk
      obtain ⟨e, he, hk⟩ := hk
      split at hk
      · rename_i hb
        refine ⟨e, he, hb, ?_⟩
        rcases List.mem_cons.1 hk with hk | hk
        · exact .inl hk
        · refine .inr ?_
          by_cases hlt : e.on < acc.length
          · rw [h0 _ hlt]; simpa [List.getD_eq_getElem?_getD] using hk
          · rw [List.getElem?_eq_none (by omega)] at hk; simp at hk
      · cases hk
    | succ j =>
      refine h2 j o' (by simpa using ho) k ?_
      rw [List.length_append, List.length_singleton, show acc.length + 1 + j = acc.length + (j + 1) by omega]
      exact hk
theorem indepFrom_ok {an : List (List Nat)} {i : Nat} {r : Rec} : ∀ {rs : List Rec} {j0 : Nat}, indepFrom an i r j0 rs = true → ∀ (j : Nat) (q : Rec), rs[j]? = some q → i ∈ an.getD (j0 + j) [] ∨ apartR r q = true
  | [], _, _, _, _, hq => by simp at hq
  | q' :: rs, j0, h, j, q, hq => by
    simp only [indepFrom, Bool.and_eq_true, Bool.or_eq_true, List.contains_iff_mem] at h
    cases j with
    | zero =>
      simp only [List.getElem?_cons_zero, Option.some.injEq] at hq
      subst hq
      exact h.1
    | succ j =>
      have := indepFrom_ok h.2 j q (by simpa using hq)
      rw [show j0 + (j + 1) = j0 + 1 + j by omega]; exact this
theorem indep_ok {an : List (List Nat)} : ∀ {rs : List Rec} {i0 : Nat}, indep an i0 rs = true → ∀ (i j : Nat) (r q : Rec), i < j → rs[i]? = some r → rs[j]? = some q → (i0 + i) ∈ an.getD (i0 + j) [] ∨ apartR r q = true
  | [], _, _, _, _, _, _, _, hr, _ => by simp at hr
  | r' :: rs, i0, h, i, j, r, q, hij, hr, hq => by
    simp only [indep, Bool.and_eq_true] at h
    cases j with
    | zero => omega
    | succ j =>
      cases i with
      | zero =>
        simp only [List.getElem?_cons_zero, Option.some.injEq] at hr
        subst hr
        have := indepFrom_ok h.1 j q (by simpa using hq)
        rw [Nat.add_zero, show i0 + (j + 1) = i0 + 1 + j by omega]; exact this
      | succ i =>
        have := indep_ok h.2 i j r q (by omega) (by simpa using hr) (by simpa using hq)
        rw [show i0 + (i + 1) = i0 + 1 + i by omega, show i0 + (j + 1) = i0 + 1 + j by omega]; exact this
theorem disj_ok {a b : List Loc} (h : disj a b = true) : ∀ x ∈ a, x ∉ b := by
  intro x hx hb
  have := List.all_eq_true.1 h x hx
  simp only [Bool.not_eq_true', ] at this
  rw [List.contains_iff_mem.2 hb] at this
  cases this
theorem backE_ok : ∀ {os : List Oper} {i0 : Nat}, backE i0 os = true → ∀ (i : Nat) (o : Oper), os[i]? = some o → ∀ e ∈ o.after.toList, Region.binds .any e = true → e.on < i0 + i
  | [], _, _, _, _, ho, _, _, _ => by simp at ho
  | o' :: os, i0, h, i, o, ho, e, he, hb => by
    simp only [backE, Bool.and_eq_true] at h
    cases i with
    | zero =>
      simp only [List.getElem?_cons_zero, Option.some.injEq] at ho
      subst ho
      have := List.all_eq_true.1 h.1 e he
      rw [hb] at this
      simpa using this
    | succ i =>
      have := backE_ok h.2 i o (by simpa using ho) e he hb
      omega
theorem count_set {n : Nat} : ∀ (L L' : Nat → Bool) (i : Nat), i < n → L i = false → (∀ j, L' j = (L j || decide (j = i))) → ((List.range n).filter (fun j => !L j)).length = ((List.range n).filter (fun j => !L' j)).length + 1 := by
  intro L L' i hi hL hL'
  induction n with
  | zero => omega
  | succ n ih =>
    simp only [List.range_succ, List.filter_append, List.length_append, List.filter_cons, List.filter_nil]
    by_cases hin : i = n
    · subst hin
      have e : (List.range i).filter (fun j => !L' j) = (List.range i).filter (fun j => !L j) := by
        apply List.filter_congr
        intro j hj
        simp only [List.mem_range] at hj
        rw [hL']; simp; omega
      have h1 : L' i = true := by rw [hL']; simp
      rw [e, h1, hL]
      simp
    · have := ih (by omega)
      have h1 : L' n = L n := by rw [hL']; simp; omega
      rw [this, h1]
      omega
end
end Go.Proofs.YtnklncinjahckaaGreatDoor
namespace Go.Proofs.YtnklncinjahckaaGreatDoor
open Go.RowKit
set_option linter.unusedVariables false
set_option linter.unusedSimpArgs false
def Pre (E E' : Env) : Prop := ∃ D, E' = E ++ D
theorem Pre.refl (E : Env) : Pre E E := ⟨[], by simp⟩
theorem Pre.trans {E E' E'' : Env} (h : Pre E E') (k : Pre E' E'') : Pre E E'' := by
  obtain ⟨D, rfl⟩ := h
  obtain ⟨D', rfl⟩ := k
  exact ⟨D ++ D', by simp⟩
theorem Pre.get {E E' : Env} (h : Pre E E') {j : Nat} {d : Dt} (hd : E[j]? = some d) : E'[j]? = some d := by
  obtain ⟨D, rfl⟩ := h
  rw [List.getElem?_append_left (List.getElem?_eq_some_iff.1 hd).1]; exact hd
theorem Pre.val {E E' : Env} (h : Pre E E') {a : Atom} {d : Dt} (hd : a.val E = some d) : a.val E' = some d := by
  cases a with
  | v n => exact h.get hd
  | c l => exact hd
theorem Pre.asIM {E E' : Env} (h : Pre E E') {a : Atom} {n : Int} (hd : asI (a.val E) = some n) : Proofs.YtnklncinjahckaaGreatDoor.asI (a.val E') = some n := by
  rw [h.val (asI_some hd)]; rfl
theorem Pre.valsM {E E' : Env} (h : Pre E E') : ∀ {as0 : List Atom} {ds : List Dt}, vals E as0 = some ds → Proofs.YtnklncinjahckaaGreatDoor.vals E' as0 = some ds
  | [], ds, hd => hd
  | a :: as0, ds, hd => by
    simp only [Proofs.YtnklncinjahckaaGreatDoor.vals, Option.bind_eq_bind, Option.bind_eq_some_iff, Option.pure_def, Option.some.injEq] at hd ⊢
    obtain ⟨d, h1, ds', h2, rfl⟩ := hd
    exact ⟨d, h.val h1, ds', h.valsM h2, rfl⟩
theorem Pre.valssM {E E' : Env} (h : Pre E E') : ∀ {as0 : List (List Atom)} {ds : List (List Dt)}, valss E as0 = some ds → Proofs.YtnklncinjahckaaGreatDoor.valss E' as0 = some ds
  | [], ds, hd => hd
  | a :: as0, ds, hd => by
    simp only [Proofs.YtnklncinjahckaaGreatDoor.valss, Option.bind_eq_bind, Option.bind_eq_some_iff, Option.pure_def, Option.some.injEq] at hd ⊢
    obtain ⟨d, h1, ds', h2, rfl⟩ := hd
    exact ⟨d, h.valsM h1, ds', h.valssM h2, rfl⟩
theorem Pre.eqsDM {E E' : Env} (h : Pre E E') : ∀ {ps : List (Atom × Atom)} {r : Bool}, eqsD E ps = some r → Proofs.YtnklncinjahckaaGreatDoor.eqsD E' ps = some r
  | [], r, hd => hd
  | (a, b) :: ps, r, hd => by
    simp only [Proofs.YtnklncinjahckaaGreatDoor.eqsD, Option.bind_eq_bind, Option.bind_eq_some_iff, Option.pure_def, Option.some.injEq] at hd ⊢
    obtain ⟨x, h1, y, h2, q, h3, r', h4, rfl⟩ := hd
    exact ⟨x, h.val h1, y, h.val h2, q, h3, r', h.eqsDM h4, rfl⟩
theorem Pre.bndIM {E E' : Env} (h : Pre E E') {d n : Int} {a : Option Atom} (hd : bndI E d a = some n) : Proofs.YtnklncinjahckaaGreatDoor.bndI E' d a = some n := by
  cases a with
  | none => exact hd
  | some a => exact h.asIM hd
theorem Pre.denXM {sp : Nat → Spec} {E E' : Env} (h : Pre E E') {x : X} {d : Dt} (hd : denX sp E x = some d) : Proofs.YtnklncinjahckaaGreatDoor.denX sp E' x = some d := by
  cases x with
  | bin op a b =>
    simp only [Proofs.YtnklncinjahckaaGreatDoor.denX, Option.bind_eq_bind, Option.bind_eq_some_iff] at hd ⊢
    obtain ⟨x, h1, y, h2, h3⟩ := hd
    exact ⟨x, h.val h1, y, h.val h2, h3⟩
  | eqs neg ps =>
    simp only [Proofs.YtnklncinjahckaaGreatDoor.denX, Option.bind_eq_bind, Option.bind_eq_some_iff] at hd ⊢
    obtain ⟨r, h1, h2⟩ := hd
    exact ⟨r, h.eqsDM h1, h2⟩
  | beq neg a b =>
    simp only [Proofs.YtnklncinjahckaaGreatDoor.denX] at hd ⊢
    cases ha : a.val E with
    | none => rw [ha] at hd; cases hd
    | some x =>
      cases hb : b.val E with
      | none => rw [ha, hb] at hd; cases x <;> cases hd
      | some y => rw [ha, hb] at hd; rw [h.val ha, h.val hb]; exact hd
  | not a =>
    simp only [Proofs.YtnklncinjahckaaGreatDoor.denX] at hd ⊢
    cases ha : a.val E with
    | none => rw [ha] at hd; cases hd
    | some x => rw [ha] at hd; rw [h.val ha]; exact hd
  | neg a =>
    simp only [Proofs.YtnklncinjahckaaGreatDoor.denX] at hd ⊢
    cases ha : a.val E with
    | none => rw [ha] at hd; cases hd
    | some x => rw [ha] at hd; rw [h.val ha]; exact hd
  | conv k a =>
    simp only [Proofs.YtnklncinjahckaaGreatDoor.denX] at hd ⊢
    cases ha : a.val E with
    | none => rw [ha] at hd; cases hd
    | some x => rw [ha] at hd; rw [h.val ha]; exact hd
  | len a =>
    simp only [Proofs.YtnklncinjahckaaGreatDoor.denX] at hd ⊢
    cases ha : a.val E with
    | none => rw [ha] at hd; cases hd
    | some x => rw [ha] at hd; rw [h.val ha]; exact hd
  | slen a =>
    simp only [Proofs.YtnklncinjahckaaGreatDoor.denX] at hd ⊢
    cases ha : a.val E with
    | none => rw [ha] at hd; cases hd
    | some x => rw [ha] at hd; rw [h.val ha]; exact hd
  | ise neg a =>
    simp only [Proofs.YtnklncinjahckaaGreatDoor.denX] at hd ⊢
    cases ha : a.val E with
    | none => rw [ha] at hd; cases hd
    | some x => rw [ha] at hd; rw [h.val ha]; exact hd
  | scal a =>
    simp only [Proofs.YtnklncinjahckaaGreatDoor.denX] at hd ⊢
    cases ha : a.val E with
    | none => rw [ha] at hd; cases hd
    | some x => rw [ha] at hd; rw [h.val ha]; exact hd
  | inr sz a i =>
    simp only [Proofs.YtnklncinjahckaaGreatDoor.denX] at hd ⊢
    cases ha : a.val E with
    | none => rw [ha] at hd; cases hd
    | some x =>
      cases hb : asI (i.val E) with
      | none => rw [ha, hb] at hd; cases x <;> cases hd
      | some y => rw [ha, hb] at hd; rw [h.val ha, h.asIM hb]; exact hd
  | idx a i j =>
    simp only [Proofs.YtnklncinjahckaaGreatDoor.denX] at hd ⊢
    cases ha : a.val E with
    | none => rw [ha] at hd; cases hd
    | some x =>
      cases hb : asI (i.val E) with
      | none => rw [ha, hb] at hd; cases x <;> cases hd
      | some y => rw [ha, hb] at hd; rw [h.val ha, h.asIM hb]; exact hd
  | sub sz a lo hi =>
    simp only [Proofs.YtnklncinjahckaaGreatDoor.denX] at hd ⊢
    cases ha : a.val E with
    | none => rw [ha] at hd; cases hd
    | some x =>
      rw [ha] at hd; rw [h.val ha]
      cases x with
      | l z xs =>
        simp only [Option.bind_eq_bind, Option.bind_eq_some_iff] at hd ⊢
        obtain ⟨l, h1, hh, h2, h3⟩ := hd
        exact ⟨l, h.bndIM h1, hh, h.bndIM h2, h3⟩
      | _ => cases hd
  | mk sz rows =>
    simp only [Proofs.YtnklncinjahckaaGreatDoor.denX, Option.bind_eq_bind, Option.bind_eq_some_iff] at hd ⊢
    obtain ⟨r, h1, h2⟩ := hd
    exact ⟨r, h.valssM h1, h2⟩
  | app sz a b =>
    simp only [Proofs.YtnklncinjahckaaGreatDoor.denX] at hd ⊢
    cases ha : a.val E with
    | none => rw [ha] at hd; cases hd
    | some x =>
      cases hb : b.val E with
      | none => rw [ha, hb] at hd; cases x <;> cases hd
      | some y => rw [ha, hb] at hd; rw [h.val ha, h.val hb]; exact hd
  | set a i j vs =>
    simp only [Proofs.YtnklncinjahckaaGreatDoor.denX] at hd ⊢
    cases ha : a.val E with
    | none => rw [ha] at hd; cases hd
    | some x =>
      cases hb : asI (i.val E) with
      | none => rw [ha, hb] at hd; cases x <;> cases hd
      | some y =>
        cases hc : vals E vs with
        | none => rw [ha, hb, hc] at hd; cases x <;> cases hd
        | some z => rw [ha, hb, hc] at hd; rw [h.val ha, h.asIM hb, h.valsM hc]; exact hd
  | ite c a b =>
    simp only [Proofs.YtnklncinjahckaaGreatDoor.denX] at hd ⊢
    cases hc : c.val E with
    | none => rw [hc] at hd; cases hd
    | some x =>
      rw [hc] at hd; rw [h.val hc]
      cases x with
      | b x =>
        cases x
        · exact h.val hd
        · exact h.val hd
      | _ => cases hd
  | call ci args j =>
    simp only [Proofs.YtnklncinjahckaaGreatDoor.denX, Option.bind_eq_bind, Option.bind_eq_some_iff] at hd ⊢
    obtain ⟨ds, h1, h2⟩ := hd
    exact ⟨ds, h.valsM h1, h2⟩
  | sel as0 i =>
    simp only [Proofs.YtnklncinjahckaaGreatDoor.denX] at hd ⊢
    cases hb : asI (i.val E) with
    | none => rw [hb] at hd; cases hd
    | some y =>
      cases hc : vals E as0 with
      | none => rw [hb, hc] at hd; cases hd
      | some z => rw [hb, hc] at hd; rw [h.asIM hb, h.valsM hc]; exact hd
  | ssub a lo hi =>
    simp only [Proofs.YtnklncinjahckaaGreatDoor.denX] at hd ⊢
    cases ha : a.val E with
    | none => rw [ha] at hd; cases hd
    | some x =>
      rw [ha] at hd; rw [h.val ha]
      cases x with
      | s xs =>
        simp only [Option.bind_eq_bind, Option.bind_eq_some_iff] at hd ⊢
        obtain ⟨l, h1, hh, h2, h3⟩ := hd
        exact ⟨l, h.bndIM h1, hh, h.bndIM h2, h3⟩
      | _ => cases hd
  | mkz sz z a =>
    simp only [Proofs.YtnklncinjahckaaGreatDoor.denX] at hd ⊢
    cases hb : asI (a.val E) with
    | none => rw [hb] at hd; cases hd
    | some y => rw [hb] at hd; rw [h.asIM hb]; exact hd
  | mget z a ka j =>
    simp only [Proofs.YtnklncinjahckaaGreatDoor.denX] at hd ⊢
    cases ha : a.val E with
    | none => rw [ha] at hd; cases hd
    | some x =>
      cases hb : asI (ka.val E) with
      | none => rw [ha, hb] at hd; cases x <;> cases hd
      | some y => rw [ha, hb] at hd; rw [h.val ha, h.asIM hb]; exact hd
  | mhas a ka =>
    simp only [Proofs.YtnklncinjahckaaGreatDoor.denX] at hd ⊢
    cases ha : a.val E with
    | none => rw [ha] at hd; cases hd
    | some x =>
      cases hb : asI (ka.val E) with
      | none => rw [ha, hb] at hd; cases x <;> cases hd
      | some y => rw [ha, hb] at hd; rw [h.val ha, h.asIM hb]; exact hd
  | mput vs a ka ats =>
    simp only [Proofs.YtnklncinjahckaaGreatDoor.denX] at hd ⊢
    cases ha : a.val E with
    | none => rw [ha] at hd; cases hd
    | some x =>
      cases hb : asI (ka.val E) with
      | none => rw [ha, hb] at hd; cases x <;> cases hd
      | some y =>
        cases hc : vals E ats with
        | none => rw [ha, hb, hc] at hd; cases x <;> cases hd
        | some z => rw [ha, hb, hc] at hd; rw [h.val ha, h.asIM hb, h.valsM hc]; exact hd
  | mn a b =>
    simp only [Proofs.YtnklncinjahckaaGreatDoor.denX] at hd ⊢
    cases ha : a.val E with
    | none => rw [ha] at hd; cases hd
    | some x =>
      cases hb : b.val E with
      | none => rw [ha, hb] at hd; cases x <;> cases hd
      | some y => rw [ha, hb] at hd; rw [h.val ha, h.val hb]; exact hd
theorem Pre.facts {sp : Nat → Spec} {E E' : Env} (h : Pre E E') {n : Nat} {e : Eff} (hf : Facts sp E n e) : Facts sp E' n e :=
  ⟨fun j x hx => let ⟨d, h1, h2⟩ := hf.1 j x hx; ⟨d, h.denXM h1, h.get h2⟩, fun x hx => h.denXM (hf.2 x hx)⟩
theorem Pre.kn {E E' : Env} (h : Pre E E') {kn : List (Nat × Bool)} (hk : KnOk E kn) : KnOk E' kn := fun v b hm => h.get (hk v b hm)
theorem Pre.gd {E E' : Env} (h : Pre E E') {ops : List Oper} {τ : List SV} {o : Oper} {w : Bool} (hg : gdIs E ops τ o w) : gdIs E' ops τ o w := by
  unfold gdIs at hg ⊢
  split at hg
  · exact hg
  · obtain ⟨d, sv, h1, h2, h3⟩ := hg
    refine ⟨d, sv, h1, h2, h3.imp id ?_⟩
    rintro ⟨x, b, g1, g2, g3⟩
    exact ⟨x, b, g1, h.val g2, g3⟩
section
variable {P : Program} {w0 W : World} {F0 : Bk} {E E' : Env} {τ τ' : List SV} {ω ω' : List (Option Ob)} {a : Act} {ρ : Nat → Value} {cx : Cx} {o : Oper} {e : Eff} {sp : Nat → Spec} {n nt kb : Nat} {kn : List (Nat × Bool)} {Q : Exit → Act → World → Prop}
theorem denXs_ok {E : Env} : ∀ {xs : List X} {ds : List Dt}, denXs sp E xs = some ds → ds.length = xs.length ∧ ∀ (j : Nat) (x : X), xs[j]? = some x → ∃ d, denX sp E x = some d ∧ ds[j]? = some d
  | [], ds, h => by
    simp only [denXs, Option.some.injEq] at h
    subst h
    exact ⟨rfl, by simp⟩
  | x :: xs, ds, h => by
    simp only [denXs, Option.bind_eq_bind, Option.bind_eq_some_iff, Option.pure_def, Option.some.injEq] at h
    obtain ⟨d, h1, ds', h2, rfl⟩ := h
    obtain ⟨k1, k2⟩ := denXs_ok h2
    refine ⟨by simp [k1], fun j y hy => ?_⟩
    cases j with
    | zero => simp only [List.getElem?_cons_zero, Option.some.injEq] at hy; subst hy; exact ⟨d, h1, rfl⟩
    | succ j => exact k2 j y (by simpa using hy)
theorem holdXs_ok {E : Env} : ∀ {xs : List X}, holdXs sp E xs = true → ∀ x ∈ xs, denX sp E x = some (.b true)
  | [], _, x, hx => by cases hx
  | y :: xs, h, x, hx => by
    unfold holdXs at h
    split at h
    · rename_i hy
      rcases List.mem_cons.1 hx with rfl | hx
      · exact hy
      · exact holdXs_ok h x hx
    · cases h
theorem lets_ok {N : Nat} {e : Eff} {t : T} {ks : List (List Dt → Option (List Dt))} {res : List Dt} (h : den sp N (letsT e t) E ks = some res) : ∃ ds : List Dt, ds.length = e.xs.length ∧ den sp N t (E ++ ds) ks = some res ∧ Facts sp (E ++ ds) E.length e := by
  have key : den sp N (.lets e.xs e.ck t) E ks = some res → ∃ ds : List Dt, ds.length = e.xs.length ∧ den sp N t (E ++ ds) ks = some res ∧ Facts sp (E ++ ds) E.length e := by
    intro h
    simp only [den] at h
    split at h
    · rename_i ds hds
      split at h
      · rename_i hck
        obtain ⟨k1, k2⟩ := denXs_ok hds
        have hp : Pre E (E ++ ds) := ⟨ds, rfl⟩
        refine ⟨ds, k1, h, fun j x hx => ?_, holdXs_ok hck⟩
        obtain ⟨d, h1, h2⟩ := k2 j x hx
        refine ⟨d, hp.denXM h1, ?_⟩
        rw [List.getElem?_append_right (by omega), show E.length + j - E.length = j by omega]
        exact h2
      · cases h
    · cases h
  unfold letsT at h
  split at h
  · rename_i h1 h2
    exact ⟨[], by rw [h1]; rfl, by simpa using h, by rw [h1]; intro j x hx; simp at hx, by rw [h2]; intro x hx; cases hx⟩
  · exact key h
theorem guardOf_ok {ops : List Oper} {s : St} {o : Oper} (hk : KnOk E s.kn) : (guardOf ops s o = .yes → gdIs E ops s.τ o true) ∧ (guardOf ops s o = .no → gdIs E ops s.τ o false) ∧
    ∀ v, guardOf ops s o = .ask v → ∃ j w, o.guard = some (j, w) ∧ ∀ b, E[v]? = some (.b b) → gdIs E ops s.τ o (b == w) := by
  unfold guardOf gdIs
  cases hg : o.guard with
  | none => simp
  | some p =>
    obtain ⟨j, w⟩ := p
    simp only
    cases hd : (ops[j]?).bind (·.dst) with
    | none => simp
    | some d =>
      simp only
      cases hs : s.τ[d]? with
      | none => simp
      | some sv =>
        cases sv with
        | one c =>
          cases c with
          | und =>
            refine ⟨by simp, fun _ => ⟨d, _, rfl, hs, .inl ⟨rfl, by first | rfl | trivial⟩⟩, by simp⟩
          | «at» x =>
            simp only
            cases hb : evB s.kn x with
            | some b =>
              have hx := evB_ok hk hb
              simp only
              refine ⟨fun h => ?_, fun h => ?_, fun v h => ?_⟩
              · split at h
                · rename_i hbw; exact ⟨d, _, rfl, hs, .inr ⟨x, b, rfl, hx, by rw [hbw]; simp⟩⟩
                · cases h
              · split at h
                · cases h
                · rename_i hbw; exact ⟨d, _, rfl, hs, .inr ⟨x, b, rfl, hx, by simp [hbw]⟩⟩
              · split at h <;> cases h
            | none =>
              cases x with
              | v v' =>
                simp only
                refine ⟨by simp, by simp, fun v h => ?_⟩
                injection h with h
                subst h
                exact ⟨j, w, rfl, fun b hb => ⟨d, _, rfl, hs, .inr ⟨.v v', b, rfl, hb, rfl⟩⟩⟩
              | c l => simp
          | _ => simp
        | _ => simp
theorem regRun_path {N : Nat} {res : List Dt} {ks : List (List Dt → Option (List Dt))} {ops : List Oper} {k : St → List Rec → Option T} : ∀ {todo : List Oper} {s : St} {rs0 : List Rec} {t : T} {E : Env}, regRun cx nt ops todo s rs0 k = some t → den sp N t E ks = some res → E.length = s.n → KnOk E s.kn →
    ∃ E' s' rs t', k s' (rs0 ++ rs) = some t' ∧ den sp N t' E' ks = some res ∧ Pre E E' ∧ E'.length = s'.n ∧ KnOk E' s'.kn ∧ s'.lvl = s.lvl ∧ s'.kb = s.kb ∧ s'.σ = s.σ ∧ Tr cx s.kb nt ops sp E' todo s.τ s.ω rs ∧ (s'.τ, s'.ω) = wr s.τ s.ω (selW (fun _ => true) 0 rs)
  | [], s, rs0, t, E, hr, hd, hn, hk => ⟨E, s, [], t, by simpa [regRun] using hr, hd, Pre.refl _, hn, hk, rfl, rfl, rfl, .nil, rfl⟩
  | o :: rest, s, rs0, t, E, hr, hd, hn, hk => by
    have shift : ∀ (rs : List Rec) (j : Nat), selW (fun _ => true) j rs = selW (fun _ => true) 0 rs := by
      intro rs
      induction rs with
      | nil => intro j; rfl
      | cons r rs ih => intro j; simp only [selW, if_true]; rw [ih (j + 1), ih (0 + 1)]
    have doit : ∀ (s1 : St) (t1 : T), s1.τ = s.τ → s1.ω = s.ω → s1.n = s.n → s1.lvl = s.lvl → s1.kb = s.kb → s1.σ = s.σ → KnOk E s1.kn → gdIs E ops s.τ o true → regDo cx nt ops o s1 (fun s r => regRun cx nt ops rest s (rs0 ++ [r]) k) = some t1 → den sp N t1 E ks = some res →
        ∃ E' s' rs t', k s' (rs0 ++ rs) = some t' ∧ den sp N t' E' ks = some res ∧ Pre E E' ∧ E'.length = s'.n ∧ KnOk E' s'.kn ∧ s'.lvl = s.lvl ∧ s'.kb = s.kb ∧ s'.σ = s.σ ∧ Tr cx s.kb nt ops sp E' (o :: rest) s.τ s.ω rs ∧ (s'.τ, s'.ω) = wr s.τ s.ω (selW (fun _ => true) 0 rs) := by
      intro s1 t1 e1 e2 e3 e4 e5 e6 hk1 hg hdo hd1
      unfold regDo at hdo
      simp only at hdo
      split at hdo
      · cases hdo
      · rename_i eff hrun
        split at hdo
        · cases hdo
        · rename_i t2 ht2
          injection hdo with hdo
          subst hdo
          obtain ⟨ds, l1, l2, l3⟩ := lets_ok hd1
          have hp : Pre E (E ++ ds) := ⟨ds, rfl⟩
          obtain ⟨E', s', rs, t', h1, h2, h3, h4, h5, h6, hkb, hσ, h7, h8⟩ := regRun_path ht2 l2 (by simp [l1, hn, e3]) (hp.kn hk1)
          simp only at h6 hkb hσ h7 h8
          rw [e1, e2, e5] at h7
          rw [e1, e2] at h8 hrun
          rw [e5] at hrun
          refine ⟨E', s', _ :: rs, t', by simpa using h1, h2, hp.trans h3, h4, h5, h6.trans e4, hkb.trans e5, hσ.trans e6, .cons (r := ⟨o, s1.n, s1.kn, true, eff, guardLog ops o ++ (stepOp cx s1.kb s1.n nt s1.kn o).log s1.τ s1.ω⟩) ?_ h7, ?_⟩
          · refine ⟨(hp.trans h3).gd hg, fun l hl => by simp [hl], fun _ => ⟨(hp.trans h3).kn hk1, hrun, ?_, fun l hl => by simp only [e1, e2, e5, List.mem_append]; exact .inr hl⟩, fun h => by cases h⟩
            have := h3.facts l3
            rw [hn, ← e3] at this
            exact this
          · simp only [selW, if_true, wr_append]
            rw [shift rs (0 + 1)]
            exact h8
    have skipit : ∀ (s1 : St) (t1 : T), s1.τ = s.τ → s1.ω = s.ω → s1.n = s.n → s1.lvl = s.lvl → s1.kb = s.kb → s1.σ = s.σ → KnOk E s1.kn → gdIs E ops s.τ o false → regSkip ops o s1 (fun s r => regRun cx nt ops rest s (rs0 ++ [r]) k) = some t1 → den sp N t1 E ks = some res →
        ∃ E' s' rs t', k s' (rs0 ++ rs) = some t' ∧ den sp N t' E' ks = some res ∧ Pre E E' ∧ E'.length = s'.n ∧ KnOk E' s'.kn ∧ s'.lvl = s.lvl ∧ s'.kb = s.kb ∧ s'.σ = s.σ ∧ Tr cx s.kb nt ops sp E' (o :: rest) s.τ s.ω rs ∧ (s'.τ, s'.ω) = wr s.τ s.ω (selW (fun _ => true) 0 rs) := by
      intro s1 t1 e1 e2 e3 e4 e5 e6 hk1 hg hdo hd1
      unfold regSkip at hdo
      simp only at hdo
      obtain ⟨E', s', rs, t', h1, h2, h3, h4, h5, h6, hkb, hσ, h7, h8⟩ := regRun_path hdo hd1 (by simp [hn, e3]) hk1
      simp only at h6 hkb hσ h7 h8
      rw [e1, e2, e5] at h7
      rw [e1, e2] at h8
      refine ⟨E', s', _ :: rs, t', by simpa using h1, h2, h3, h4, h5, h6.trans e4, hkb.trans e5, hσ.trans e6, .cons (r := ⟨o, s1.n, s1.kn, false, ⟨[], [], dstW o (.one .und)⟩, guardLog ops o⟩) ?_ h7, ?_⟩
      · exact ⟨h3.gd hg, fun l hl => hl, (fun h => by cases h), fun _ => rfl⟩
      · simp only [selW, if_true, wr_append]
        rw [shift rs (0 + 1)]
        exact h8
    obtain ⟨g1, g2, g3⟩ := guardOf_ok (ops := ops) (o := o) hk
    unfold regRun at hr
    split at hr
    · rename_i hg; exact doit s t rfl rfl rfl rfl rfl rfl hk (g1 hg) hr hd
    · rename_i hg; exact skipit s t rfl rfl rfl rfl rfl rfl hk (g2 hg) hr hd
    · rename_i v hg
      obtain ⟨j, w, hgd, g4⟩ := g3 v hg
      rw [hgd] at hr
      simp only at hr
      split at hr
      · rename_i t1 e1 ht1 he1
        injection hr with hr
        have learnOk : ∀ b, E[v]? = some (.b b) → KnOk E (learn s v b).kn := by
          intro b hb v' b' hm
          rcases List.mem_cons.1 hm with h | h
          · injection h with h1 h2; subst h1; subst h2; exact hb
          · exact hk v' b' h
        cases w with
        | true =>
          simp only [if_true] at hr
          subst hr
          simp only [den] at hd
          split at hd
          · rename_i b hb
            have hb' : E[v]? = some (.b b) := hb
            cases b with
            | true => simp only [if_true] at hd; exact doit (learn s v true) t1 rfl rfl rfl rfl rfl rfl (learnOk true hb') (g4 true hb') ht1 hd
            | false => simp only [Bool.false_eq_true, if_false] at hd; exact skipit (learn s v false) e1 rfl rfl rfl rfl rfl rfl (learnOk false hb') (g4 false hb') he1 hd
          · cases hd
        | false =>
          simp only [Bool.false_eq_true, if_false] at hr
          subst hr
          simp only [den] at hd
          split at hd
          · rename_i b hb
            have hb' : E[v]? = some (.b b) := hb
            cases b with
            | true => simp only [if_true] at hd; exact skipit (learn s v true) e1 rfl rfl rfl rfl rfl rfl (learnOk true hb') (g4 true hb') he1 hd
            | false => simp only [Bool.false_eq_true, if_false] at hd; exact doit (learn s v false) t1 rfl rfl rfl rfl rfl rfl (learnOk false hb') (g4 false hb') ht1 hd
          · cases hd
      · cases hr
    · cases hr
end
end Go.Proofs.YtnklncinjahckaaGreatDoor
namespace Go.Proofs.YtnklncinjahckaaGreatDoor
open Go.RowKit
set_option linter.unusedVariables false
set_option linter.unusedSimpArgs false
section
variable {P : Program} {w0 W : World} {F0 : Bk} {E E' : Env} {τ τ' : List SV} {ω ω' : List (Option Ob)} {a : Act} {ρ ρ' : Nat → Value} {c c' : Ctx}
structure Ctx.LeX (k : Nat) (c c' : Ctx) : Prop where
  agree : Agree c.F c.W c'.W
  more : ∀ b, c.F b → c'.F b
  env : ∀ a d, Atom.val c.E a = some d → Atom.val c'.E a = some d
  live : ∀ j, j ≠ k → c.L j → c'.L j ∧ c'.ρ j = c.ρ j
theorem CapR.skip {k : Nat} (h : c.LeX k c') {p : Nat × Nat} {v : Value} (hx : (p.1 == k) = false) (hr : CapR c p v) : CapR c' p v := by
  obtain ⟨h1, g, o, h2, h3⟩ := hr
  have := h.live _ (by simpa using hx) h1
  exact ⟨this.1, g, o, by rw [this.2]; exact h2, h3⟩
theorem CapRs.skip {k : Nat} (h : c.LeX k c') : ∀ {ps : List (Nat × Nat)} {vs : List Value}, (ps.any fun p => p.1 == k) = false → CapRs c ps vs → CapRs c' ps vs
  | [], [], _, _ => trivial
  | p :: ps, v :: vs, hx, hr => by
    simp only [List.any_cons, Bool.or_eq_false_iff] at hx
    exact ⟨hr.1.skip h hx.1, CapRs.skip h hx.2 hr.2⟩
theorem C1R.skip {k : Nat} (h : c.LeX k c') {x : C1} {v : Value} (hx : x.refs k = false) (hr : C1R c x v) : C1R c' x v := by
  cases x with
  | top => trivial
  | und => exact hr
  | «at» a => exact C1R.of_at (fun z e => by subst e; exact hr) (let ⟨d, h1, h2⟩ := hr.at_; ⟨d, h.env a d h1, h2.mono h.agree h.more⟩)
  | bp j off => exact CapR.skip h hx hr
  | ep a i off =>
    obtain ⟨sz, xs, n, b, o, x, vs, h1, h2, h3, h4, h5, h6, h7, h8⟩ := hr
    refine ⟨sz, xs, n, b, o, x, vs, h.env a _ h1, ?_, h3, h4, h5, h6, h.more _ h7, fun j d hd => ⟨(h.agree.cell (p := ⟨b, _, none⟩) h7).trans (h8 j d hd).1, (h8 j d hd).2.mono h.agree h.more⟩⟩
    rw [h.env i _ (asI_some h2)]; rfl
  | row j =>
    have := h.live j (by simpa [C1.refs] using hx) hr.1
    exact ⟨this.1, hr.2.1.trans this.2.symm, hr.2.2⟩
  | rp j i sz off =>
    obtain ⟨h1, n, g, len, cap, h2, h3, h4, h5, h6⟩ := hr
    have := h.live j (by simpa [C1.refs] using hx) h1
    exact ⟨this.1, n, g, len, cap, by rw [h.env i _ (asI_some h2)]; rfl, h3, h4, by rw [this.2]; exact h5, h6⟩
  | fn f caps => exact let ⟨vs, h1, h2⟩ := hr; ⟨vs, h1, h2.skip h hx⟩
theorem C1Rs.skip {k : Nat} (h : c.LeX k c') : ∀ {xs : List C1} {vs : List Value}, xs.any (C1.refs k) = false → C1Rs c xs vs → C1Rs c' xs vs
  | [], [], _, _ => trivial
  | x :: xs, v :: vs, hx, hr => by
    simp only [List.any_cons, Bool.or_eq_false_iff] at hx
    exact ⟨hr.1.skip h hx.1, C1Rs.skip h hx.2 hr.2⟩
theorem SVR.skip {k : Nat} (h : c.LeX k c') {x : SV} {v : Value} (hx : x.refs k = false) (hr : SVR c x v) : SVR c' x v := by
  cases x with
  | one x => exact C1R.skip h hx hr
  | agg cs => exact let ⟨us, h1, h2⟩ := hr; ⟨us, h1, h2.skip h hx⟩
  | tup ps =>
    obtain ⟨us, h1, h2⟩ := hr
    refine ⟨us, h1, ?_⟩
    have key : ∀ {ps : List (Bool × List C1)} {us : List Value}, (ps.any fun p => p.2.any (C1.refs k)) = false → PRs c ps us → PRs c' ps us := by
      intro ps
      induction ps with
      | nil => intro us _ h; cases us with
        | nil => trivial
        | cons _ _ => exact absurd h id
      | cons p ps ih => intro us hx hr; cases us with
        | nil => exact absurd hr id
        | cons u us =>
          simp only [List.any_cons, Bool.or_eq_false_iff] at hx
          refine ⟨?_, ih hx.2 hr.2⟩
          have h1 := hr.1
          unfold PR at h1 ⊢
          split at h1
          · rename_i hp; obtain ⟨vs, g1, g2⟩ := h1; rw [if_pos hp]; exact ⟨vs, g1, g2.skip h hx.1⟩
          · rename_i hp
            obtain ⟨x, g1, g2⟩ := h1
            rw [if_neg hp]
            have hx1 := hx.1
            rw [g1] at hx1
            simp only [List.any_cons, List.any_nil, Bool.or_false] at hx1
            exact ⟨x, g1, g2.skip h hx1⟩
    exact key hx h2
theorem ObR.key {k i base : Nat} (h : c.LeX k c') (hW : c'.W = c.W) {o : Ob} (hx : o.refs k = false) (hρ : c'.ρ i = c.ρ k) (hr : ObR c base k o) : ObR c' base i o := by
  cases o with
  | box t cs =>
    obtain ⟨g, vs, h1, h2, h3, h4⟩ := hr
    exact ⟨g, vs, by rw [hρ]; exact h1, h2, by rw [hW]; exact h3, h4.skip h hx⟩
  | ext cs =>
    obtain ⟨g, o, vs, h1, h2, h3, h4⟩ := hr
    exact ⟨g, o, vs, by rw [hρ]; exact h1, h.more _ h2, by rw [hW]; exact h3, h4.skip h hx⟩
  | row e sz a =>
    obtain ⟨xs, vs, h1, h2, h3, h4⟩ := hr
    exact ⟨xs, vs, h.env _ _ h1, h2, by rw [hρ, hW]; exact h3, h4.mono h.agree h.more⟩
  | frz a =>
    obtain ⟨d, h1, h2⟩ := hr
    exact ⟨d, h.env _ _ h1, by rw [hρ]; exact h2.mono h.agree h.more⟩
  | dead => trivial
  | gone a =>
    obtain ⟨sz, xs, A, cap, h1, h2, h3⟩ := hr
    exact ⟨sz, xs, A, cap, h.env _ _ h1, by rw [hρ]; exact h2, h3⟩
  | map t vs q a =>
    obtain ⟨b, rows, es, clock, h1, h2, h3, h4, h5⟩ := hr
    exact ⟨b, rows, es, clock, by rw [hρ]; exact h1, h2, by rw [hW]; exact h3, h.env _ _ h4, h5.mono h.agree h.more⟩
theorem ObR.skip {k j base : Nat} (h : c.LeX k c') (hW : c'.W = c.W) {o : Ob} (hx : o.refs k = false) (hj : j ≠ k) (hl : c.L j) (hr : ObR c base j o) : ObR c' base j o := by
  have hρ := (h.live j hj hl).2
  cases o with
  | box t cs =>
    obtain ⟨g, vs, h1, h2, h3, h4⟩ := hr
    exact ⟨g, vs, by rw [hρ]; exact h1, h2, by rw [hW]; exact h3, h4.skip h hx⟩
  | ext cs =>
    obtain ⟨g, o, vs, h1, h2, h3, h4⟩ := hr
    exact ⟨g, o, vs, by rw [hρ]; exact h1, h.more _ h2, by rw [hW]; exact h3, h4.skip h hx⟩
  | row e sz a =>
    obtain ⟨xs, vs, h1, h2, h3, h4⟩ := hr
    exact ⟨xs, vs, h.env _ _ h1, h2, by rw [hρ, hW]; exact h3, h4.mono h.agree h.more⟩
  | frz a =>
    obtain ⟨d, h1, h2⟩ := hr
    exact ⟨d, h.env _ _ h1, by rw [hρ]; exact h2.mono h.agree h.more⟩
  | dead => trivial
  | gone a =>
    obtain ⟨sz, xs, A, cap, h1, h2, h3⟩ := hr
    exact ⟨sz, xs, A, cap, h.env _ _ h1, by rw [hρ]; exact h2, h3⟩
  | map t vs q a =>
    obtain ⟨b, rows, es, clock, h1, h2, h3, h4, h5⟩ := hr
    exact ⟨b, rows, es, clock, by rw [hρ]; exact h1, h2, by rw [hW]; exact h3, h.env _ _ h4, h5.mono h.agree h.more⟩
theorem Sim.top (h : Sim w0 F0 E τ ω a W ρ) (i : Nat) : Sim w0 F0 E (τ.set i (.one .top)) ω a W ρ := by
  refine ⟨h.below, h.low, h.held, h.defers, by simpa using h.size, fun t sv ht => ?_, h.objs, h.dj⟩
  rw [List.getElem?_set] at ht
  split at ht
  · split at ht
    · injection ht with ht; subst ht; trivial
    · cases ht
  · exact h.tmps t sv ht
theorem Sim.set1 (h : Sim w0 F0 E τ ω a W ρ) (i : Nat) {sv : SV} (hr : ∀ x, τ[i]? = some x → SVR (ctx w0 F0 E ω ρ W) sv (a.tmps.getD i undef)) : Sim w0 F0 E (τ.set i sv) ω a W ρ := by
  refine ⟨h.below, h.low, h.held, h.defers, by simpa using h.size, fun t sv' ht => ?_, h.objs, h.dj⟩
  rw [List.getElem?_set] at ht
  split at ht
  · rename_i e
    subst e
    split at ht
    · rename_i hlt
      injection ht with ht; subst ht
      exact hr _ (List.getElem?_eq_getElem hlt)
    · cases ht
  · exact h.tmps t sv' ht
theorem noRef_ok {k : Nat} {σ : List SV} (h : noRef k τ ω σ = true) : (∀ (t : Nat) (sv : SV), τ[t]? = some sv → sv.refs k = false) ∧ (∀ (j : Nat) (o : Ob), ω[j]? = some (some o) → o.refs k = false) ∧ σ.any (SV.refs k) = false := by
  simp only [noRef, Bool.and_eq_true, Bool.not_eq_true', List.any_eq_false, Bool.not_eq_true] at h
  refine ⟨fun t sv ht => h.1.1 sv (List.mem_of_getElem? ht), fun j o ho => ?_, ?_⟩
  · have := h.1.2 (some o) (List.mem_of_getElem? ho)
    exact this
  · rw [List.any_eq_false]
    intro x hx
    simpa using h.2 x hx
theorem SVRs.skip {k : Nat} (h : c.LeX k c') : ∀ {xs : List SV} {vs : List Value}, xs.any (SV.refs k) = false → SVRs c xs vs → SVRs c' xs vs
  | [], [], _, _ => trivial
  | x :: xs, v :: vs, hx, hr => by
    simp only [List.any_cons, Bool.or_eq_false_iff] at hx
    exact ⟨hr.1.skip h hx.1, SVRs.skip h hx.2 hr.2⟩
theorem Sim.drop (h : Sim w0 F0 E τ ω a W ρ) {k : Nat} (hn : noRef k τ ω F0.σ = true) : Sim w0 F0 E τ (ω.set k none) a W ρ := by
  obtain ⟨n1, n2, n3⟩ := noRef_ok hn
  have hget : ∀ j o, (ω.set k none)[j]? = some (some o) → j ≠ k ∧ ω[j]? = some (some o) := by
    intro j o hj
    by_cases e : k = j
    · subst e
      rw [List.getElem?_set] at hj
      simp only [if_true] at hj
      split at hj <;> simp at hj
    · rw [List.getElem?_set_ne e] at hj; exact ⟨Ne.symm e, hj⟩
  have hle : (ctx w0 F0 E ω ρ W).LeX k (ctx w0 F0 E (ω.set k none) ρ W) := by
    refine ⟨fun _ _ => rfl, fun b hb => ⟨hb.1, ?_⟩, fun _ _ x => x, fun j hj ⟨o, ho⟩ => ⟨⟨o, by rw [List.getElem?_set_ne (Ne.symm hj)]; exact ho⟩, rfl⟩⟩
    rintro ⟨j, o, h1, h2⟩
    exact hb.2 ⟨j, o, (hget j o h1).2, h2⟩
  refine ⟨h.below, h.low, h.held.skip hle n3, h.defers, h.size, fun t sv ht => (h.tmps t sv ht).skip hle (n1 t sv ht), fun j o ho => ?_, fun j j' o o' g h1 h2 h3 h4 => h.dj j j' o o' g (hget j o h1).2 (hget j' o' h2).2 h3 h4⟩
  obtain ⟨g1, g2⟩ := hget j o ho
  exact (h.objs j o g2).skip hle rfl (n2 j o g2) g1 ⟨o, g2⟩
structure Ctx.LeR (k i : Nat) (c c' : Ctx) : Prop where
  agree : Agree c.F c.W c'.W
  more : ∀ b, c.F b → c'.F b
  env : ∀ a d, Atom.val c.E a = some d → Atom.val c'.E a = some d
  live : ∀ j, c.L j → c'.L (if j = k then i else j) ∧ c'.ρ (if j = k then i else j) = c.ρ j
theorem CapR.ren {k i : Nat} (h : c.LeR k i c') {p : Nat × Nat} {v : Value} (hr : CapR c p v) : CapR c' (if p.1 = k then i else p.1, p.2) v := by
  obtain ⟨h1, g, o, h2, h3⟩ := hr
  have := h.live _ h1
  exact ⟨this.1, g, o, by rw [this.2]; exact h2, h3⟩
theorem CapRs.ren {k i : Nat} (h : c.LeR k i c') : ∀ {ps : List (Nat × Nat)} {vs : List Value}, CapRs c ps vs → CapRs c' (ps.map fun p => (if p.1 = k then i else p.1, p.2)) vs
  | [], [], _ => trivial
  | _ :: _, _ :: _, hr => ⟨hr.1.ren h, CapRs.ren h hr.2⟩
theorem C1R.ren {k i : Nat} (h : c.LeR k i c') {x : C1} {v : Value} (hr : C1R c x v) : C1R c' (x.ren k i) v := by
  cases x with
  | top => trivial
  | und => exact hr
  | «at» a => exact C1R.of_at (fun z e => by subst e; exact hr) (let ⟨d, h1, h2⟩ := hr.at_; ⟨d, h.env a d h1, h2.mono h.agree h.more⟩)
  | bp j off => exact CapR.ren h (p := (j, off)) hr
  | ep a i' off =>
    obtain ⟨sz, xs, n, b, o, x, vs, h1, h2, h3, h4, h5, h6, h7, h8⟩ := hr
    refine ⟨sz, xs, n, b, o, x, vs, h.env a _ h1, ?_, h3, h4, h5, h6, h.more _ h7, fun j d hd => ⟨(h.agree.cell (p := ⟨b, _, none⟩) h7).trans (h8 j d hd).1, (h8 j d hd).2.mono h.agree h.more⟩⟩
    rw [h.env i' _ (asI_some h2)]; rfl
  | row j =>
    have := h.live j hr.1
    exact ⟨this.1, hr.2.1.trans this.2.symm, hr.2.2⟩
  | rp j i' sz off =>
    obtain ⟨h1, n, g, len, cap, h2, h3, h4, h5, h6⟩ := hr
    have := h.live j h1
    exact ⟨this.1, n, g, len, cap, by rw [h.env i' _ (asI_some h2)]; rfl, h3, h4, by rw [this.2]; exact h5, h6⟩
  | fn f caps => exact let ⟨vs, h1, h2⟩ := hr; ⟨vs, h1, h2.ren h⟩
theorem C1Rs.ren {k i : Nat} (h : c.LeR k i c') : ∀ {xs : List C1} {vs : List Value}, C1Rs c xs vs → C1Rs c' (xs.map (C1.ren k i)) vs
  | [], [], _ => trivial
  | _ :: _, _ :: _, hr => ⟨hr.1.ren h, C1Rs.ren h hr.2⟩
theorem SVR.ren {k i : Nat} (h : c.LeR k i c') {x : SV} {v : Value} (hr : SVR c x v) : SVR c' (x.ren k i) v := by
  cases x with
  | one x => exact C1R.ren h hr
  | agg cs => exact let ⟨us, h1, h2⟩ := hr; ⟨us, h1, h2.ren h⟩
  | tup ps =>
    obtain ⟨us, h1, h2⟩ := hr
    refine ⟨us, h1, ?_⟩
    clear h1
    induction ps generalizing us with
    | nil => cases us <;> exact h2
    | cons p ps ih => cases us with
      | nil => exact h2
      | cons u us =>
        refine ⟨?_, ih us h2.2⟩
        have h3 := h2.1
        unfold PR at h3 ⊢
        simp only
        split at h3
        · rename_i hpp; obtain ⟨vs, g1, g2⟩ := h3; rw [if_pos hpp]; exact ⟨vs, g1, g2.ren h⟩
        · rename_i hpp
          obtain ⟨x, g1, g2⟩ := h3
          rw [if_neg hpp, g1]
          exact ⟨x.ren k i, rfl, g2.ren h⟩
theorem SVRs.ren {k i : Nat} (h : c.LeR k i c') : ∀ {xs : List SV} {vs : List Value}, SVRs c xs vs → SVRs c' (xs.map (SV.ren k i)) vs
  | [], [], _ => trivial
  | _ :: _, _ :: _, hr => ⟨hr.1.ren h, SVRs.ren h hr.2⟩
theorem own_ren (k i : Nat) (o : Ob) (v : Value) : own (o.ren k i) v = own o v := by
  cases o with
  | box t cs => cases v with
    | pointer p => cases p <;> rfl
    | _ => rfl
  | map t vs q a => cases v with
    | map p => cases p <;> rfl
    | _ => rfl
  | _ => rfl
theorem ObR.ren {k i base j : Nat} (h : c.LeR k i c') (hW : c'.W = c.W) {o : Ob} (hl : c.L j) (hr : ObR c base j o) : ObR c' base (if j = k then i else j) (o.ren k i) := by
  have hρ := (h.live j hl).2
  cases o with
  | box t cs =>
    obtain ⟨g, vs, h1, h2, h3, h4⟩ := hr
    exact ⟨g, vs, by rw [hρ]; exact h1, h2, by rw [hW]; exact h3, h4.ren h⟩
  | ext cs =>
    obtain ⟨g, o, vs, h1, h2, h3, h4⟩ := hr
    exact ⟨g, o, vs, by rw [hρ]; exact h1, h.more _ h2, by rw [hW]; exact h3, h4.ren h⟩
  | row e sz a =>
    obtain ⟨xs, vs, h1, h2, h3, h4⟩ := hr
    exact ⟨xs, vs, h.env _ _ h1, h2, by rw [hρ, hW]; exact h3, h4.mono h.agree h.more⟩
  | frz a =>
    obtain ⟨d, h1, h2⟩ := hr
    exact ⟨d, h.env _ _ h1, by rw [hρ]; exact h2.mono h.agree h.more⟩
  | dead => trivial
  | gone a =>
    obtain ⟨sz, xs, A, cap, h1, h2, h3⟩ := hr
    exact ⟨sz, xs, A, cap, h.env _ _ h1, by rw [hρ]; exact h2, h3⟩
  | map t vs q a =>
    obtain ⟨b, rows, es, clock, h1, h2, h3, h4, h5⟩ := hr
    exact ⟨b, rows, es, clock, by rw [hρ]; exact h1, h2, by rw [hW]; exact h3, h.env _ _ h4, h5.mono h.agree h.more⟩
theorem Sim.ren (h : Sim w0 F0 E τ ω a W ρ) {k i : Nat} {o : Ob} (hk : ω[k]? = some (some o)) (hi : ω[i]? = some none) :
    Sim w0 ⟨F0.F, F0.σ.map (SV.ren k i), F0.η⟩ E (τ.map (SV.ren k i)) (((ω.set k none).set i (some o)).map (Option.map (Ob.ren k i))) a W (upd ρ i (ρ k)) := by
  have hki : k ≠ i := fun e => by subst e; rw [hk] at hi; cases hi
  have hlt := (List.getElem?_eq_some_iff.1 hi).1
  have hget : ∀ j q, (((ω.set k none).set i (some o)).map (Option.map (Ob.ren k i)))[j]? = some (some q) → ∃ j0 q0, ω[j0]? = some (some q0) ∧ j = (if j0 = k then i else j0) ∧ q = q0.ren k i := by
    intro j q hj
    rw [List.getElem?_map, Option.map_eq_some_iff] at hj
    obtain ⟨q1, hj, hq⟩ := hj
    rw [Option.map_eq_some_iff] at hq
    obtain ⟨q0, rfl, rfl⟩ := hq
    by_cases e : i = j
    · subst e
      rw [List.getElem?_set_self (by simpa using hlt)] at hj
      simp only [Option.some.injEq] at hj
      exact ⟨k, o, hk, by simp, by rw [hj]⟩
    · rw [List.getElem?_set_ne e] at hj
      by_cases e' : k = j
      · subst e'
        rw [List.getElem?_set] at hj
        simp only [if_true] at hj
        split at hj <;> simp at hj
      · rw [List.getElem?_set_ne e'] at hj
        exact ⟨j, q0, hj, by rw [if_neg (Ne.symm e')], rfl⟩
  have hρ : ∀ j, live ω j → upd ρ i (ρ k) (if j = k then i else j) = ρ j := by
    rintro j ⟨q, hq⟩
    by_cases e : j = k
    · rw [if_pos e, upd_self, e]
    · rw [if_neg e]
      exact upd_ne _ _ fun e2 => by subst e2; rw [hi] at hq; cases hq
  have hlive : ∀ j, live ω j → live (((ω.set k none).set i (some o)).map (Option.map (Ob.ren k i))) (if j = k then i else j) := by
    rintro j ⟨q, hq⟩
    by_cases e : j = k
    · rw [if_pos e]
      exact ⟨o.ren k i, by rw [List.getElem?_map, List.getElem?_set_self (by simpa using hlt)]; rfl⟩
    · rw [if_neg e]
      have hji : i ≠ j := fun e2 => by subst e2; rw [hi] at hq; cases hq
      exact ⟨q.ren k i, by rw [List.getElem?_map, List.getElem?_set_ne hji, List.getElem?_set_ne (Ne.symm e), hq]; rfl⟩
  have hown : ∀ b, owned (((ω.set k none).set i (some o)).map (Option.map (Ob.ren k i))) (upd ρ i (ρ k)) b → owned ω ρ b := by
    rintro b ⟨j, q, h1, h2⟩
    obtain ⟨j0, q0, g1, rfl, rfl⟩ := hget j q h1
    rw [hρ j0 ⟨q0, g1⟩, own_ren] at h2
    exact ⟨j0, q0, g1, h2⟩
  have hle : (ctx w0 F0 E ω ρ W).LeR k i (ctx w0 ⟨F0.F, F0.σ.map (SV.ren k i), F0.η⟩ E (((ω.set k none).set i (some o)).map (Option.map (Ob.ren k i))) (upd ρ i (ρ k)) W) :=
    ⟨fun _ _ => rfl, fun b hb => ⟨hb.1, fun hb' => hb.2 (hown b hb')⟩, fun _ _ x => x, fun j hj => ⟨hlive j hj, hρ j hj⟩⟩
  refine ⟨h.below, h.low, h.held.ren hle, h.defers, by simpa using h.size, fun t sv ht => ?_, fun j q hq => ?_, fun j j' q q' g h1 h2 h3 h4 => ?_⟩
  · rw [List.getElem?_map, Option.map_eq_some_iff] at ht
    obtain ⟨sv0, ht, rfl⟩ := ht
    exact (h.tmps t sv0 ht).ren hle
  · obtain ⟨j0, q0, g1, rfl, rfl⟩ := hget j q hq
    exact (h.objs j0 q0 g1).ren hle rfl ⟨q0, g1⟩
  · obtain ⟨j0, q0, g1, rfl, rfl⟩ := hget j q h1
    obtain ⟨j1, q1, g2, rfl, rfl⟩ := hget j' q' h2
    rw [hρ j0 ⟨q0, g1⟩, own_ren] at h3
    rw [hρ j1 ⟨q1, g2⟩, own_ren] at h4
    rw [h.dj j0 j1 q0 q1 g g1 g2 h3 h4]
theorem C1Rs.nil_row {c : Ctx} {key z : Nat} (hl : c.L key) (hρ : c.ρ key = .slice none 0 0) : ∀ {cs : List C1} {vs : List Value} {j : Nat}, cs[j]? = some (.at (.c (.nil z))) → C1Rs c cs vs → C1Rs c (cs.set j (.row key)) vs
  | x :: cs, v :: vs, 0, h, hr => by
    simp only [List.getElem?_cons_zero, Option.some.injEq] at h
    subst h
    have hv : v = .slice none 0 0 := hr.1
    exact ⟨⟨hl, by rw [hρ]; exact hv, by rw [hv]; rfl⟩, hr.2⟩
  | x :: cs, v :: vs, j + 1, h, hr => ⟨hr.1, C1Rs.nil_row hl hρ (by simpa using h) hr.2⟩
  | [], _, j, h, _ => by simp at h
  | _ :: _, [], _, _, hr => absurd hr id
theorem own_box (t : Nat) (cs cs' : List C1) (v : Value) : own (.box t cs) v = own (.box t cs') v := by
  cases v with
  | pointer p => cases p <;> rfl
  | _ => rfl
theorem Sim.redesc (h : Sim w0 F0 E τ ω a W ρ) {k t : Nat} {cs cs' : List C1} (hk : ω[k]? = some (some (.box t cs))) (hc : ∀ vs, C1Rs (ctx w0 F0 E ω ρ W) cs vs → C1Rs (ctx w0 F0 E ω ρ W) cs' vs) : Sim w0 F0 E τ (ω.set k (some (.box t cs'))) a W ρ := by
  have hlt := (List.getElem?_eq_some_iff.1 hk).1
  have hset : ∀ (j : Nat) (q : Ob), (ω.set k (some (.box t cs')))[j]? = some (some q) → ∃ q0 : Ob, ω[j]? = some (some q0) ∧ ∀ v, own q v = own q0 v := by
    intro j q hq
    by_cases e : k = j
    · subst e
      rw [List.getElem?_set_self hlt] at hq
      cases hq
      exact ⟨_, hk, fun v => own_box ..⟩
    · rw [List.getElem?_set_ne e] at hq
      exact ⟨q, hq, fun _ => rfl⟩
  have hlive : ∀ j, live ω j → live (ω.set k (some (.box t cs'))) j := by
    rintro j ⟨q, hq⟩
    by_cases e : k = j
    · subst e
      exact ⟨_, List.getElem?_set_self hlt⟩
    · exact ⟨q, by rw [List.getElem?_set_ne e]; exact hq⟩
  have hle : (ctx w0 F0 E ω ρ W).Le (ctx w0 F0 E (ω.set k (some (.box t cs'))) ρ W) :=
    ⟨fun _ _ => rfl, fun b hb => ⟨hb.1, fun ⟨j, q, h1, h2⟩ => hb.2 (let ⟨q0, g1, g2⟩ := hset j q h1; ⟨j, q0, g1, by rw [← g2]; exact h2⟩)⟩, fun _ _ x => x, fun j hj => ⟨hlive j hj, rfl⟩⟩
  refine ⟨h.below, h.low, h.held.mono hle, h.defers, h.size, fun t' sv ht => (h.tmps t' sv ht).mono hle, fun j q hq => ?_, fun j j' q q' g h1 h2 h3 h4 => ?_⟩
  · by_cases e : k = j
    · subst e
      rw [List.getElem?_set_self hlt] at hq
      cases hq
      obtain ⟨g, vs, h1, h2, h3, h4⟩ := h.objs _ _ hk
      exact ⟨g, vs, h1, h2, h3, (hc vs h4).mono hle⟩
    · rw [List.getElem?_set_ne e] at hq
      exact (h.objs j q hq).mono hle ⟨q, hq⟩ fun _ _ => rfl
  · obtain ⟨q0, g1, g2⟩ := hset j q h1
    obtain ⟨q1, g3, g4⟩ := hset j' q' h2
    rw [g2] at h3
    rw [g4] at h4
    exact h.dj j j' q0 q1 g g1 g3 h3 h4
def SimP (w0 : World) (F : Nat → Prop) (η : List Value) (E : Env) (p : S3) (a : Act) (W : World) : Prop := ∃ ρ, Sim w0 ⟨F, p.2.2, η⟩ E p.1 p.2.1 a W ρ
variable {F : Nat → Prop} {η : List Value} {p : S3}
theorem SimP.renKey (h : SimP w0 F η E p a W) (k i : Nat) : SimP w0 F η E (Proofs.YtnklncinjahckaaGreatDoor.renKey k i p) a W := by
  unfold Proofs.YtnklncinjahckaaGreatDoor.renKey
  split
  · rename_i o hk hi
    split
    · exact h
    · obtain ⟨ρ, h⟩ := h
      exact ⟨_, h.ren hk hi⟩
  · exact h
theorem SimP.rowKey (h : SimP w0 F η E p a W) (kb i e sz : Nat) : SimP w0 F η E (Proofs.YtnklncinjahckaaGreatDoor.rowKey kb i e sz p) a W := by
  unfold Proofs.YtnklncinjahckaaGreatDoor.rowKey
  split
  · rename_i z hτ
    split
    · rename_i hω
      split
      · rename_i hz
        subst hz
        obtain ⟨ρ, h⟩ := h
        have hlt := (List.getElem?_eq_some_iff.1 hω).1
        have hv : a.tmps.getD i undef = .slice none 0 0 := h.tmps i _ hτ
        have hnew := h.new (W' := W) hω (Below.refl _ _) (.row e z (.c (.nil z))) (.slice none 0 0) (fun b hb => by simp only [own, Value.ownBlock] at hb; cases hb) (fun hle => ⟨[], [], rfl, by simp, by
          rw [show (ctx w0 ⟨F, p.2.2, η⟩ E (p.2.1.set (kb + i) (some (.row e z (.c (.nil z))))) (upd ρ (kb + i) (.slice none 0 0)) W).ρ (kb + i) = .slice none 0 0 from upd_self _ _ _]
          exact World.ownsRow_nil _ _ _ _, trivial⟩)
        refine ⟨_, hnew.set1 i fun x hx => ?_⟩
        rw [hv]
        exact ⟨⟨_, List.getElem?_set_self hlt⟩, (upd_self _ _ _).symm, rfl⟩
      · exact h
    · exact h
  · exact h.renKey _ _
  · exact h
theorem SimP.cellKey (h : SimP w0 F η E p a W) (k j key : Nat) : SimP w0 F η E (Proofs.YtnklncinjahckaaGreatDoor.cellKey k j key p) a W := by
  unfold Proofs.YtnklncinjahckaaGreatDoor.cellKey
  split
  · split
    · exact h.renKey _ _
    · exact h
  · exact h
theorem SimP.nilKey (h : SimP w0 F η E p a W) (k j key e sz : Nat) : SimP w0 F η E (Proofs.YtnklncinjahckaaGreatDoor.nilKey k j key e sz p) a W := by
  unfold Proofs.YtnklncinjahckaaGreatDoor.nilKey
  split
  · rename_i t cs hk
    split
    · rename_i z hj
      split
      · rename_i hω
        split
        · rename_i hz
          subst hz
          obtain ⟨ρ, h⟩ := h
          have hlt := (List.getElem?_eq_some_iff.1 hω).1
          have hkk : key ≠ k := fun e => by subst e; rw [hω] at hk; cases hk
          have hnew := h.new (W' := W) hω (Below.refl _ _) (.row e z (.c (.nil z))) (.slice none 0 0) (fun b hb => by simp only [own, Value.ownBlock] at hb; cases hb) (fun hle => ⟨[], [], rfl, by simp, by
            rw [show (ctx w0 ⟨F, p.2.2, η⟩ E (p.2.1.set key (some (.row e z (.c (.nil z))))) (upd ρ key (.slice none 0 0)) W).ρ key = .slice none 0 0 from upd_self _ _ _]
            exact World.ownsRow_nil _ _ _ _, trivial⟩)
          have hL : live (p.2.1.set key (some (.row e z (.c (.nil z))))) key := ⟨_, List.getElem?_set_self hlt⟩
          exact ⟨_, hnew.redesc (t := t) (cs := cs) (by rw [List.getElem?_set_ne hkk]; exact hk) fun vs hr => C1Rs.nil_row (c := ctx w0 ⟨F, p.2.2, η⟩ E (p.2.1.set key (some (.row e z (.c (.nil z))))) (upd ρ key (.slice none 0 0)) W) hL (upd_self ρ key (.slice none 0 0)) hj hr⟩
        · exact h
      · exact h
    · exact h
  · exact h
theorem SimP.rowKeys (kb : Nat) : ∀ (cy : List Cy) {p : S3}, SimP w0 F η E p a W → SimP w0 F η E (Proofs.YtnklncinjahckaaGreatDoor.rowKeys kb p cy) a W
  | [], _, h => h
  | .r i e sz :: cs, _, h => SimP.rowKeys kb cs (h.rowKey kb i e sz)
  | .c k j key :: cs, _, h => SimP.rowKeys kb cs (h.cellKey k j key)
  | .t i :: cs, _, h => SimP.rowKeys kb cs h
  | .o k :: cs, _, h => SimP.rowKeys kb cs h
  | .z k :: cs, _, h => SimP.rowKeys kb cs h
  | .n k j key e sz :: cs, _, h => SimP.rowKeys kb cs (h.nilKey k j key e sz)
theorem SimP.toPool (pool : Nat) : ∀ (ks : List Nat) {p : S3}, SimP w0 F η E p a W → SimP w0 F η E (Proofs.YtnklncinjahckaaGreatDoor.toPool pool p ks) a W
  | [], _, h => h
  | k :: ks, _, h => by
    unfold Proofs.YtnklncinjahckaaGreatDoor.toPool
    split
    · split
      · exact SimP.toPool pool ks (h.renKey _ _)
      · exact SimP.toPool pool ks h
    · exact SimP.toPool pool ks h
theorem Sim.topAll (h : Sim w0 F0 E τ ω a W ρ) : ∀ (is : List Nat), Sim w0 F0 E (Proofs.YtnklncinjahckaaGreatDoor.topAll τ is) ω a W ρ := by
  intro is
  induction is generalizing τ with
  | nil => exact h
  | cons i is ih => exact ih (h.top i)
theorem Sim.dropAll (h : Sim w0 F0 E τ ω a W ρ) : ∀ (ks : List Nat), Sim w0 F0 E τ (Proofs.YtnklncinjahckaaGreatDoor.dropAll τ ω F0.σ ks) a W ρ := by
  intro ks
  induction ks generalizing ω with
  | nil => exact h
  | cons k ks ih =>
    unfold Proofs.YtnklncinjahckaaGreatDoor.dropAll
    split
    · split
      · rename_i hn; exact ih (h.drop hn)
      · exact ih h
    · exact ih h
theorem SimP.norm {s : St} (h : SimP w0 F η E (s.τ, s.ω, s.σ) a W) (ds : List Nat) (cy : List Cy) : SimP w0 F η E (normS ds cy s) a W := by
  obtain ⟨ρ, h⟩ := h
  exact SimP.rowKeys s.kb cy ⟨ρ, (h.topAll ((ds.filter fun d => !(cyT cy).contains d) ++ cyZ cy)).dropAll (List.range s.ω.length)⟩
theorem sbA_ok {n : Nat} {as0 : List Atom} {dv : List Dt} {E0 : Env} (hp : Pre E0 E) (hn : E0.length = n) (hv : vals E as0 = some dv) {x : Atom} (hx : inA (n + as0.length) x = true) {d : Dt} (hd : (sbA n as0 x).val E = some d) : x.val (E0 ++ dv) = some d := by
  have hl := vals_len hv
  cases x with
  | c l => exact hd
  | v j =>
    simp only [inA, decide_eq_true_eq] at hx
    have e0 : sbA n as0 (.v j) = if j < n then .v j else as0.getD (j - n) (.v j) := rfl
    rw [e0] at hd
    split at hd
    · rename_i hj
      obtain ⟨D, rfl⟩ := hp
      have hd' : (E0 ++ D)[j]? = some d := hd
      show (E0 ++ dv)[j]? = some d
      rw [List.getElem?_append_left (by omega)] at hd' ⊢
      exact hd'
    · rename_i hj
      show (E0 ++ dv)[j]? = some d
      rw [List.getElem?_append_right (by omega), hn]
      have hlt : j - n < as0.length := by omega
      have hget : ∀ (as0 : List Atom) (dv : List Dt) (i : Nat) (hi : i < as0.length), vals E as0 = some dv → as0[i].val E = dv[i]? := by
        intro as0
        induction as0 with
        | nil => intro dv i hi; simp at hi
        | cons a as0 ih =>
          intro dv i hi hv
          simp only [vals, Option.bind_eq_bind, Option.bind_eq_some_iff, Option.pure_def, Option.some.injEq] at hv
          obtain ⟨d0, h1, ds', h2, rfl⟩ := hv
          cases i with
          | zero => simpa using h1
          | succ i => simpa using ih ds' i (by simpa using hi) h2
      rw [← hget as0 dv (j - n) hlt hv]
      have e1 : as0.getD (j - n) (.v j) = as0[j - n] := by simp [List.getD_eq_getElem?_getD, hlt]
      rw [e1] at hd
      exact hd
theorem sb_asI {n : Nat} {as0 : List Atom} {dv : List Dt} {E0 : Env} (hp : Pre E0 E) (hn : E0.length = n) (hv : vals E as0 = some dv) {x : Atom} (hx : inA (n + as0.length) x = true) {m : Int} (hd : asI ((sbA n as0 x).val E) = some m) : asI (x.val (E0 ++ dv)) = some m := by
  rw [sbA_ok hp hn hv hx (asI_some hd)]; rfl
theorem own_sb (n : Nat) (as0 : List Atom) (o : Ob) (v : Value) : own (sbO n as0 o) v = own o v := by
  cases o with
  | box t cs => cases v with
    | pointer p => cases p <;> rfl
    | _ => rfl
  | map t vs q a => cases v with
    | map p => cases p <;> rfl
    | _ => rfl
  | _ => rfl
theorem Sim.gens {n : Nat} {as0 : List Atom} {dv : List Dt} {E0 : Env} {σ σ' : List SV} (hp : Pre E0 E) (hn : E0.length = n) (hv : vals E as0 = some dv) (hs : sameS n as0 σ τ ω τ' ω' σ' = true) (h : Sim w0 ⟨F, σ', η⟩ E τ' ω' a W ρ) : Sim w0 ⟨F, σ, η⟩ (E0 ++ dv) τ ω a W ρ := by
  simp only [sameS, Bool.and_eq_true, decide_eq_true_eq] at hs
  obtain ⟨⟨⟨⟨⟨⟨s5, s3⟩, s4⟩, s1⟩, s2⟩, rfl⟩, rfl⟩ := hs
  subst s5
  have hown : ∀ b, owned (ω.map (Option.map (sbO n as0))) ρ b ↔ owned ω ρ b := by
    intro b
    constructor
    · rintro ⟨k, o, h1, h2⟩
      rw [List.getElem?_map, Option.map_eq_some_iff] at h1
      obtain ⟨q, h1, h3⟩ := h1
      rw [Option.map_eq_some_iff] at h3
      obtain ⟨o', rfl, rfl⟩ := h3
      exact ⟨k, o', h1, by rw [own_sb] at h2; exact h2⟩
    · rintro ⟨k, o, h1, h2⟩
      exact ⟨k, sbO n as0 o, by rw [List.getElem?_map, h1]; rfl, by rw [own_sb]; exact h2⟩
  have hF : ∀ b, Frr w0 ⟨F, σ', η⟩ (ω.map (Option.map (sbO n as0))) ρ W b → Frr w0 ⟨F, σ', η⟩ ω ρ W b := fun b hb => ⟨hb.1, fun hb' => hb.2 ((hown b).2 hb')⟩
  have hL : ∀ k, live (ω.map (Option.map (sbO n as0))) k → live ω k := by
    rintro k ⟨o, h1⟩
    rw [List.getElem?_map, Option.map_eq_some_iff] at h1
    obtain ⟨q, h1, h3⟩ := h1
    rw [Option.map_eq_some_iff] at h3
    obtain ⟨o', rfl, rfl⟩ := h3
    exact ⟨o', h1⟩
  have hC : ∀ (x : C1) (v : Value), inC (n + as0.length) x = true → C1R (ctx w0 ⟨F, σ', η⟩ E (ω.map (Option.map (sbO n as0))) ρ W) (sbC n as0 x) v → C1R (ctx w0 ⟨F, σ', η⟩ (E0 ++ dv) ω ρ W) x v := by
    intro x v hx hr
    have hcap : ∀ {ps : List (Nat × Nat)} {us : List Value}, CapRs (ctx w0 ⟨F, σ', η⟩ E (ω.map (Option.map (sbO n as0))) ρ W) ps us → CapRs (ctx w0 ⟨F, σ', η⟩ (E0 ++ dv) ω ρ W) ps us := by
      intro ps
      induction ps with
      | nil => intro us h; cases us <;> exact h
      | cons p ps ih => intro us h; cases us with
        | nil => exact h
        | cons u us => exact ⟨⟨hL _ h.1.1, h.1.2⟩, ih h.2⟩
    cases x with
    | top => trivial
    | und => exact hr
    | «at» y =>
      obtain ⟨d, h1, h2⟩ := C1R.at_ hr
      refine C1R.of_at (fun z e => ?_) ⟨d, sbA_ok hp hn hv hx h1, h2.mono (fun _ _ => rfl) hF⟩
      subst e
      exact hr
    | bp k off => exact ⟨hL _ hr.1, hr.2⟩
    | ep y i off =>
      simp only [inC, Bool.and_eq_true] at hx
      obtain ⟨sz, xs, m, b, o, q, vs, h1, h2, h3, h4, h5, h6, h7, h8⟩ := hr
      exact ⟨sz, xs, m, b, o, q, vs, sbA_ok hp hn hv hx.1 h1, sb_asI hp hn hv hx.2 h2, h3, h4, h5, h6, hF _ h7, fun j d hd => ⟨(h8 j d hd).1, (h8 j d hd).2.mono (fun _ _ => rfl) hF⟩⟩
    | row k => exact ⟨hL _ hr.1, hr.2⟩
    | rp k i sz off =>
      obtain ⟨h1, m, g, len, cap, h2, h3⟩ := hr
      exact ⟨hL _ h1, m, g, len, cap, sb_asI hp hn hv hx h2, h3⟩
    | fn f caps => exact let ⟨vs, h1, h2⟩ := hr; ⟨vs, h1, hcap h2⟩
  have hCs : ∀ (xs : List C1) (vs : List Value), xs.all (inC (n + as0.length)) = true → C1Rs (ctx w0 ⟨F, σ', η⟩ E (ω.map (Option.map (sbO n as0))) ρ W) (xs.map (sbC n as0)) vs → C1Rs (ctx w0 ⟨F, σ', η⟩ (E0 ++ dv) ω ρ W) xs vs := by
    intro xs
    induction xs with
    | nil => intro vs _ h; cases vs <;> exact h
    | cons x xs ih => intro vs hx h; cases vs with
      | nil => exact h
      | cons v vs =>
        simp only [List.all_cons, Bool.and_eq_true] at hx
        exact ⟨hC x v hx.1 h.1, ih vs hx.2 h.2⟩
  have hV : ∀ (x : SV) (v : Value), inV (n + as0.length) x = true → SVR (ctx w0 ⟨F, σ', η⟩ E (ω.map (Option.map (sbO n as0))) ρ W) (sbV n as0 x) v → SVR (ctx w0 ⟨F, σ', η⟩ (E0 ++ dv) ω ρ W) x v := by
    intro x v hx hr
    cases x with
    | one x => exact hC x v hx hr
    | agg cs => exact let ⟨us, h1, h2⟩ := hr; ⟨us, h1, hCs cs us hx h2⟩
    | tup ps =>
      obtain ⟨us, h1, h2⟩ := hr
      refine ⟨us, h1, ?_⟩
      simp only [inV] at hx
      clear h1
      induction ps generalizing us with
      | nil => cases us <;> exact h2
      | cons p ps ih => cases us with
        | nil => exact h2
        | cons u us =>
          simp only [List.all_cons, Bool.and_eq_true] at hx
          refine ⟨?_, ih hx.2 us h2.2⟩
          have h3 := h2.1
          unfold PR at h3 ⊢
          simp only at h3
          split at h3
          · rename_i hpp; obtain ⟨vs, g1, g2⟩ := h3; rw [if_pos hpp]; exact ⟨vs, g1, hCs _ _ hx.1 g2⟩
          · rename_i hpp
            obtain ⟨x, g1, g2⟩ := h3
            rw [if_neg hpp]
            match hq : p.2, g1, hx.1 with
            | [y], g1, hx1 =>
              simp only [List.map_cons, List.map_nil, List.cons.injEq, and_true] at g1
              subst g1
              simp only [List.all_cons, List.all_nil, Bool.and_true] at hx1
              exact ⟨y, rfl, hC y u hx1 g2⟩
            | [], g1, _ => simp at g1
            | _ :: _ :: _, g1, _ => simp at g1
  have hheld : ∀ (xs : List SV) (vs : List Value), xs.all (inV (n + as0.length)) = true → SVRs (ctx w0 ⟨F, σ', η⟩ E (ω.map (Option.map (sbO n as0))) ρ W) (xs.map (sbV n as0)) vs → SVRs (ctx w0 ⟨F, σ', η⟩ (E0 ++ dv) ω ρ W) xs vs := by
    intro xs
    induction xs with
    | nil => intro vs _ h; cases vs <;> exact h
    | cons x xs ih => intro vs hx h; cases vs with
      | nil => exact h
      | cons v vs =>
        simp only [List.all_cons, Bool.and_eq_true] at hx
        exact ⟨hV x v hx.1 h.1, ih vs hx.2 h.2⟩
  refine ⟨h.below, h.low, hheld _ _ s3 (by rw [s4]; exact h.held), h.defers, by simpa using h.size, fun t sv ht => ?_, fun k o ho => ?_, fun k k' o o' g h1 h2 h3 h4 => ?_⟩
  · exact hV sv _ (List.all_eq_true.1 s1 sv (List.mem_of_getElem? ht)) (h.tmps t _ (by rw [List.getElem?_map, ht]; rfl))
  · have ho' := h.objs k (sbO n as0 o) (by rw [List.getElem?_map, ho]; rfl)
    have hin := List.all_eq_true.1 s2 _ (List.mem_of_getElem? ho)
    simp only at hin
    cases o with
    | box t cs =>
      obtain ⟨g, vs, h1, h2, h3, h4⟩ := ho'
      exact ⟨g, vs, h1, h2, h3, hCs _ _ hin h4⟩
    | ext cs =>
      obtain ⟨g, o, vs, h1, h2, h3, h4⟩ := ho'
      exact ⟨g, o, vs, h1, hF _ h2, h3, hCs _ _ hin h4⟩
    | row e sz x =>
      obtain ⟨xs, vs, h1, h2, h3, h4⟩ := ho'
      exact ⟨xs, vs, sbA_ok hp hn hv hin h1, h2, h3, h4.mono (fun _ _ => rfl) hF⟩
    | frz x =>
      obtain ⟨d, h1, h2⟩ := ho'
      exact ⟨d, sbA_ok hp hn hv hin h1, h2.mono (fun _ _ => rfl) hF⟩
    | dead => trivial
    | gone x =>
      obtain ⟨sz, xs, A, cap, h1, h2, h3⟩ := ho'
      exact ⟨sz, xs, A, cap, sbA_ok hp hn hv hin h1, h2, h3⟩
    | map t vs q x =>
      obtain ⟨b, rows, es, clock, h1, h2, h3, h4, h5⟩ := ho'
      exact ⟨b, rows, es, clock, h1, h2, h3, sbA_ok hp hn hv hin h4, h5.mono (fun _ _ => rfl) hF⟩
  · exact h.dj k k' _ _ g (by rw [List.getElem?_map, h1]; rfl) (by rw [List.getElem?_map, h2]; rfl) (by rw [own_sb]; exact h3) (by rw [own_sb]; exact h4)
end
end Go.Proofs.YtnklncinjahckaaGreatDoor
namespace Go.Proofs.YtnklncinjahckaaGreatDoor
open Go.RowKit
set_option linter.unusedVariables false
set_option linter.unusedSimpArgs false
theorem capRs_len {c : Ctx} : ∀ {ps : List (Nat × Nat)} {vs : List Value}, CapRs c ps vs → ps.length = vs.length
  | [], [], _ => rfl
  | _ :: _, _ :: _, h => congrArg (· + 1) (capRs_len h.2)
theorem capRs_get {c : Ctx} : ∀ {ps : List (Nat × Nat)} {vs : List Value}, CapRs c ps vs → ∀ (j : Nat) (p : Nat × Nat) (u : Value), ps[j]? = some p → vs[j]? = some u → CapR c p u
  | _ :: _, _ :: _, h, 0, p, u, hp, hu => by
    simp only [List.getElem?_cons_zero, Option.some.injEq] at hp hu
    subst hp; subst hu; exact h.1
  | _ :: _, _ :: _, h, j + 1, p, u, hp, hu => capRs_get h.2 j p u (by simpa using hp) (by simpa using hu)
theorem run_enter {P : Program} {f : Nat} {fn : Func} {c : Code} (hf : P.funcs[f]? = some fn) (hname : (fn.name == "runtime.NumGoroutine") = false) (hb : fn.body = some c) (args : Array Value) (w : World) : (callFunc f args).run P w = .ok (.enter f args) w := by
  have h1 : fn.name ≠ "runtime.NumGoroutine" := by simpa using hname
  simp [callFunc, hf, h1, hb]
theorem wp_loop_n {P : Program} {Q : Exit → Act → World → Prop} {c : Code} (I : Nat → Act → World → Prop) (round : ∀ n a w, I n a w → c.wp P (Exit.then (fun a' w' => ∃ m, m < n ∧ I m a' w') Q) a w) {n : Nat} {a : Act} {w : World} (h0 : I n a w) : (Code.loop c).wp P Q a w := by
  intro b k cs
  have key : ∀ n a w, I n a w → ∃ e a' w', Q e a' w' ∧ Arrives P (lone (b.at a (.code c :: .inLoop c :: k)) cs w) b k cs e a' w' := by
    intro n
    induction n using Nat.strongRecOn with
    | _ n ih =>
      intro a w hI
      obtain ⟨e, a₁, w₁, hq, harr⟩ := round n a w hI b (.inLoop c :: k) cs
      cases e with
      | normal =>
        obtain ⟨m, hlt, hI₁⟩ := hq
        obtain ⟨e₂, a₂, w₂, hq₂, harr₂⟩ := ih m hlt a₁ w₁ hI₁
        exact ⟨e₂, a₂, w₂, hq₂, .of_steps (Steps.trans harr (.one step_inLoop)) harr₂⟩
      | exit id => exact ⟨_, a₁, w₁, hq, .pass (x := .inLoop c) rfl (fun _ _ => .inl (by simp)) harr⟩
      | goto l => exact ⟨_, a₁, w₁, hq, .pass (x := .inLoop c) rfl (fun _ _ => .inl (by simp)) harr⟩
      | ret => exact ⟨_, a₁, w₁, hq, .pass (x := .inLoop c) rfl (fun _ _ => .inl (by simp)) harr⟩
      | panic ch => exact ⟨_, a₁, w₁, hq, .pass (x := .inLoop c) rfl (fun _ _ => .inl (by simp)) harr⟩
      | outgrown => exact ⟨_, a₁, w₁, hq, .pass (x := .inLoop c) rfl (fun _ _ => .inl (by simp)) harr⟩
  obtain ⟨e, a', w', hq, harr⟩ := key n a w h0
  exact ⟨e, a', w', hq, .of_steps (.one step_loop) harr⟩
abbrev Ks := List (List Dt → Option (List Dt))
def KPre (k k' : Ks) : Prop := ∃ D, k' = k ++ D
theorem KPre.trans {a b c : Ks} (h : KPre a b) (k : KPre b c) : KPre a c := by
  obtain ⟨D, rfl⟩ := h
  obtain ⟨D', rfl⟩ := k
  exact ⟨D ++ D', by simp⟩
def ExM : Ex → Exit → Prop
  | .normal, .normal => True
  | .exit i, .exit j => i = j
  | .ret, .ret => True
  | _, _ => False
structure Inv (w0 : World) (F : Nat → Prop) (η : List Value) (E : Env) (ks : Ks) (s : St) (a : Act) (W : World) : Prop where
  len : E.length = s.n
  kn : KnOk E s.kn
  lvl : s.lvl = ks.length
  sim : SimP w0 F η E (s.τ, s.ω, s.σ) a W
def Post (w0 : World) (F : Nat → Prop) (η : List Value) (sp : Nat → Spec) (N : Nat) (res : List Dt) (kb : Nat) (k : Ex → St → Option T) (E : Env) (ks : Ks) (e : Exit) (a : Act) (W : World) : Prop :=
  ∃ x s' t' E' ks', ExM x e ∧ k x s' = some t' ∧ den sp N t' E' ks' = some res ∧ Pre E E' ∧ KPre ks ks' ∧ s'.kb = kb ∧ Inv w0 F η E' ks' s' a W
section
variable {P : Program} {w0 : World} {F : Nat → Prop} {η : List Value} {sp : Nat → Spec} {N : Nat} {res : List Dt} {fx : Fx} {kb : Nat}
theorem Post.mono {k : Ex → St → Option T} {E E1 : Env} {ks ks1 : Ks} (hE : Pre E E1) (hk : KPre ks ks1) {e : Exit} {a : Act} {W : World} (h : Post w0 F η sp N res kb k E1 ks1 e a W) : Post w0 F η sp N res kb k E ks e a W := by
  obtain ⟨x, s', t', E', ks', h1, h2, h3, h4, h5, h6, h7⟩ := h
  exact ⟨x, s', t', E', ks', h1, h2, h3, hE.trans h4, hk.trans h5, h6, h7⟩
def PostK (w0 : World) (F : Nat → Prop) (η : List Value) (sp : Nat → Spec) (N : Nat) (res : List Dt) (kb : Nat) (k : St → Option T) (E : Env) (ks : Ks) (a : Act) (W : World) : Prop :=
  ∃ s' t' E' ks', k s' = some t' ∧ den sp N t' E' ks' = some res ∧ Pre E E' ∧ KPre ks ks' ∧ s'.kb = kb ∧ Inv w0 F η E' ks' s' a W
def InlOk (P : Program) (w0 : World) (F : Nat → Prop) (sp : Nat → Spec) (N : Nat) (res : List Dt) (inl : Inl) (fx : Fx) : Prop :=
  ∀ (η : List Value) (g : FnI) (vs : List SV) (us : List Value) (o : Oper) (s : St) (k : St → Option T) (t : T) (E : Env) (ks : Ks) (a : Act) (W : World), g ∈ fx.fns → inl fx g vs o s k = some t → den sp N t E ks = some res → Inv w0 F η E ks s a W →
    (∀ ρ, Sim w0 ⟨F, s.σ, η⟩ E s.τ s.ω a W ρ → us.length = vs.length ∧ ∀ (j : Nat) (sv : SV) (u : Value), vs[j]? = some sv → us[j]? = some u → SVR (ctx w0 ⟨F, s.σ, η⟩ E s.ω ρ W) sv u) →
    Calls P g.f us.toArray W fun e W' => ∃ v, e = .returned v ∧ PostK w0 F η sp N res s.kb k E ks (a.put o.dst v) W'
theorem regDo_ok {cx : Cx} {nt : Nat} {ops : List Oper} {o : Oper} {s : St} {k : St → Rec → Option T} {t : T} {E : Env} {ks : Ks} (hr : regDo cx nt ops o s k = some t) (hd : den sp N t E ks = some res) (hn : E.length = s.n) :
    ∃ (ds : List Dt) (e : Eff) (r : Rec) (t' : T), (stepOp cx s.kb s.n nt s.kn o).run s.τ s.ω = some e ∧ k { s with τ := (wr s.τ s.ω e.ws).1, ω := (wr s.τ s.ω e.ws).2, n := s.n + e.xs.length } r = some t' ∧ den sp N t' (E ++ ds) ks = some res ∧ ds.length = e.xs.length ∧ Facts sp (E ++ ds) s.n e := by
  unfold regDo at hr
  simp only at hr
  split at hr
  · cases hr
  · rename_i eff hrun
    split at hr
    · cases hr
    · rename_i t2 ht2
      injection hr with hr
      subst hr
      obtain ⟨ds, l1, l2, l3⟩ := lets_ok hd
      exact ⟨ds, eff, _, t2, hrun, ht2, l2, l1, hn ▸ l3⟩
theorem do_ok {Q : Exit → Act → World → Prop} {nt : Nat} {ops : List Oper} {o : Oper} {s : St} {k : St → Rec → Option T} {t : T} {E : Env} {ks : Ks} {a : Act} {W : World} (hty : ∀ t i, fx.cx.ti t = some i → TyOk P t i) (hsig : ∀ ci f s, fx.cx.sigs[ci]? = some (f, s) → Meets P (sp ci) f s)
    (hr : regDo fx.cx nt ops o s k = some t) (hd : den sp N t E ks = some res) (hi : Inv w0 F η E ks s a W) {K : Act → World → Prop}
    (hK : ∀ a' W' r, PostK w0 F η sp N res s.kb (fun s => k s r) E ks a' W' → K a' W') : o.wp P a W K Q := by
  obtain ⟨ds, e, r, t', h1, h2, h3, h4, h5⟩ := regDo_ok hr hd hi.len
  obtain ⟨ρ, hs⟩ := hi.sim
  have hp : Pre E (E ++ ds) := ⟨ds, rfl⟩
  refine Oper.wp_mono (fun a' W' ⟨ρ', hg⟩ => hK a' W' r ⟨_, t', E ++ ds, ks, h2, h3, hp, ⟨[], by simp⟩, rfl, ⟨by simp [hi.len, h4], hp.kn hi.kn, hi.lvl, ρ', hg⟩⟩) (op_ok (hs.env fun x d hx => hp.val hx) h1 h5 (hp.kn hi.kn) hty hsig)
theorem wp_enter {f : Nat} {o : Oper} {c : Call} {a : Act} {W : World} {us caps : List Value} {fx : Operand} {K : Act → World → Prop} {Q : Exit → Act → World → Prop} (ho : o.op = .call c) (hc : c.callee = .value fx) (hf : a.eval fx = .func (.func f) #[] caps.toArray) (hus : (c.args.map a.eval).toList = us)
    (hen : (callFunc f (us ++ caps).toArray).run P W = .ok (.enter f (us ++ caps).toArray) W) (hcall : Calls P f (us ++ caps).toArray W fun e W' => ∃ v, e = .returned v ∧ K (a.put o.dst v) W') : o.wp P a W K Q :=
  wp_does (R := fun v W' => K (a.put o.dst v) W') ho hc hf hus (.inl ⟨hen, hcall⟩) fun _ _ h => h
theorem findFn_ok {f : Nat} {l : List FnI} {g : FnI} (h : findFn f l = some g) : g ∈ l ∧ g.f = f := by
  induction l with
  | nil => cases h
  | cons x l ih =>
    unfold findFn at h
    split at h
    · injection h with h; subst h; exact ⟨List.mem_cons_self .., ‹_›⟩
    · exact ⟨List.mem_cons_of_mem _ (ih h).1, (ih h).2⟩
def FnOk (P : Program) (g : FnI) : Prop := ∃ fn, P.funcs[g.f]? = some fn ∧ (fn.name == "runtime.NumGoroutine") = false ∧ fn.body = some g.body ∧ fn.ntmps = g.nt ∧ fn.results.toList = g.results
theorem inl_ok {Q : Exit → Act → World → Prop} {inl : Inl} {g : FnI} {vs : List SV} {o : Oper} {s : St} {k : St → Option T} {t : T} {E : Env} {ks : Ks} {a : Act} {W : World} (hinl : InlOk P w0 F sp N res inl fx) (hfn : ∀ g ∈ fx.fns, FnOk P g) (ho : inlOf fx s o = some (g, vs)) (hr : inl fx g vs o s k = some t) (hd : den sp N t E ks = some res) (hi : Inv w0 F η E ks s a W) {K : Act → World → Prop}
    (hK : ∀ a' W', PostK w0 F η sp N res s.kb k E ks a' W' → K a' W') : o.wp P a W K Q := by
  unfold inlOf at ho
  split at ho
  · rename_i c hop
    split at ho
    · rename_i fx' hcl
      split at ho
      · rename_i f caps hcf
        split at ho
        · rename_i g' hg
          split at ho
          · rename_i vs0 hvs
            simp only [Option.some.injEq, Prod.mk.injEq] at ho
            obtain ⟨rfl, rfl⟩ := ho
            obtain ⟨hmem, hgf⟩ := findFn_ok hg
            obtain ⟨ρ0, hs0⟩ := hi.sim
            obtain ⟨cus, hcv, hcaps0⟩ := evC_ok hs0 hcf
            obtain ⟨fn, f1, f2, f3, f4, f5⟩ := hfn g' hmem
            have hargs : ∀ ρ, Sim w0 ⟨F, s.σ, η⟩ E s.τ s.ω a W ρ → ((c.args.map a.eval).toList ++ cus).length = (vs0 ++ caps.map fun p => SV.one (.bp p.1 p.2)).length ∧ ∀ (j : Nat) (sv : SV) (u : Value), (vs0 ++ caps.map fun p => SV.one (.bp p.1 p.2))[j]? = some sv → ((c.args.map a.eval).toList ++ cus)[j]? = some u → SVR (ctx w0 ⟨F, s.σ, η⟩ E s.ω ρ W) sv u := by
              intro ρ hs
              obtain ⟨cus', hcv', hcaps⟩ := evC_ok hs hcf
              rw [hcv] at hcv'
              simp only [Value.func.injEq, true_and] at hcv'
              have hcc : cus = cus' := by
                have := congrArg Array.toList hcv'
                simpa using this
              subst hcc
              obtain ⟨hvl, hvj⟩ := evArgs_ok hs hvs
              have hcl' : caps.length = cus.length := capRs_len hcaps
              have hcj : ∀ (j : Nat) (p : Nat × Nat) (u : Value), caps[j]? = some p → cus[j]? = some u → CapR (ctx w0 ⟨F, s.σ, η⟩ E s.ω ρ W) p u := capRs_get hcaps
              refine ⟨by simp [hvl, hcl'], fun j sv u h1 h2 => ?_⟩
              have hll : (c.args.map a.eval).toList.length = vs0.length := by simp [hvl]
              by_cases hj : j < vs0.length
              · rw [List.getElem?_append_left hj] at h1
                rw [List.getElem?_append_left (by omega), Array.toList_map, List.getElem?_map, Option.map_eq_some_iff] at h2
                obtain ⟨x, hx, rfl⟩ := h2
                exact hvj j sv x h1 hx
              · rw [List.getElem?_append_right (by omega), List.getElem?_map, Option.map_eq_some_iff] at h1
                obtain ⟨p, hp, rfl⟩ := h1
                rw [List.getElem?_append_right (by omega), hll] at h2
                exact hcj _ p u hp h2
            have hcall := hinl η g' _ _ o s k t E ks a W hmem hr hd hi hargs
            rw [hgf] at hcall f1
            exact wp_enter hop hcl hcv rfl (run_enter f1 f2 f3 _ _) (hcall.mono fun e W' ⟨v, he, hP⟩ => ⟨v, he, hK _ _ hP⟩)
          · cases ho
        · cases ho
      · cases ho
    · cases ho
  · cases ho
end
end Go.Proofs.YtnklncinjahckaaGreatDoor
