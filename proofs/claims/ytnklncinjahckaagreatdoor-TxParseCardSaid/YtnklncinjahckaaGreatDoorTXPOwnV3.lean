/- Own texts, put together by wip/bundle.py: VdR, VdQ, VdS, VdU, VdV. -/
import Derived.Test.YtnklncinjahckaaGreatDoorTXPOwnB
import Derived.Test.YtnklncinjahckaaGreatDoorTXPOwnV2
namespace Go.Proofs.YtnklncinjahckaaGreatDoor
open Go.RowKit
set_option linter.unusedVariables false
set_option linter.unusedSimpArgs false
section
variable {P : Program} {w0 W : World} {F0 : Bk} {E : Env} {τ : List SV} {ω : List (Option Ob)} {a : Act} {ρ : Nat → Value} {cx : Cx} {sp : Nat → Spec}
theorem resOf_ok (h : Sim w0 F0 E τ ω a W ρ) (hty : ∀ t i, cx.ti t = some i → TyOk P t i) : ∀ {rs : List ResultVar} {vs : List SV}, (resOf cx rs).run τ ω = some vs →
    ∃ us : List Value, (rs.mapM fun
      | .tmp t => pure (a.tmps.getD t undef)
      | .cell x t => do loadVar t (← asAddr (a.tmps.getD x undef)) : Sem (List Value)).run P W = .ok us W ∧ us.length = vs.length ∧ ∀ (j : Nat) (sv : SV) (u : Value), vs[j]? = some sv → us[j]? = some u → SVR (ctx w0 F0 E ω ρ W) sv u
  | [], vs, hr => by
    simp only [resOf, run_pure, Option.some.injEq] at hr
    subst hr
    exact ⟨[], by simp, rfl, by simp⟩
  | .tmp t :: rs, vs, hr => by
    simp only [resOf, run_bind, run_rT, run_pure, Option.bind_eq_some_iff, Option.some.injEq] at hr
    obtain ⟨sv, h1, vs', h2, rfl⟩ := hr
    obtain ⟨us, k1, k2, k3⟩ := resOf_ok h hty h2
    refine ⟨a.tmps.getD t undef :: us, ?_, by simp [k2], fun j sv' u hs hu => ?_⟩
    · simp only [List.mapM_cons, Sem.run_bind, Sem.run_pure, Result.andThen_ok, k1]
    · cases j with
      | zero => simp only [List.getElem?_cons_zero, Option.some.injEq] at hs hu; subst hs; subst hu; exact h.tmps t _ h1
      | succ j => exact k3 j sv' u (by simpa using hs) (by simpa using hu)
  | .cell x t :: rs, vs, hr => by
    simp only [resOf, run_bind, run_ofO, run_rT, Option.bind_eq_some_iff] at hr
    obtain ⟨ti, hti, sx, hx, hr⟩ := hr
    cases sx with
    | one c =>
      cases c with
      | bp k off =>
        simp only [run_bind, run_rO, Option.bind_eq_some_iff] at hr
        obtain ⟨ob, hob, hr⟩ := hr
        split at hr
        · rename_i t' cs
          simp only [run_ite] at hr
          split at hr
          · rename_i hle
            simp only [run_bind, run_pure, Option.bind_eq_some_iff, Option.some.injEq] at hr
            obtain ⟨sv, hsv, vs', h2, rfl⟩ := hr
            obtain ⟨us, k1, k2, k3⟩ := resOf_ok h hty h2
            obtain ⟨g, ws, b1, b2, b3, b4⟩ := h.objs k _ hob
            obtain ⟨_, g', q, hρ, hv⟩ := h.tmps x _ hx
            simp only [ctx] at hρ b1 b3
            rw [b1] at hρ
            simp only [Value.pointer.injEq, Option.some.injEq, Addr.mk.injEq] at hρ
            obtain ⟨rfl, rfl, _⟩ := hρ
            have hlen := b4.len
            obtain ⟨v, hv', hs⟩ := load_run (hty t ti hti) (us := (ws.drop off).take ti.n) (by rw [List.length_take, List.length_drop]; omega) (range_drop (hrange b3)) (b4.part off ti.n) hsv
            refine ⟨v :: us, ?_, by simp [k2], fun j sv' u hs' hu => ?_⟩
            · have has : (asAddr (Value.pointer (some ⟨g, 0 + off, none⟩))).run P W = .ok ⟨g, 0 + off, none⟩ W := rfl
              simp only [List.mapM_cons, hv, Sem.run_bind, has, Sem.run_pure, Result.andThen_ok, hv', k1]
            · cases j with
              | zero => simp only [List.getElem?_cons_zero, Option.some.injEq] at hs' hu; subst hs'; subst hu; exact hs
              | succ j => exact k3 j sv' u (by simpa using hs') (by simpa using hu)
          · cases hr
        · cases hr
      | _ => cases hr
    | _ => cases hr
end
section
variable {P : Program} {w0 : World} {F : Nat → Prop} {η : List Value} {sp : Nat → Spec} {N : Nat} {res : List Dt} {fx : Fx} {kb : Nat}
theorem PostK.mono {k : St → Option T} {E E1 : Env} {ks ks1 : Ks} (hE : Pre E E1) (hk : KPre ks ks1) {a : Act} {W : World} (h : PostK w0 F η sp N res kb k E1 ks1 a W) : PostK w0 F η sp N res kb k E ks a W := by
  obtain ⟨s', t', E', ks', h2, h3, h4, h5, h6, h7⟩ := h
  exact ⟨s', t', E', ks', h2, h3, hE.trans h4, hk.trans h5, h6, h7⟩
theorem KPre.refl (k : Ks) : KPre k k := ⟨[], by simp⟩
theorem seq_ok {Q : Exit → Act → World → Prop} {inl : Inl} {ops : Array Oper} {k : St → Option T} (hty : ∀ t i, fx.cx.ti t = some i → TyOk P t i) (hsig : ∀ ci f s, fx.cx.sigs[ci]? = some (f, s) → Meets P (sp ci) f s) (hfn : ∀ g ∈ fx.fns, FnOk P g) (hinl : InlOk P w0 F sp N res inl fx) : ∀ {todo : List Oper} {s : St} {t : T} {E : Env} {ks : Ks} {a : Act} {W : World},
    seqRun inl fx ops.toList todo s k = some t → den sp N t E ks = some res → Inv w0 F η E ks s a W → (∀ a' W', PostK w0 F η sp N res s.kb k E ks a' W' → Q .normal a' W') → wpList P ops Q todo a W
  | [], s, t, E, ks, a, W, hr, hd, hi, hQ => hQ a W ⟨s, t, E, ks, hr, hd, Pre.refl _, KPre.refl _, rfl, hi⟩
  | o :: rest, s, t, E, ks, a, W, hr, hd, hi, hQ => by
    have next : ∀ (s1 : St) a' W', s1.kb = s.kb → PostK w0 F η sp N res s1.kb (fun s => seqRun inl fx ops.toList rest s k) E ks a' W' → wpList P ops Q rest a' W' := by
      intro s1 a' W' hkb ⟨s', t', E', ks', h1, h2, h3, h4, h5, h6⟩
      refine seq_ok hty hsig hfn hinl h1 h2 h6 fun a2 W2 hp => hQ a2 W2 ?_
      rw [h5, hkb] at hp
      exact hp.mono h3 h4
    have doit : ∀ (s1 : St) (t1 : T), s1.kb = s.kb → s1.τ = s.τ → Inv w0 F η E ks s1 a W → gdIs E ops.toList s.τ o true → (match inlOf fx s1 o with
      | some (g, vs) => inl fx g vs o s1 fun s => seqRun inl fx ops.toList rest s k
      | none => regDo fx.cx fx.nt ops.toList o s1 fun s _ => seqRun inl fx ops.toList rest s k) = some t1 → den sp N t1 E ks = some res → wpList P ops Q (o :: rest) a W := by
      intro s1 t1 hkb hτ hi1 hg hgo hd1
      obtain ⟨ρ, hs⟩ := hi1.sim
      have hw : Region.wanted o (yielded ops a.tmps) = true := hs.wanted (ops := ops) (by rw [← hτ] at hg; exact hg)
      unfold wpList
      rw [hw]
      simp only [if_true]
      refine .inl ?_
      split at hgo
      · rename_i g vs ho
        exact inl_ok hinl hfn ho hgo hd1 hi1 fun a' W' hp => next s1 a' W' hkb hp
      · exact do_ok hty hsig hgo hd1 hi1 fun a' W' r hp => next s1 a' W' hkb hp
    have skipit : ∀ (s1 : St) (t1 : T), s1.kb = s.kb → s1.τ = s.τ → Inv w0 F η E ks s1 a W → gdIs E ops.toList s.τ o false → regSkip ops.toList o s1 (fun s _ => seqRun inl fx ops.toList rest s k) = some t1 → den sp N t1 E ks = some res → wpList P ops Q (o :: rest) a W := by
      intro s1 t1 hkb hτ hi1 hg hgo hd1
      obtain ⟨ρ, hs⟩ := hi1.sim
      have hw : Region.wanted o (yielded ops a.tmps) = false := hs.wanted (ops := ops) (by rw [← hτ] at hg; exact hg)
      unfold wpList
      rw [hw]
      simp only [Bool.false_eq_true, if_false]
      unfold regSkip at hgo
      simp only at hgo
      refine next s1 _ _ hkb ⟨_, t1, E, ks, hgo, hd1, Pre.refl _, KPre.refl _, rfl, ⟨hi1.len, hi1.kn, hi1.lvl, ρ, ?_⟩⟩
      exact hs.dst o (sv := .one .und) (v := undef) rfl
    obtain ⟨g1, g2, g3⟩ := guardOf_ok (ops := ops.toList) (o := o) hi.kn
    unfold seqRun at hr
    simp only at hr
    split at hr
    · rename_i hg; exact doit s t rfl rfl hi (g1 hg) hr hd
    · rename_i hg; exact skipit s t rfl rfl hi (g2 hg) hr hd
    · rename_i v hg
      obtain ⟨j, w, hgd, g4⟩ := g3 v hg
      rw [hgd] at hr
      simp only at hr
      split at hr
      · rename_i t1 e1 ht1 he1
        injection hr with hr
        have learnI : ∀ b, E[v]? = some (.b b) → Inv w0 F η E ks (learn s v b) a W := by
          intro b hb
          refine ⟨hi.len, fun v' b' hm => ?_, hi.lvl, hi.sim⟩
          rcases List.mem_cons.1 hm with h | h
          · injection h with h1 h2; subst h1; subst h2; exact hb
          · exact hi.kn v' b' h
        cases w with
        | true =>
          simp only [if_true] at hr
          subst hr
          simp only [den] at hd
          split at hd
          · rename_i b hb
            have hb' : E[v]? = some (.b b) := hb
            cases b with
            | true => simp only [if_true] at hd; exact doit (learn s v true) t1 rfl rfl (learnI true hb') (g4 true hb') ht1 hd
            | false => simp only [Bool.false_eq_true, if_false] at hd; exact skipit (learn s v false) e1 rfl rfl (learnI false hb') (g4 false hb') he1 hd
          · cases hd
        | false =>
          simp only [Bool.false_eq_true, if_false] at hr
          subst hr
          simp only [den] at hd
          split at hd
          · rename_i b hb
            have hb' : E[v]? = some (.b b) := hb
            cases b with
            | true => simp only [if_true] at hd; exact skipit (learn s v true) e1 rfl rfl (learnI true hb') (g4 true hb') he1 hd
            | false => simp only [Bool.false_eq_true, if_false] at hd; exact doit (learn s v false) t1 rfl rfl (learnI false hb') (g4 false hb') ht1 hd
          · cases hd
      · cases hr
    · cases hr
theorem any_wp_mido {Q : Exit → Act → World → Prop} {F0 : Bk} {E : Env} {cx : Cx} {nt : Nat} {ops : Array Oper} {off n : Nat} (hm : off + n < ops.size) (hty : ∀ t i, cx.ti t = some i → TyOk P t i) (hsig : ∀ ci f s, cx.sigs[ci]? = some (f, s) → Meets P (sp ci) f s) {rs : List Rec} {τ : List SV} {ω : List (Option Ob)} (ht : Tr cx kb nt ops.toList sp E ((ops.toList.drop off).take n) τ ω rs)
    (hback : backE 0 ops.toList = true) (hind : indep (ancs ops.toList []) off rs = true) (hanc : allB (off + n) ((ancs ops.toList []).getD (off + n) []) = true) (hafter : ∀ j, off + n < j → j < ops.size → off + n ∈ (ancs ops.toList []).getD j [])
    (hlast : ∀ a W ρ, Sim w0 F0 E (wr τ ω (selW (fun _ => true) 0 rs)).1 (wr τ ω (selW (fun _ => true) 0 rs)).2 a W ρ → wpOp P ops Q (off + n) (fun a' W' => ∀ (fuel : Nat) (listed : Array Bool), listed.size = ops.size → ((List.range ops.size).filter (fun j => !listed.getD j true)).length = fuel → (∀ j, listed.getD j false = decide (j ≤ off + n)) → wpAny P .any ops Q fuel listed a' W') a W) :
    ∀ (fuel : Nat) (listed : Array Bool) {a : Act} {W : World} {ρ : Nat → Value}, listed.size = ops.size → ((List.range ops.size).filter (fun j => !listed.getD j true)).length = fuel → listed.getD (off + n) false = false → (∀ j, j < off → listed.getD j false = true) →
    (∀ i, listed.getD i false = true → ∀ k ∈ (ancs ops.toList []).getD i [], listed.getD k false = true) → Sim w0 F0 E (wr τ ω (selW (fun i => listed.getD (off + i) false) 0 rs)).1 (wr τ ω (selW (fun i => listed.getD (off + i) false) 0 rs)).2 a W ρ → wpAny P .any ops Q fuel listed a W := by
  have hlen : rs.length = n := by rw [ht.len]; simp; omega
  have hFT : ∀ (listed : Array Bool) (i : Nat), listed.size = ops.size → i < ops.size → listed.getD i true = listed.getD i false := by
    intro listed i hsz hi
    have hlt : i < listed.size := by omega
    rw [Array.getD_eq_getD_getElem?, Array.getD_eq_getD_getElem?, Array.getElem?_eq_getElem hlt]; rfl
  have hmust : ∀ (listed : Array Bool), listed.size = ops.size → listed.getD (off + n) false = false → Region.ready .any ops listed ≠ [] := by
    intro listed hsz hmf hnil
    have hall : ∀ i, i < ops.size → listed.getD i false = true := by
      intro i
      induction i using Nat.strongRecOn with
      | _ i ih =>
        intro hi
        cases hL : listed.getD i false with
        | true => rfl
        | false =>
          exfalso
          have hmem : i ∈ Region.ready .any ops listed := by
            unfold Region.ready
            rw [List.mem_filter]
            refine ⟨List.mem_range.2 hi, ?_⟩
            rw [hFT listed i hsz hi, hL, Array.getElem?_eq_getElem hi]
            simp only [Bool.not_false, Bool.true_and, Option.map_some, Option.getD_some]
            rw [Array.all_eq_true']
            intro e he
            cases hb : Region.binds .any e with
            | false => rfl
            | true =>
              have hlt := backE_ok hback i ops[i] (by simp [hi]) e (by simpa using he) hb
              simp only [Bool.not_true, Bool.false_or]
              exact ih e.on (by omega) (by omega)
          rw [hnil] at hmem
          cases hmem
    rw [hall (off + n) (by omega)] at hmf
    cases hmf
  intro fuel
  induction fuel with
  | zero =>
    intro listed a W ρ hsz hcount hmf hpre hcl hs
    exfalso
    have h0 := List.eq_nil_of_length_eq_zero hcount
    rw [List.filter_eq_nil_iff] at h0
    have := h0 (off + n) (List.mem_range.2 (by omega))
    rw [hFT listed (off + n) hsz (by omega), hmf] at this
    exact this rfl
  | succ fuel ih =>
    intro listed a W ρ hsz hcount hmf hpre hcl hs
    refine ⟨fun hnil => absurd hnil (hmust listed hsz hmf), fun i hi => ?_⟩
    unfold Region.ready at hi
    rw [List.mem_filter] at hi
    obtain ⟨hi1, hi2⟩ := hi
    have hi1 := List.mem_range.1 hi1
    have hiL : i < listed.size := by omega
    rw [Bool.and_eq_true] at hi2
    obtain ⟨hi2, hi3⟩ := hi2
    have hLt : listed.getD i true = false := by simpa using hi2
    have hL : listed.getD i false = false := by rw [← hFT listed i hsz hi1]; exact hLt
    have hro : ops[i]? = some ops[i] := Array.getElem?_eq_getElem hi1
    rw [hro] at hi3
    simp only [Option.map_some, Option.getD_some] at hi3
    rw [Array.all_eq_true'] at hi3
    have hanc' : ∀ k ∈ (ancs ops.toList []).getD i [], listed.getD k false = true := by
      intro k hk
      obtain ⟨e, he, hb, hk⟩ := (ancs_ok ops.toList []).2 i ops[i] (by simp [hi1]) k (by simpa using hk)
      have := hi3 e (by simpa using he)
      rw [hb] at this
      simp only [Bool.not_true, Bool.false_or] at this
      rcases hk with rfl | hk
      · exact this
      · exact hcl _ this k hk
    by_cases him : i = off + n
    · subst him
      have hall : ∀ j, j < off + n → listed.getD j false = true := fun j hj => hanc' j (by
        have := List.all_eq_true.1 hanc j (List.mem_range.2 hj)
        exact List.contains_iff_mem.1 this)
      rw [selW_congr (L := fun i => listed.getD (off + i) false) (L' := fun _ => true) rs 0 (fun j hj => by
        rw [Nat.zero_add]; exact hall _ (by omega))] at hs
      have hsetF : ∀ j, (listed.setIfInBounds (off + n) true).getD j false = (listed.getD j false || decide (j = off + n)) := by
        intro j
        simp only [Array.getD_eq_getD_getElem?, Array.getElem?_setIfInBounds]
        by_cases hji : off + n = j
        · subst hji; simp [hiL]
        · simp [hji, Ne.symm hji]
      refine wpOp_mono (fun a' W' hq => hq fuel _ (by simpa using hsz) ?_ fun j => ?_) (hlast a W ρ hs)
      · have hc := count_set (n := ops.size) (fun j => listed.getD j true) (fun j => (listed.setIfInBounds (off + n) true).getD j true) (off + n) hi1 hLt (fun j => by
          simp only [Array.getD_eq_getD_getElem?, Array.getElem?_setIfInBounds]
          by_cases hji : off + n = j
          · subst hji; simp [hiL]
          · simp [hji, Ne.symm hji])
        omega
      · rw [hsetF]
        rcases Nat.lt_trichotomy j (off + n) with h | h | h
        · rw [hall j h]; simp; omega
        · simp [h]
        · have : listed.getD j false = false := by
            cases hj : listed.getD j false with
            | false => rfl
            | true =>
              exfalso
              by_cases hjs : j < ops.size
              · have := hcl j hj _ (hafter j h hjs)
                rw [hL] at this; cases this
              · rw [Array.getD_eq_getD_getElem?, Array.getElem?_eq_none (by omega)] at hj
                cases hj
          rw [this]; simp; omega
    · have him2 : i < off + n := by
        rcases Nat.lt_or_ge i (off + n) with h | h
        · exact h
        · have := hanc' (off + n) (hafter i (by omega) hi1)
          rw [hmf] at this; cases this
      have hoi : off ≤ i := by
        rcases Nat.lt_or_ge i off with h | h
        · have := hpre i h
          rw [hL] at this; cases this
        · exact h
      obtain ⟨k, rfl⟩ : ∃ k, i = off + k := ⟨i - off, by omega⟩
      have hri : k < rs.length := by omega
      have hanc := hanc'
      have hr : rs[k]? = some rs[k] := List.getElem?_eq_getElem hri
      have hrec := ht.at_ 0 (i := k) (o := ops[off + k]) (r := rs[k]) (by rw [List.getElem?_take, if_pos (by omega), List.getElem?_drop]; simp [hi1]) hr
      have hlog : ∀ l ∈ rs[k].log, LocEq (wr τ ω (selW (fun _ => true) 0 (rs.take k))).1 (wr τ ω (selW (fun i => listed.getD (off + i) false) 0 rs)).1 (wr τ ω (selW (fun _ => true) 0 (rs.take k))).2 (wr τ ω (selW (fun i => listed.getD (off + i) false) 0 rs)).2 l := by
        intro l hl
        have hti : (rs.take k).length = k := by rw [List.length_take]; omega
        have e2 : selW (fun i => listed.getD (off + i) false) 0 rs = selW (fun i => listed.getD (off + i) false) 0 (rs.take k) ++ selW (fun i => listed.getD (off + i) false) k (rs.drop k) := by
          conv => lhs; rw [← List.take_append_drop k rs]
          rw [selW_append, hti, Nat.zero_add]
        rw [e2, wr_append]
        refine (sel_eq (L := fun i => listed.getD (off + i) false) (rs.take k) 0 τ ω fun j q hq hLj w hw e => ?_).trans (wr_far _ _ _ fun w hw e => ?_).symm
        · have hj : j < k := by have := (List.getElem?_eq_some_iff.1 hq).1; omega
          rw [List.getElem?_take, if_pos hj] at hq
          have hLj : listed.getD (off + j) false = false := by simpa using hLj
          rcases indep_ok hind j k q rs[k] hj hq hr with h1 | h1
          · rw [hanc _ h1] at hLj; cases hLj
          · simp only [apartR, Bool.and_eq_true] at h1
            exact disj_ok h1.1.1 _ (List.mem_map_of_mem hw) (e ▸ hl)
        · obtain ⟨j, q, h1, h2, h3⟩ := selW_mem hw
          rw [List.getElem?_drop] at h1
          have hne : j ≠ 0 := by
            rintro rfl
            simp only [Nat.add_zero] at h2
            rw [hL] at h2; cases h2
          rcases indep_ok hind k (k + j) rs[k] q (by omega) hr h1 with h4 | h4
          · have := hcl _ h2 _ h4
            rw [hL] at this; cases this
          · simp only [apartR, Bool.and_eq_true] at h4
            exact disj_ok h4.2 _ hl (e ▸ List.mem_map_of_mem h3)
      have hL' : ∀ j, (listed.setIfInBounds (off + k) true).getD j false = (listed.getD j false || decide (j = off + k)) := by
        intro j
        simp only [Array.getD_eq_getD_getElem?, Array.getElem?_setIfInBounds]
        by_cases hji : off + k = j
        · subst hji; simp [hiL]
        · simp [hji, Ne.symm hji]
      unfold wpOp
      rw [hro]
      refine rec_wp hs (hrec.move hlog) hty hsig fun a' W' ⟨ρ', hg⟩ => ?_
      refine ih _ (by simpa using hsz) ?_ (by rw [hL' (off + n), hmf]; simp; omega) (fun j hj => by rw [hL', hpre j hj]; rfl) ?_ (ρ := ρ') ?_
      · have hc := count_set (n := ops.size) (fun j => listed.getD j true) (fun j => (listed.setIfInBounds (off + k) true).getD j true) (off + k) hi1 hLt (fun j => by
          simp only [Array.getD_eq_getD_getElem?, Array.getElem?_setIfInBounds]
          by_cases hji : off + k = j
          · subst hji; simp [hiL]
          · simp [hji, Ne.symm hji])
        omega
      · intro j hj k hk
        rw [hL'] at hj ⊢
        rw [Bool.or_eq_true, decide_eq_true_eq] at hj ⊢
        rcases hj with hj | rfl
        · exact .inl (hcl j hj k hk)
        · exact .inl (hanc k hk)
      · rw [sel_step (L := fun i => listed.getD (off + i) false) (L' := fun i => (listed.setIfInBounds (off + k) true).getD (off + i) false) hr hL (fun j => by rw [hL']; congr 1; rw [decide_eq_decide]; omega) (fun j q hij hq hLj x hx y hy => ?_)]
        · exact hg
        · rcases indep_ok hind k j rs[k] q hij hr hq with h4 | h4
          · have := hcl _ hLj _ h4
            rw [hL] at this; cases this
          · simp only [apartR, Bool.and_eq_true] at h4
            intro e
            exact disj_ok h4.1.2 _ (List.mem_map_of_mem hx) (e ▸ List.mem_map_of_mem hy)
theorem any_wp_tail {Q : Exit → Act → World → Prop} {F0 : Bk} {E : Env} {cx : Cx} {kb nt : Nat} {ops : Array Oper} {off : Nat} (hoff : off ≤ ops.size) (hty : ∀ t i, cx.ti t = some i → TyOk P t i) (hsig : ∀ ci f s, cx.sigs[ci]? = some (f, s) → Meets P (sp ci) f s) {rs : List Rec} {τ : List SV} {ω : List (Option Ob)} (ht : Tr cx kb nt ops.toList sp E (ops.toList.drop off) τ ω rs)
    (hback : backE 0 ops.toList = true) (hind : indep (ancs ops.toList []) off rs = true) (hQ : ∀ a' W' ρ', Sim w0 F0 E (wr τ ω (selW (fun _ => true) 0 rs)).1 (wr τ ω (selW (fun _ => true) 0 rs)).2 a' W' ρ' → Q .normal a' W') :
    ∀ (fuel : Nat) (listed : Array Bool) {a : Act} {W : World} {ρ : Nat → Value}, listed.size = ops.size → ((List.range ops.size).filter (fun j => !listed.getD j true)).length = fuel → (∀ j, j < off → listed.getD j false = true) →
    (∀ i, listed.getD i false = true → ∀ k ∈ (ancs ops.toList []).getD i [], listed.getD k false = true) → Sim w0 F0 E (wr τ ω (selW (fun i => listed.getD (off + i) false) 0 rs)).1 (wr τ ω (selW (fun i => listed.getD (off + i) false) 0 rs)).2 a W ρ → wpAny P .any ops Q fuel listed a W := by
  have hlen : rs.length = ops.size - off := by rw [ht.len]; simp
  have hdone : ∀ (listed : Array Bool) {a : Act} {W : World} {ρ : Nat → Value}, listed.size = ops.size → Region.ready .any ops listed = [] → Sim w0 F0 E (wr τ ω (selW (fun i => listed.getD (off + i) false) 0 rs)).1 (wr τ ω (selW (fun i => listed.getD (off + i) false) 0 rs)).2 a W ρ → Q .normal a W := by
    intro listed a W ρ hsz hnil hs
    have hall : ∀ i, i < ops.size → listed.getD i false = true := by
      intro i
      induction i using Nat.strongRecOn with
      | _ i ih =>
        intro hi
        cases hL : listed.getD i false with
        | true => rfl
        | false =>
          exfalso
          have hmem : i ∈ Region.ready .any ops listed := by
            unfold Region.ready
            rw [List.mem_filter]
            refine ⟨List.mem_range.2 hi, ?_⟩
            have hL' : listed.getD i true = false := by
              have hlt : i < listed.size := by omega
              rw [Array.getD_eq_getD_getElem?, Array.getElem?_eq_getElem hlt] at hL ⊢
              exact hL
            rw [hL', Array.getElem?_eq_getElem hi]
            simp only [Bool.not_false, Bool.true_and, Option.map_some, Option.getD_some]
            rw [Array.all_eq_true']
            intro e he
            cases hb : Region.binds .any e with
            | false => rfl
            | true =>
              have hlt := backE_ok hback i ops[i] (by simp [hi]) e (by simpa using he) hb
              simp only [Bool.not_true, Bool.false_or]
              exact ih e.on (by omega) (by omega)
          rw [hnil] at hmem
          cases hmem
    refine hQ a W ρ ?_
    rw [selW_congr (L := fun i => listed.getD (off + i) false) (L' := fun _ => true) rs 0 (fun i hi => by
      rw [Nat.zero_add]; exact hall _ (by omega))] at hs
    exact hs
  intro fuel
  induction fuel with
  | zero =>
    intro listed a W ρ hsz hcount hpre hcl hs
    have hnil : Region.ready .any ops listed = [] := by
      unfold Region.ready
      rw [List.filter_eq_nil_iff]
      intro i hi
      have h0 := List.eq_nil_of_length_eq_zero hcount
      rw [List.filter_eq_nil_iff] at h0
      have := h0 i hi
      simp only [Bool.not_eq_true', Bool.not_eq_false] at this
      rw [this]
      simp
    exact ⟨hnil, hdone listed hsz hnil hs⟩
  | succ fuel ih =>
    intro listed a W ρ hsz hcount hpre hcl hs
    refine ⟨fun hnil => hdone listed hsz hnil hs, fun i hi => ?_⟩
    unfold Region.ready at hi
    rw [List.mem_filter] at hi
    obtain ⟨hi1, hi2⟩ := hi
    have hi1 := List.mem_range.1 hi1
    have hiL : i < listed.size := by omega
    rw [Bool.and_eq_true] at hi2
    obtain ⟨hi2, hi3⟩ := hi2
    have hLt : listed.getD i true = false := by simpa using hi2
    have hL : listed.getD i false = false := by
      rw [Array.getD_eq_getD_getElem?, Array.getElem?_eq_getElem hiL] at hLt ⊢
      exact hLt
    have hoi : off ≤ i := by
      rcases Nat.lt_or_ge i off with h | h
      · have := hpre i h
        rw [hL] at this; cases this
      · exact h
    obtain ⟨n, rfl⟩ : ∃ n, i = off + n := ⟨i - off, by omega⟩
    have hri : n < rs.length := by omega
    have hro : ops[off + n]? = some ops[off + n] := Array.getElem?_eq_getElem hi1
    rw [hro] at hi3
    simp only [Option.map_some, Option.getD_some] at hi3
    rw [Array.all_eq_true'] at hi3
    have hanc : ∀ k ∈ (ancs ops.toList []).getD (off + n) [], listed.getD k false = true := by
      intro k hk
      obtain ⟨e, he, hb, hk⟩ := (ancs_ok ops.toList []).2 (off + n) ops[off + n] (by simp [hi1]) k (by simpa using hk)
      have := hi3 e (by simpa using he)
      rw [hb] at this
      simp only [Bool.not_true, Bool.false_or] at this
      rcases hk with rfl | hk
      · exact this
      · exact hcl _ this k hk
    have hr : rs[n]? = some rs[n] := List.getElem?_eq_getElem hri
    have hrec := ht.at_ 0 (i := n) (o := ops[off + n]) (r := rs[n]) (by rw [List.getElem?_drop]; simp [hi1]) hr
    have hlog : ∀ l ∈ rs[n].log, LocEq (wr τ ω (selW (fun _ => true) 0 (rs.take n))).1 (wr τ ω (selW (fun i => listed.getD (off + i) false) 0 rs)).1 (wr τ ω (selW (fun _ => true) 0 (rs.take n))).2 (wr τ ω (selW (fun i => listed.getD (off + i) false) 0 rs)).2 l := by
      intro l hl
      have hti : (rs.take n).length = n := by rw [List.length_take]; omega
      have e2 : selW (fun i => listed.getD (off + i) false) 0 rs = selW (fun i => listed.getD (off + i) false) 0 (rs.take n) ++ selW (fun i => listed.getD (off + i) false) n (rs.drop n) := by
        conv => lhs; rw [← List.take_append_drop n rs]
        rw [selW_append, hti, Nat.zero_add]
      rw [e2, wr_append]
      refine (sel_eq (L := fun i => listed.getD (off + i) false) (rs.take n) 0 τ ω fun j q hq hLj w hw e => ?_).trans (wr_far _ _ _ fun w hw e => ?_).symm
      · have hj : j < n := by have := (List.getElem?_eq_some_iff.1 hq).1; omega
        rw [List.getElem?_take, if_pos hj] at hq
        have hLj : listed.getD (off + j) false = false := by simpa using hLj
        rcases indep_ok hind j n q rs[n] hj hq hr with h1 | h1
        · rw [hanc _ h1] at hLj; cases hLj
        · simp only [apartR, Bool.and_eq_true] at h1
          exact disj_ok h1.1.1 _ (List.mem_map_of_mem hw) (e ▸ hl)
      · obtain ⟨j, q, h1, h2, h3⟩ := selW_mem hw
        rw [List.getElem?_drop] at h1
        have hne : j ≠ 0 := by
          rintro rfl
          simp only [Nat.add_zero] at h2
          rw [hL] at h2; cases h2
        rcases indep_ok hind n (n + j) rs[n] q (by omega) hr h1 with h4 | h4
        · have := hcl _ h2 _ h4
          rw [hL] at this; cases this
        · simp only [apartR, Bool.and_eq_true] at h4
          exact disj_ok h4.2 _ hl (e ▸ List.mem_map_of_mem h3)
    have hL' : ∀ j, (listed.setIfInBounds (off + n) true).getD j false = (listed.getD j false || decide (j = off + n)) := by
      intro j
      simp only [Array.getD_eq_getD_getElem?, Array.getElem?_setIfInBounds]
      by_cases hji : off + n = j
      · subst hji; simp [hiL]
      · simp [hji, Ne.symm hji]
    unfold wpOp
    rw [hro]
    refine rec_wp hs (hrec.move hlog) hty hsig fun a' W' ⟨ρ', hg⟩ => ?_
    refine ih _ (by simpa using hsz) ?_ (fun j hj => by rw [hL', hpre j hj]; rfl) ?_ (ρ := ρ') ?_
    · have hc := count_set (n := ops.size) (fun j => listed.getD j true) (fun j => (listed.setIfInBounds (off + n) true).getD j true) (off + n) hi1 hLt (fun j => by
        simp only [Array.getD_eq_getD_getElem?, Array.getElem?_setIfInBounds]
        by_cases hji : off + n = j
        · subst hji; simp [hiL]
        · simp [hji, Ne.symm hji])
      omega
    · intro j hj k hk
      rw [hL'] at hj ⊢
      rw [Bool.or_eq_true, decide_eq_true_eq] at hj ⊢
      rcases hj with hj | rfl
      · exact .inl (hcl j hj k hk)
      · exact .inl (hanc k hk)
    · rw [sel_step (L := fun i => listed.getD (off + i) false) (L' := fun i => (listed.setIfInBounds (off + n) true).getD (off + i) false) hr hL (fun j => by rw [hL']; congr 1; rw [decide_eq_decide]; omega) (fun j q hij hq hLj x hx y hy => ?_)]
      · exact hg
      · rcases indep_ok hind n j rs[n] q hij hr hq with h4 | h4
        · have := hcl _ hLj _ h4
          rw [hL] at this; cases this
        · simp only [apartR, Bool.and_eq_true] at h4
          intro e
          exact disj_ok h4.1.2 _ (List.mem_map_of_mem hx) (e ▸ List.mem_map_of_mem hy)
theorem listed0 (ops : Array Oper) (rs : List Rec) : ((List.range ops.size).filter (fun j => !(Array.replicate ops.size false).getD j true)).length = ops.size ∧ (∀ i, (Array.replicate ops.size false).getD i false = false) ∧ selW (fun i => (Array.replicate ops.size false).getD i false) 0 rs = [] := by
  have hf : ∀ i, (Array.replicate ops.size false).getD i false = false := by
    intro i
    simp only [Array.getD_eq_getD_getElem?, Array.getElem?_replicate]
    split <;> simp
  refine ⟨?_, hf, ?_⟩
  · have : (List.range ops.size).filter (fun j => !(Array.replicate ops.size false).getD j true) = List.range ops.size := by
      rw [List.filter_eq_self]
      intro j hj
      have := List.mem_range.1 hj
      simp [Array.getD_eq_getD_getElem?, this]
    rw [this]; simp
  · have : ∀ (rs : List Rec) (j : Nat), selW (fun i => (Array.replicate ops.size false).getD i false) j rs = [] := by
      intro rs
      induction rs with
      | nil => intro j; rfl
      | cons r rs ih => intro j; rw [selW, ih, hf]; rfl
    exact this rs 0
theorem ancs_lt {ops : Array Oper} (hback : backE 0 ops.toList = true) : ∀ j, j < ops.size → ∀ q ∈ (ancs ops.toList []).getD j [], q < j := by
  intro j
  induction j using Nat.strongRecOn with
  | _ j ih =>
    intro hjl q hq
    obtain ⟨e, he, hb, hk⟩ := (ancs_ok ops.toList []).2 j ops[j] (by simp [hjl]) q (by simpa using hq)
    have hej := backE_ok hback j ops[j] (by simp [hjl]) e he hb
    rw [Nat.zero_add] at hej
    rcases hk with rfl | hk
    · exact hej
    · exact Nat.lt_trans (ih e.on hej (by omega) q hk) hej
theorem selW_none {L : Nat → Bool} (h : ∀ j, L j = false) : ∀ (rs : List Rec) (j : Nat), selW L j rs = []
  | [], _ => rfl
  | r :: rs, j => by rw [selW, selW_none h rs, h]; rfl
theorem seg_ok {Q : Exit → Act → World → Prop} {inl : Inl} {ops : Array Oper} {k : St → Option T} (hinl : InlOk P w0 F sp N res inl fx) (hfn : ∀ g ∈ fx.fns, FnOk P g) (hty : ∀ t i, fx.cx.ti t = some i → TyOk P t i) (hsig : ∀ ci f s, fx.cx.sigs[ci]? = some (f, s) → Meets P (sp ci) f s) (hback : backE 0 ops.toList = true) :
    ∀ (m off : Nat) (hoff : off ≤ ops.size) {s : St} {t : T} {E : Env} {ks : Ks} {a : Act} {W : World}, segRun inl fx ops.toList (ancs ops.toList []) m off s k = some t → den sp N t E ks = some res → Inv w0 F η E ks s a W → (∀ a' W', PostK w0 F η sp N res s.kb k E ks a' W' → Q .normal a' W') →
    ∀ (fuel : Nat) (listed : Array Bool), listed.size = ops.size → ((List.range ops.size).filter (fun j => !listed.getD j true)).length = fuel → (∀ j, listed.getD j false = decide (j < off)) → wpAny P .any ops Q fuel listed a W := by
  intro m
  induction m with
  | zero => intro off hoff s t E ks a W hx; cases hx
  | succ m ih =>
    intro off hoff s t E ks a W hx hd hi fin fuel listed hz hc hl
    have hcl : ∀ i, listed.getD i false = true → ∀ q ∈ (ancs ops.toList []).getD i [], listed.getD q false = true := by
      intro j hj q hq
      rw [hl] at hj ⊢
      have hj := of_decide_eq_true hj
      have := ancs_lt hback j (by omega) q hq
      simp; omega
    have hnone : ∀ rs, selW (fun j => listed.getD (off + j) false) 0 rs = [] := fun rs => selW_none (fun j => by rw [hl]; simp) rs 0
    rw [segRun] at hx
    obtain ⟨ρ, hs⟩ := hi.sim
    cases hsp : splitAtI fx.fns (ancs ops.toList []) ops.toList.length (ops.toList.drop off) off with
    | none =>
      rw [hsp] at hx
      simp only at hx
      obtain ⟨E', s', rs, t', h1, h2, h3, h4, h5, h6, hkb, hσ, h7, h8⟩ := regRun_path (rs0 := []) hx hd hi.len hi.kn
      have hs' := hs.env (fun x d hx => h3.val hx)
      simp only [List.nil_append] at h1
      split at h1
      · rename_i hind
        refine any_wp_tail (off := off) (F0 := ⟨F, s.σ, η⟩) hoff hty hsig h7 hback hind (fun a' W' ρ' hh => ?_) fuel listed hz hc (fun j hj => by rw [hl]; simp; omega) hcl (ρ := ρ) (by rw [hnone]; exact hs')
        rw [← h8] at hh
        exact fin a' W' ⟨s', t', E', ks, h1, h2, h3, KPre.refl _, hkb, h4, h5, h6.trans hi.lvl, ρ', by rw [hσ]; exact hh⟩
      · cases h1
    | some i =>
      rw [hsp] at hx
      simp only at hx
      split at hx
      · rename_i o' hoi
        split at hx
        · rename_i hcond
          simp only [Bool.and_eq_true, Option.isNone_iff_eq_none, midB] at hcond
          obtain ⟨⟨⟨hanc, haft⟩, hgd⟩, hoi2⟩ := hcond
          have hoi2 := Nat.le_of_ble_eq_true hoi2
          obtain ⟨n, rfl⟩ : ∃ n, i = off + n := ⟨i - off, by omega⟩
          have hil : off + n < ops.size := by have := (List.getElem?_eq_some_iff.1 hoi).1; simpa using this
          have hafter : ∀ j, off + n < j → j < ops.size → off + n ∈ (ancs ops.toList []).getD j [] := fun j h1 h2 => by
            have := List.all_eq_true.1 haft j (List.mem_range.2 (by simpa using h2))
            rw [Bool.or_eq_true] at this
            rcases this with h | h
            · have := of_decide_eq_true h; omega
            · exact List.contains_iff_mem.1 h
          rw [show off + n - off = n by omega] at hx
          obtain ⟨E', s', rs, t', h1, h2, h3, h4, h5, h6, hkb, hσ, h7, h8⟩ := regRun_path (rs0 := []) hx hd hi.len hi.kn
          have hs' := hs.env (fun x d hx => h3.val hx)
          simp only [List.nil_append] at h1
          split at h1
          · rename_i hind
            refine any_wp_mido (off := off) (n := n) (F0 := ⟨F, s.σ, η⟩) hil hty hsig h7 hback hind hanc hafter (fun a' W' ρ' hh => ?_) fuel listed hz hc (by rw [hl]; simp) (fun j hj => by rw [hl]; simp; omega) hcl (ρ := ρ) (by rw [hnone]; exact hs')
            rw [← h8] at hh
            have hi' : Inv w0 F η E' ks s' a' W' := ⟨h4, h5, h6.trans hi.lvl, ρ', by rw [hσ]; exact hh⟩
            have hget : ops[off + n]? = some o' := by simpa using hoi
            unfold wpOp
            rw [hget]
            simp only [Region.wanted, hgd, if_true]
            refine .inl ?_
            have next : ∀ a2 W2, PostK w0 F η sp N res s'.kb (fun s2 => segRun inl fx ops.toList (ancs ops.toList []) m (off + n + 1) s2 k) E' ks a2 W2 → ∀ (fuel : Nat) (listed : Array Bool), listed.size = ops.size → ((List.range ops.size).filter (fun j => !listed.getD j true)).length = fuel → (∀ j, listed.getD j false = decide (j ≤ off + n)) → wpAny P .any ops Q fuel listed a2 W2 := by
              rintro a2 W2 ⟨s2, t2, E2, ks2, g1, g2, g3, g4, g5, g6⟩ fuel listed hz hc hl
              refine ih (off + n + 1) (by omega) g1 g2 g6 (fun a3 W3 hp => fin a3 W3 ?_) fuel listed hz hc (fun j => by rw [hl, decide_eq_decide]; omega)
              rw [g5, hkb] at hp
              exact hp.mono (h3.trans g3) g4
            split at h1
            · rename_i g vs ho
              exact inl_ok hinl hfn ho h1 h2 hi' next
            · exact do_ok hty hsig h1 h2 hi' fun a2 W2 r hp => next a2 W2 hp
          · cases h1
        · cases hx
      · cases hx
theorem exec_ok {inl : Inl} (hm : P.follows .mixedOrders = true) (hfn : ∀ g ∈ fx.fns, FnOk P g) (hinl : InlOk P w0 F sp N res inl fx) (hty : ∀ t i, fx.cx.ti t = some i → TyOk P t i) (hsig : ∀ ci f s, fx.cx.sigs[ci]? = some (f, s) → Meets P (sp ci) f s) : ∀ (c : Code) {s : St} {k : Ex → St → Option T} {t : T} {E : Env} {ks : Ks} {a : Act} {W : World},
    exec inl fx c s k = some t → den sp N t E ks = some res → Inv w0 F η E ks s a W → c.wp P (Post w0 F η sp N res s.kb k E ks) a W := by
  intro c
  induction c with
  | skip =>
    intro s k t E ks a W hx hd hi
    exact wp_skip ⟨.normal, s, t, E, ks, trivial, hx, hd, Pre.refl _, KPre.refl _, rfl, hi⟩
  | label l =>
    intro s k t E ks a W hx hd hi
    exact wp_label ⟨.normal, s, t, E, ks, trivial, hx, hd, Pre.refl _, KPre.refl _, rfl, hi⟩
  | exit id =>
    intro s k t E ks a W hx hd hi
    exact wp_exit ⟨.exit id, s, t, E, ks, rfl, hx, hd, Pre.refl _, KPre.refl _, rfl, hi⟩
  | ret =>
    intro s k t E ks a W hx hd hi
    exact wp_ret ⟨.ret, s, t, E, ks, trivial, hx, hd, Pre.refl _, KPre.refl _, rfl, hi⟩
  | region id ops draw =>
    intro s k t E ks a W hx hd hi
    have fin : ∀ a' W', PostK w0 F η sp N res s.kb (fun s' => k .normal s') E ks a' W' → Post w0 F η sp N res s.kb k E ks .normal a' W' := fun a' W' ⟨s', t', E', ks', g1, g2, g3, g4, g5, g6⟩ => ⟨.normal, s', t', E', ks', trivial, g1, g2, g3, g4, g5, g6⟩
    unfold exec at hx
    cases draw with
    | false =>
      simp only [if_true] at hx
      exact wp_region_list (seq_ok hty hsig hfn hinl hx hd hi fin)
    | true =>
      simp only [Bool.true_eq_false, if_false] at hx
      split at hx
      · cases hx
      rename_i hback
      simp only [Bool.not_eq_false] at hback
      refine wp_region_any hm ?_
      obtain ⟨ρ, hs⟩ := hi.sim
      obtain ⟨l1, l2, l3⟩ := listed0 ops []
      exact seg_ok hinl hfn hty hsig hback 40 0 (Nat.zero_le _) hx hd ⟨hi.len, hi.kn, hi.lvl, ρ, hs.drew⟩ fin _ _ (by simp) l1 (fun j => by rw [l2]; simp)
  | seq x y ihx ihy =>
    intro s k t E ks a W hx hd hi
    unfold exec at hx
    refine wp_seq (wp_mono (ihx hx hd hi) fun e a' W' ⟨q, s', t', E', ks', h1, h2, h3, h4, h5, hkb, h6⟩ => ?_)
    cases q with
    | normal =>
      cases e with
      | normal => exact wp_mono (ihy h2 h3 h6) fun e a W hp => (hkb ▸ hp).mono h4 h5
      | _ => exact False.elim h1
    | exit i =>
      cases e with
      | exit j => exact ⟨.exit i, s', t', E', ks', h1, h2, h3, h4, h5, hkb, h6⟩
      | _ => exact False.elim h1
    | ret =>
      cases e with
      | ret => exact ⟨.ret, s', t', E', ks', h1, h2, h3, h4, h5, hkb, h6⟩
      | _ => exact False.elim h1
  | block id b ih =>
    intro s k t E ks a W hx hd hi
    unfold exec at hx
    refine wp_block (wp_mono (ih hx hd hi) fun e a' W' ⟨q, s', t', E', ks', h1, h2, h3, h4, h5, hkb, h6⟩ => ?_)
    cases q with
    | normal =>
      cases e with
      | normal => exact ⟨.normal, s', t', E', ks', trivial, h2, h3, h4, h5, hkb, h6⟩
      | _ => exact False.elim h1
    | exit i =>
      cases e with
      | exit j =>
        have h1 : i = j := h1
        subst h1
        simp only [Exit.inBlock]
        simp only at h2
        split at h2
        · rename_i hid; rw [if_pos hid]; exact ⟨.normal, s', t', E', ks', trivial, h2, h3, h4, h5, hkb, h6⟩
        · rename_i hid; rw [if_neg hid]; exact ⟨.exit i, s', t', E', ks', rfl, h2, h3, h4, h5, hkb, h6⟩
      | _ => exact False.elim h1
    | ret =>
      cases e with
      | ret => exact ⟨.ret, s', t', E', ks', trivial, h2, h3, h4, h5, hkb, h6⟩
      | _ => exact False.elim h1
  | cond c x y ihx ihy =>
    intro s k t E ks a W hx hd hi
    unfold exec at hx
    obtain ⟨ρ, hs⟩ := hi.sim
    split at hx
    · cases hx
    · rename_i ca hca
      obtain ⟨d, hda, hrep⟩ := evA_ok hs hca
      split at hx
      · rename_i hb
        rw [evB_ok hi.kn hb] at hda
        injection hda with hda; subst hda
        exact wp_cond_true (rep_b hrep) (ihx hx hd hi)
      · rename_i hb
        rw [evB_ok hi.kn hb] at hda
        injection hda with hda; subst hda
        exact wp_cond_false (rep_b hrep) (ihy hx hd hi)
      · split at hx
        · rename_i v hnone
          split at hx
          · rename_i tt te h1 h2
            injection hx with hx
            subst hx
            simp only [den] at hd
            split at hd
            · rename_i b hb
              rw [hb] at hda
              injection hda with hda; subst hda
              have hl : ∀ b', b' = b → KnOk E (learn s v b').kn := by
                rintro b' rfl v' b2 hm'
                rcases List.mem_cons.1 hm' with h | h
                · injection h with h3 h4; subst h3; subst h4; exact hb
                · exact hi.kn v' b2 h
              cases b with
              | true => simp only [if_true] at hd; exact wp_cond_true (rep_b hrep) (ihx (s := learn s v true) h1 hd ⟨hi.len, hl true rfl, hi.lvl, ρ, hs⟩)
              | false => simp only [Bool.false_eq_true, if_false] at hd; exact wp_cond_false (rep_b hrep) (ihy (s := learn s v false) h2 hd ⟨hi.len, hl false rfl, hi.lvl, ρ, hs⟩)
            · cases hd
          · cases hx
        · cases hx
  | loop b ih =>
    intro s k t E ks a W hx hd hi
    unfold exec at hx
    simp only at hx
    split at hx
    · rename_i hsame
      split at hx
      · rename_i tb htb
        injection hx with hx
        subst hx
        simp only [den] at hd
        split at hd
        · rename_i dv hdv
          obtain ⟨ρ1, hs1⟩ := hi.sim.norm (dstsC b) (hintOf b fx.hints)
          have hs2 := Sim.gens (Pre.refl E) hi.len hdv hsame hs1
          have hl := vals_len hdv
          generalize hp0 : normS (dstsC b) (hintOf b fx.hints) s = p0 at *
          generalize hg0 : gen s.kb s.n p0.1 p0.2.1 (hintOf b fx.hints) = g0 at *
          refine wp_loop_n (fun M a W => ∃ dv ρ, dv.length = dv.length ∧ dv.length = g0.2.length ∧ iterT (fun again ds => den sp N tb (E ++ ds) (ks ++ [again])) M dv = some res ∧ Sim w0 ⟨F, p0.2.2, η⟩ (E ++ dv) g0.1.1 g0.1.2 a W ρ) (fun M a W hI => ?_) (n := N) ⟨dv, ρ1, rfl, hl, hd, hs2⟩
          obtain ⟨dv, ρ2, _, hl2, hit, hs3⟩ := hI
          cases M with
          | zero => cases hit
          | succ M =>
            simp only [iterT] at hit
            have hpre : Pre E (E ++ dv) := ⟨dv, rfl⟩
            refine wp_mono (ih htb hit ⟨by simp [hi.len, hl2], hpre.kn hi.kn, by simp [hi.lvl], ρ2, hs3⟩) fun e a' W' ⟨q, s', t', E', ks', h1, h2, h3, h4, h5, hkb, h6⟩ => ?_
            have hkp : KPre ks ks' := by
              obtain ⟨D, rfl⟩ := h5
              exact ⟨[_] ++ D, by rw [List.append_assoc]⟩
            cases q with
            | normal =>
              cases e with
              | normal =>
                simp only at h2
                split at h2
                · rename_i hcond
                  injection h2 with h2
                  subst h2
                  simp only [den] at h3
                  split at h3
                  · rename_i kk dv' hkk hdv'
                    obtain ⟨D, hD⟩ := h5
                    have : ks'[s.lvl]? = some (iterT (fun again ds => den sp N tb (E ++ ds) (ks ++ [again])) M) := by
                      rw [hD, List.getElem?_append_left (by simp [hi.lvl]), hi.lvl]
                      simp
                    rw [this] at hkk
                    injection hkk with hkk
                    subst hkk
                    obtain ⟨ρ4, hs5⟩ := h6.sim.norm (dstsC b) (hintOf b fx.hints)
                    have hs6 := Sim.gens (hpre.trans h4) hi.len hdv' hcond.2.2 hs5
                    exact ⟨M, Nat.lt_succ_self _, dv', ρ4, rfl, (vals_len hdv').trans hcond.2.1, h3, hs6⟩
                  · cases h3
                · cases h2
              | _ => exact False.elim h1
            | exit i =>
              cases e with
              | exit j => exact ⟨.exit i, s', t', E', ks', h1, h2, h3, hpre.trans h4, hkp, hkb, h6⟩
              | _ => exact False.elim h1
            | ret =>
              cases e with
              | ret => exact ⟨.ret, s', t', E', ks', trivial, h2, h3, hpre.trans h4, hkp, hkb, h6⟩
              | _ => exact False.elim h1
        · cases hd
      · cases hx
    · cases hx
  | _ => intro s k t E ks a W hx hd hi; cases hx
theorem partsOf_ok {c : Ctx} : ∀ {svs : List SV} {ps : List (Bool × List C1)}, partsOf svs = some ps → ∀ {us : List Value}, us.length = svs.length → (∀ (j : Nat) (sv : SV) (u : Value), svs[j]? = some sv → us[j]? = some u → SVR c sv u) → PRs c ps us
  | [], ps, h, us, hl, hj => by
    simp only [partsOf, Option.some.injEq] at h
    subst h
    have : us = [] := List.eq_nil_of_length_eq_zero (by simpa using hl)
    subst this
    trivial
  | v :: vs, ps, h, [], hl, hj => by simp at hl
  | v :: vs, ps, h, u :: us, hl, hj => by
    unfold partsOf at h
    split at h
    · rename_i p qs hp hq
      injection h with h
      subst h
      refine ⟨?_, partsOf_ok hq (by simpa using hl) fun j sv u hs hu => hj (j + 1) sv u (by simpa using hs) (by simpa using hu)⟩
      have hv := hj 0 v u rfl rfl
      unfold partOf at hp
      split at hp
      · injection hp with hp; subst hp
        exact ⟨_, rfl, hv⟩
      · injection hp with hp; subst hp
        exact hv
      · cases hp
    · cases h
theorem resVal_ok {c : Ctx} {svs : List SV} {sv : SV} (h : resVal svs = some sv) {us : List Value} (hl : us.length = svs.length) (hj : ∀ (j : Nat) (sv : SV) (u : Value), svs[j]? = some sv → us[j]? = some u → SVR c sv u) : SVR c sv (if h : us.toArray.size = 1 then us.toArray[0] else .tuple us.toArray) := by
  match svs, us, hl with
  | [v], [u], hl =>
    have hv := hj 0 v u rfl rfl
    unfold resVal at h
    cases v with
    | tup ps => cases h
    | one x => injection h with h; subst h; exact hv
    | agg x => injection h with h; subst h; exact hv
  | [], us, hl =>
    have : us = [] := List.eq_nil_of_length_eq_zero (by simpa using hl)
    subst this
    simp only [resVal, partsOf, Option.map_some, Option.some.injEq] at h
    subst h
    exact ⟨[], rfl, trivial⟩
  | v :: v' :: vs, us, hl =>
    simp only [resVal, Option.map_eq_some_iff] at h
    obtain ⟨ps, hp, rfl⟩ := h
    have hn : ¬ us.toArray.size = 1 := by simp; simp at hl; omega
    rw [dif_neg hn]
    exact ⟨us, rfl, partsOf_ok hp (by simpa using hl) hj⟩
  | [v], [], hl => simp at hl
  | [v], _ :: _ :: _, hl => simp at hl
theorem SVRs.append {c : Ctx} : ∀ {xs ys : List SV} {vs us : List Value}, SVRs c xs vs → SVRs c ys us → SVRs c (xs ++ ys) (vs ++ us)
  | [], _, [], _, _, h => h
  | _ :: _, _, _ :: _, _, h, k => ⟨h.1, SVRs.append h.2 k⟩
theorem SVRs.of {c : Ctx} : ∀ {xs : List SV} {vs : List Value}, xs.length = vs.length → (∀ (j : Nat) (x : SV) (v : Value), xs[j]? = some x → vs[j]? = some v → SVR c x v) → SVRs c xs vs
  | [], [], _, _ => trivial
  | x :: xs, v :: vs, hl, h => ⟨h 0 x v rfl rfl, SVRs.of (by simpa using hl) fun j d v hd hv => h (j + 1) d v (by simpa using hd) (by simpa using hv)⟩
theorem SVRs.get {c : Ctx} : ∀ {xs : List SV} {vs : List Value}, SVRs c xs vs → ∀ {j : Nat} {x : SV}, xs[j]? = some x → ∃ v, vs[j]? = some v ∧ SVR c x v
  | _ :: _, v :: _, h, 0, x, hx => by
    simp only [List.getElem?_cons_zero, Option.some.injEq] at hx
    subst hx
    exact ⟨v, rfl, h.1⟩
  | _ :: _, _ :: _, h, j + 1, x, hx => by simpa using SVRs.get h.2 (by simpa using hx)
theorem SVRs.drop {c : Ctx} : ∀ (n : Nat) {xs : List SV} {vs : List Value}, SVRs c xs vs → SVRs c (xs.drop n) (vs.drop n)
  | 0, _, _, h => h
  | n + 1, [], [], _ => trivial
  | n + 1, _ :: _, _ :: _, h => SVRs.drop n h.2
theorem inlD_ok (hm : P.follows .mixedOrders = true) : ∀ (d : Nat) (fx : Fx), (∀ t i, fx.cx.ti t = some i → TyOk P t i) → (∀ ci f s, fx.cx.sigs[ci]? = some (f, s) → Meets P (sp ci) f s) → (∀ g ∈ fx.fns, FnOk P g) → InlOk P w0 F sp N res (inlD d) fx
  | 0, fx, _, _, _ => by
    intro η g vs us o s k t E ks a W hg hr
    cases hr
  | d + 1, fx, hty, hsig, hfn => by
    intro η g vs us o s k t E ks a W hg hr hd hi hargs
    obtain ⟨fn, f1, f2, f3, f4, f5⟩ := hfn g hg
    unfold inlD at hr
    split at hr
    · cases hr
    rename_i hnt
    have ih := inlD_ok hm d { fx with cx := { fx.cx with cut := g.cut }, nt := g.nt, hints := g.hints } hty hsig hfn
    obtain ⟨ρ, hs⟩ := hi.sim
    obtain ⟨hul, huj⟩ := hargs ρ hs
    have hsT := hs.topAll (rowArgs s.τ o)
    refine calls_of_wp f1 f3 ?_
    have hinit : Inv w0 F (a.tmps.toList ++ η) E ks { s with τ := vs ++ List.replicate (g.nt - vs.length) (.one .und), kb := s.kb + fx.mul * fx.nt, σ := topAll s.τ (rowArgs s.τ o) ++ s.σ } { tmps := us.toArray ++ Array.replicate (fn.ntmps - us.toArray.size) undef, defers := [] } W := by
      refine ⟨hi.len, hi.kn, hi.lvl, ρ, ⟨hs.below, hs.low, SVRs.append (SVRs.of (by simp [hsT.size]) fun j x v hx hv => ?_) hs.held, rfl, ?_, fun t sv ht => ?_, hs.objs, hs.dj⟩⟩
      · have := hsT.tmps j x hx
        have hv' : a.tmps.getD j undef = v := by
          rw [Array.getD_eq_getD_getElem?]
          rw [Array.getElem?_toList] at hv
          rw [hv]; rfl
        rw [hv'] at this
        exact this
      · simp only [Array.size_append, List.size_toArray, Array.size_replicate, List.length_append, List.length_replicate, f4, hul]
      · by_cases hlt : t < vs.length
        · rw [List.getElem?_append_left hlt] at ht
          have e1 : (us.toArray ++ Array.replicate (fn.ntmps - us.toArray.size) undef).getD t undef = us[t]'(by omega) := by
            rw [Array.getD_eq_getD_getElem?, Array.getElem?_append_left (by simp; omega)]
            simp [show t < us.length by omega]
          simp only [e1]
          exact huj t sv _ ht (List.getElem?_eq_getElem (by omega))
        · rw [List.getElem?_append_right (by omega), List.getElem?_replicate] at ht
          split at ht
          · injection ht with ht; subst ht
            show (us.toArray ++ Array.replicate (fn.ntmps - us.toArray.size) undef).getD t undef = undef
            rw [Array.getD_eq_getD_getElem?, Array.getElem?_append_right (by simp; omega), Array.getElem?_replicate]
            split <;> rfl
          · cases ht
    refine wp_mono (exec_ok (fx := { fx with cx := { fx.cx with cut := g.cut }, nt := g.nt, hints := g.hints }) hm hfn ih hty hsig g.body hr hd hinit) fun e a2 W2 ⟨x, s2, t', E', ks', h1, h2, h3, h4, h5, hkb, h6⟩ => ?_
    have fin : (match (resOf fx.cx g.results).run s2.τ s2.ω with
        | none => none
        | some svs => match resVal svs with
          | none => none
          | some sv =>
            k { s2 with τ := (toPool fx.pool ((wr (s2.σ.take s.τ.length) s2.ω (dstW o sv)).1, dropAll (wr (s2.σ.take s.τ.length) s2.ω (dstW o sv)).1 (wr (s2.σ.take s.τ.length) s2.ω (dstW o sv)).2 (s2.σ.drop s.τ.length) (List.range (wr (s2.σ.take s.τ.length) s2.ω (dstW o sv)).2.length), s2.σ.drop s.τ.length) (List.range' (s.kb + fx.mul * fx.nt) (fx.mul * g.nt))).1, ω := (toPool fx.pool ((wr (s2.σ.take s.τ.length) s2.ω (dstW o sv)).1, dropAll (wr (s2.σ.take s.τ.length) s2.ω (dstW o sv)).1 (wr (s2.σ.take s.τ.length) s2.ω (dstW o sv)).2 (s2.σ.drop s.τ.length) (List.range (wr (s2.σ.take s.τ.length) s2.ω (dstW o sv)).2.length), s2.σ.drop s.τ.length) (List.range' (s.kb + fx.mul * fx.nt) (fx.mul * g.nt))).2.1, σ := (toPool fx.pool ((wr (s2.σ.take s.τ.length) s2.ω (dstW o sv)).1, dropAll (wr (s2.σ.take s.τ.length) s2.ω (dstW o sv)).1 (wr (s2.σ.take s.τ.length) s2.ω (dstW o sv)).2 (s2.σ.drop s.τ.length) (List.range (wr (s2.σ.take s.τ.length) s2.ω (dstW o sv)).2.length), s2.σ.drop s.τ.length) (List.range' (s.kb + fx.mul * fx.nt) (fx.mul * g.nt))).2.2, kb := s.kb }) = some t' →
        a2.defers = [] ∧ ∃ v, (results fn a2.tmps).run P W2 = .ok v W2 ∧ ∃ v', Ending.returned v = .returned v' ∧ PostK w0 F η sp N res s.kb k E ks (a.put o.dst v') W2 := by
      intro ho
      obtain ⟨ρ2, hs2⟩ := h6.sim
      split at ho
      · cases ho
      rename_i svs hsvs
      split at ho
      · cases ho
      rename_i sv hsv
      obtain ⟨vs2, k1, k2, k3⟩ := resOf_ok hs2 hty hsvs
      have hres : (results fn a2.tmps).run P W2 = .ok (if h : vs2.toArray.size = 1 then vs2.toArray[0] else .tuple vs2.toArray) W2 := by
        unfold results
        rw [Array.mapM_eq_mapM_toList, f5]
        simp only [Sem.run_bind, Sem.run_map, Sem.run_pure]
        exact congrArg (fun r => (Result.andThen (Result.andThen r fun a w' => Result.ok a.toArray w') fun a w' => Result.ok (if h : a.size = 1 then a[0] else Value.tuple a) w')) k1
      have hval := resVal_ok hsv k2 k3
      refine ⟨hs2.defers, _, hres, _, rfl, ?_⟩
      have hsz : s.τ.length = a.tmps.size := hs.size.symm
      have hhl := hs2.held.len
      simp only [List.length_append, Array.length_toList] at hhl
      have hback : Sim w0 ⟨F, s2.σ.drop s.τ.length, η⟩ E' (s2.σ.take s.τ.length) s2.ω a W2 ρ2 := by
        refine ⟨hs2.below, hs2.low, ?_, hs.defers, by rw [List.length_take]; omega, fun t sv ht => ?_, hs2.objs, hs2.dj⟩
        · have := SVRs.drop s.τ.length hs2.held
          simp only at this
          have e : List.drop s.τ.length (a.tmps.toList ++ η) = η := List.drop_left' (by simp [hsz])
          rw [e] at this
          exact this
        · rw [List.getElem?_take] at ht
          split at ht
          · rename_i hlt
            obtain ⟨v, hv, hr⟩ := hs2.held.get ht
            simp only at hv
            rw [List.getElem?_append_left (by simp; omega), Array.getElem?_toList] at hv
            have : a.tmps.getD t undef = v := by rw [Array.getD_eq_getD_getElem?, hv]; rfl
            rw [this]
            exact hr
          · cases ht
      have hdst := hback.dst o hval
      have hdrop := hdst.dropAll (List.range (wr (s2.σ.take s.τ.length) s2.ω (dstW o sv)).2.length)
      have hpool := SimP.toPool fx.pool (List.range' (s.kb + fx.mul * fx.nt) (fx.mul * g.nt)) (p := ((wr (s2.σ.take s.τ.length) s2.ω (dstW o sv)).1, dropAll (wr (s2.σ.take s.τ.length) s2.ω (dstW o sv)).1 (wr (s2.σ.take s.τ.length) s2.ω (dstW o sv)).2 (s2.σ.drop s.τ.length) (List.range (wr (s2.σ.take s.τ.length) s2.ω (dstW o sv)).2.length), s2.σ.drop s.τ.length)) ⟨ρ2, hdrop⟩
      exact ⟨_, t', E', ks', ho, h3, h4, h5, rfl, ⟨h6.len, h6.kn, h6.lvl, hpool⟩⟩
    cases x with
    | exit i => simp only at h2; cases h2
    | normal =>
      cases e with
      | normal => exact fin h2
      | _ => exact False.elim h1
    | ret =>
      cases e with
      | ret => exact fin h2
      | _ => exact False.elim h1
end
end Go.Proofs.YtnklncinjahckaaGreatDoor
namespace Go.Proofs.YtnklncinjahckaaGreatDoor
open Go.RowKit
set_option linter.unusedVariables false
set_option linter.unusedSimpArgs false
def ptrsOf : PK → Value → List Value
  | .ptr _, v => [v]
  | .clos _ _, .func _ _ caps => caps.toList
  | _, _ => []
def ptrsAll : List PK → List Value → List Value
  | p :: ps, v :: vs => ptrsOf p v ++ ptrsAll ps vs
  | _, _ => []
def ExtR (c : Ctx) (k : Nat) (o : Ob) : Prop := ∃ g q, ∃ cs, ∃ vs : List Value, o = .ext cs ∧ c.ρ k = .pointer (some ⟨g, q, none⟩) ∧ c.F g ∧ c.W.rangeAt g q vs ∧ C1Rs c cs vs
theorem reps_new {c : Ctx} {n : Nat} {ds : List Dt} {us : List Value} (h : Reps c.W c.F ds us) (hE : ∀ (j : Nat) (d : Dt), ds[j]? = some d → c.E[n + j]? = some d) {m : Nat} (hm : ds.length = m) : C1Rs c (newAts n m) us :=
  newAts_ok (by rw [← hm, h.len]) fun j u hu => by
    have hlt : j < ds.length := by rw [h.len]; exact (List.getElem?_eq_some_iff.1 hu).1
    obtain ⟨v, h1, h2⟩ := h.get (List.getElem?_eq_getElem hlt)
    rw [hu] at h1; injection h1 with h1; subst h1
    exact ⟨_, hE j _ (List.getElem?_eq_getElem hlt), h2⟩
theorem caps_ok {c : Ctx} : ∀ {ms : List Nat} {n k : Nat} {ds : List Dt} {us : List Value}, CapsR c.W c.F ms ds us → (∀ (j : Nat) (d : Dt), ds[j]? = some d → c.E[n + j]? = some d) → (∀ (j : Nat) (p : Value), us[j]? = some p → c.ρ (k + j) = p) → (∀ j, j < ms.length → c.L (k + j)) →
    CapRs c (closCaps k ms) us ∧ (∀ (j : Nat) (o : Ob), (closObs n ms)[j]? = some o → ExtR c (k + j) o) ∧ (closObs n ms).length = us.length ∧ ds.length = ms.sum ∧ ms.length = us.length
  | [], n, k, ds, us, h, hE, hρ, hL => by
    obtain ⟨rfl, rfl⟩ := h
    exact ⟨trivial, fun j o ho => by simp [closObs] at ho, rfl, rfl, rfl⟩
  | m :: ms, n, k, ds, us, h, hE, hρ, hL => by
    obtain ⟨d1, d2, v, vs, rfl, rfl, h1, ⟨g, q, ws, rfl, h3, h4, h5⟩, h6⟩ := h
    obtain ⟨k1, k2, k3, k4, k5⟩ := caps_ok (n := n + m) (k := k + 1) h6 (fun j d hd => by
        have := hE (m + j) d (by rw [List.getElem?_append_right (by omega), show m + j - d1.length = j by omega]; exact hd)
        rw [show n + m + j = n + (m + j) by omega]; exact this) (fun j p hp => by
        have := hρ (j + 1) p (by simpa using hp)
        rw [show k + 1 + j = k + (j + 1) by omega]; exact this) (fun j hj => by
        have := hL (j + 1) (by simpa using hj)
        rw [show k + 1 + j = k + (j + 1) by omega]; exact this)
    have hρ0 : c.ρ k = .pointer (some ⟨g, q, none⟩) := hρ 0 _ rfl
    refine ⟨⟨⟨hL 0 (by simp), g, q, hρ0, rfl⟩, k1⟩, fun j o ho => ?_, by simp [closObs, k3], by simp [h1, k4], by simp [k5]⟩
    cases j with
    | zero =>
      simp only [closObs, List.getElem?_cons_zero, Option.some.injEq] at ho
      exact ⟨g, q, _, ws, ho.symm, hρ0, h3, h4, reps_new h5 (fun j d hd => hE j d (by rw [List.getElem?_append_left (List.getElem?_eq_some_iff.1 hd).1]; exact hd)) h1⟩
    | succ j =>
      have := k2 j o (by simpa [closObs] using ho)
      rw [show k + (j + 1) = k + 1 + j by omega]; exact this
theorem initPK_ok {c : Ctx} {p : PK} {n k : Nat} {ds : List Dt} {v : Value} (h : PKR c.W c.F p ds v) (hE : ∀ (j : Nat) (d : Dt), ds[j]? = some d → c.E[n + j]? = some d) (hρ : ∀ (j : Nat) (q : Value), (ptrsOf p v)[j]? = some q → c.ρ (k + j) = q) (hL : ∀ j, j < (initPK n k p).2.1.length → c.L (k + j)) :
    SVR c (initPK n k p).1 v ∧ (∀ (j : Nat) (o : Ob), (initPK n k p).2.1[j]? = some o → ExtR c (k + j) o) ∧ (initPK n k p).2.2 = ds.length ∧ (initPK n k p).2.1.length = (ptrsOf p v).length := by
  cases p with
  | one =>
    obtain ⟨d, rfl, h2⟩ := h
    exact ⟨⟨d, hE 0 d rfl, h2⟩, fun j o ho => by simp [initPK] at ho, rfl, by cases v <;> rfl⟩
  | agg m =>
    obtain ⟨h1, us, rfl, h2⟩ := h
    exact ⟨⟨us, rfl, reps_new h2 hE h1⟩, fun j o ho => by simp [initPK] at ho, h1.symm, rfl⟩
  | ptr m =>
    obtain ⟨h1, g, q, us, rfl, h3, h4, h5⟩ := h
    have hρ0 : c.ρ k = .pointer (some ⟨g, q, none⟩) := hρ 0 _ rfl
    refine ⟨⟨hL 0 (by simp [initPK]), g, q, hρ0, rfl⟩, fun j o ho => ?_, h1.symm, rfl⟩
    cases j with
    | zero =>
      simp only [initPK, List.getElem?_cons_zero, Option.some.injEq] at ho
      exact ⟨g, q, _, us, ho.symm, hρ0, h3, h4, reps_new h5 hE h1⟩
    | succ j => simp [initPK] at ho
  | clos f ms =>
    obtain ⟨us, rfl, h1⟩ := h
    have hlen : ∀ (n : Nat) (ms : List Nat), (closObs n ms).length = ms.length := by
      intro n ms
      induction ms generalizing n with
      | nil => rfl
      | cons m ms ih => simp [closObs, ih]
    obtain ⟨k1, k2, k3, k4, k5⟩ := caps_ok (n := n) (k := k) h1 hE (fun j p hp => hρ j p (by simpa [ptrsOf] using hp)) (fun j hj => hL j (by simp only [initPK, hlen]; exact hj))
    exact ⟨⟨us, rfl, k1⟩, k2, k4.symm, by simpa [ptrsOf, initPK] using k3⟩
  | mine e sz => exact absurd h id
theorem initAll_ok {c : Ctx} : ∀ {ps : List PK} {n k : Nat} {ds : List Dt} {us : List Value}, PKRs c.W c.F ps ds us → (∀ (j : Nat) (d : Dt), ds[j]? = some d → c.E[n + j]? = some d) → (∀ (j : Nat) (q : Value), (ptrsAll ps us)[j]? = some q → c.ρ (k + j) = q) → (∀ j, j < (initAll n k ps).2.1.length → c.L (k + j)) →
    (∀ (j : Nat) (sv : SV) (u : Value), (initAll n k ps).1[j]? = some sv → us[j]? = some u → SVR c sv u) ∧ (∀ (j : Nat) (o : Ob), (initAll n k ps).2.1[j]? = some o → ExtR c (k + j) o) ∧ (initAll n k ps).2.2 = n + ds.length ∧ (initAll n k ps).1.length = us.length ∧ (initAll n k ps).2.1.length = (ptrsAll ps us).length
  | [], n, k, ds, us, h, hE, hρ, hL => by
    obtain ⟨rfl, rfl⟩ := h
    exact ⟨fun j sv u hs => by simp [initAll] at hs, fun j o ho => by simp [initAll] at ho, rfl, rfl, rfl⟩
  | p :: ps, n, k, ds, us, h, hE, hρ, hL => by
    obtain ⟨d1, d2, v, vs, rfl, rfl, h1, h2⟩ := h
    have hlt : ∀ j, j < (initPK n k p).2.1.length → j < (initAll n k (p :: ps)).2.1.length := fun j hj => by
      simp only [initAll, List.length_append]; omega
    obtain ⟨a1, a2, a3, a4⟩ := initPK_ok (n := n) (k := k) h1 (fun j d hd => hE j d (by rw [List.getElem?_append_left (List.getElem?_eq_some_iff.1 hd).1]; exact hd)) (fun j q hq => hρ j q (by
        simp only [ptrsAll]; rw [List.getElem?_append_left (List.getElem?_eq_some_iff.1 hq).1]; exact hq)) (fun j hj => hL j (hlt j hj))
    obtain ⟨b1, b2, b3, b4, b5⟩ := initAll_ok (n := n + (initPK n k p).2.2) (k := k + (initPK n k p).2.1.length) h2 (fun j d hd => by
        have := hE (d1.length + j) d (by rw [List.getElem?_append_right (by omega), show d1.length + j - d1.length = j by omega]; exact hd)
        rw [a3, show n + d1.length + j = n + (d1.length + j) by omega]; exact this) (fun j q hq => by
        have := hρ ((ptrsOf p v).length + j) q (by simp only [ptrsAll]; rw [List.getElem?_append_right (by omega), show (ptrsOf p v).length + j - (ptrsOf p v).length = j by omega]; exact hq)
        rw [a4, show k + (ptrsOf p v).length + j = k + ((ptrsOf p v).length + j) by omega]; exact this) (fun j hj => by
        have := hL ((initPK n k p).2.1.length + j) (by simp only [initAll, List.length_append]; omega)
        rw [show k + (initPK n k p).2.1.length + j = k + ((initPK n k p).2.1.length + j) by omega]; exact this)
    refine ⟨fun j sv u hs hu => ?_, fun j o ho => ?_, ?_, by simp [initAll, b4], by simp only [initAll, ptrsAll, List.length_append]; omega⟩
    · cases j with
      | zero =>
        simp only [initAll, List.getElem?_cons_zero, Option.some.injEq] at hs hu
        subst hs; subst hu; exact a1
      | succ j => exact b1 j sv u (by simpa [initAll] using hs) (by simpa using hu)
    · simp only [initAll] at ho
      by_cases hj : j < (initPK n k p).2.1.length
      · rw [List.getElem?_append_left hj] at ho; exact a2 j o ho
      · rw [List.getElem?_append_right (by omega)] at ho
        have := b2 _ o ho
        rw [show k + (initPK n k p).2.1.length + (j - (initPK n k p).2.1.length) = k + j by omega] at this
        exact this
    · simp only [initAll, List.length_append]; rw [b3]; omega
section
variable {P : Program} {w0 W : World} {F0 : Bk} {E : Env} {τ : List SV} {ω : List (Option Ob)} {a : Act} {ρ : Nat → Value} {cx : Cx} {sp : Nat → Spec}
theorem init_sim {F : Nat → Prop} {sig : Sig} {nt cap : Nat} {ds : List Dt} {args : List Value} (hF : Lows F W) (h : PKRs W F sig.args ds args) (hnt : sig.args.length ≤ nt) :
    ∃ ρ, Sim W ⟨F, [], []⟩ ds (initS sig nt cap).τ (initS sig nt cap).ω { tmps := args.toArray ++ Array.replicate (nt - args.toArray.size) undef, defers := [] } W ρ ∧ ds.length = (initS sig nt cap).n := by
  let ω := (initS sig nt cap).ω
  let ρ : Nat → Value := fun k => (ptrsAll sig.args args).getD (k - cap) undef
  have hω : ω = List.replicate cap none ++ (initAll 0 cap sig.args).2.1.map some := rfl
  have hob : ∀ k o, ω[k]? = some (some o) → ∃ j, k = cap + j ∧ (initAll 0 cap sig.args).2.1[j]? = some o := by
    intro k o hk
    rw [hω] at hk
    by_cases hlt : k < cap
    · rw [List.getElem?_append_left (by simpa using hlt), List.getElem?_replicate, if_pos hlt] at hk
      simp at hk
    · rw [List.getElem?_append_right (by simp; omega), List.length_replicate, List.getElem?_map, Option.map_eq_some_iff] at hk
      obtain ⟨o', h1, h2⟩ := hk
      injection h2 with h2; subst h2
      exact ⟨k - cap, by omega, h1⟩
  have hget : ∀ j o, (initAll 0 cap sig.args).2.1[j]? = some o → ω[cap + j]? = some (some o) := by
    intro j o ho
    rw [hω, List.getElem?_append_right (by simp), List.length_replicate, show cap + j - cap = j by omega, List.getElem?_map, ho]; rfl
  have hmore : ∀ b, F b → Frr W ⟨F, [], []⟩ ω ρ W b → True := fun _ _ _ => trivial
  have hext : ∀ (ps : List PK) (n k j : Nat) (o : Ob), (initAll n k ps).2.1[j]? = some o → ∃ cs, o = .ext cs := by
    intro ps
    induction ps with
    | nil => intro n k j o ho; simp [initAll] at ho
    | cons p ps ih =>
      intro n k j o ho
      simp only [initAll] at ho
      by_cases hj : j < (initPK n k p).2.1.length
      · rw [List.getElem?_append_left hj] at ho
        cases p with
        | one => simp [initPK] at ho
        | agg m => simp [initPK] at ho
        | mine e sz => simp [initPK] at ho
        | ptr m =>
          cases j with
          | zero => simp only [initPK, List.getElem?_cons_zero, Option.some.injEq] at ho; exact ⟨_, ho.symm⟩
          | succ j => simp [initPK] at ho
        | clos f ms =>
          simp only [initPK] at ho
          have key : ∀ (ms : List Nat) (n j : Nat) (o : Ob), (closObs n ms)[j]? = some o → ∃ cs, o = .ext cs := by
            intro ms
            induction ms with
            | nil => intro n j o ho; simp [closObs] at ho
            | cons m ms ih =>
              intro n j o ho
              cases j with
              | zero => simp only [closObs, List.getElem?_cons_zero, Option.some.injEq] at ho; exact ⟨_, ho.symm⟩
              | succ j => exact ih (n + m) j o (by simpa [closObs] using ho)
          exact key ms n j o ho
      · rw [List.getElem?_append_right (by omega)] at ho
        exact ih _ _ _ o ho
  have hno : ∀ b, ¬ owned ω ρ b := by
    rintro b ⟨k, o, h1, h2⟩
    obtain ⟨j, rfl, h3⟩ := hob k o h1
    obtain ⟨cs, rfl⟩ := hext _ _ _ _ _ h3
    simp only [own] at h2
    cases h2
  have hFF : ∀ b, F b → Frr W ⟨F, [], []⟩ ω ρ W b := fun b hb => ⟨.inl hb, hno b⟩
  have hPK : PKRs W (Frr W ⟨F, [], []⟩ ω ρ W) sig.args ds args := by
    have key : ∀ (ps : List PK) (ds : List Dt) (us : List Value), PKRs W F ps ds us → PKRs W (Frr W ⟨F, [], []⟩ ω ρ W) ps ds us := by
      intro ps
      induction ps with
      | nil => intro ds us h; exact h
      | cons p ps ih => intro ds us ⟨d1, d2, v, vs, h1, h2, h3, h4⟩; exact ⟨d1, d2, v, vs, h1, h2, h3.mono hFF, ih d2 vs h4⟩
    exact key _ _ _ h
  obtain ⟨a1, a2, a3, a4, a5⟩ := initAll_ok (c := ctx W ⟨F, [], []⟩ ds ω ρ W) (n := 0) (k := cap) hPK (fun j d hd => by rw [Nat.zero_add]; exact hd) (fun j q hq => by
    show (ptrsAll sig.args args).getD (cap + j - cap) undef = q
    rw [show cap + j - cap = j by omega, List.getD_eq_getElem?_getD, hq]; rfl) (fun j hj => ⟨_, hget j _ (List.getElem?_eq_getElem hj)⟩)
  have hal : args.length = sig.args.length := by
    have key : ∀ (ps : List PK) (ds : List Dt) (us : List Value), PKRs W F ps ds us → us.length = ps.length := by
      intro ps
      induction ps with
      | nil => intro ds us ⟨_, h⟩; subst h; rfl
      | cons p ps ih => intro ds us ⟨d1, d2, v, vs, h1, h2, h3, h4⟩; subst h2; simp [ih d2 vs h4]
    exact key _ _ _ h
  refine ⟨ρ, ⟨Below.refl _ _, hF, trivial, rfl, ?_, fun t sv ht => ?_, fun k o ho => ?_, fun k k' o o' g h1 h2 h3 h4 => absurd ⟨k, o, h1, h3⟩ (hno g)⟩, by show ds.length = (initAll 0 cap sig.args).2.2; rw [a3, Nat.zero_add]⟩
  · simp [initS, a4]
  · have hτ : (initS sig nt cap).τ = (initAll 0 cap sig.args).1 ++ List.replicate (nt - (initAll 0 cap sig.args).1.length) (.one .und) := rfl
    rw [hτ] at ht
    by_cases hlt : t < args.length
    · rw [List.getElem?_append_left (by omega)] at ht
      have e1 : (args.toArray ++ Array.replicate (nt - args.toArray.size) undef).getD t undef = args[t] := by
        rw [Array.getD_eq_getD_getElem?, Array.getElem?_append_left (by simpa using hlt)]
        simp [hlt]
      simp only [e1]
      exact a1 t sv _ ht (List.getElem?_eq_getElem hlt)
    · rw [List.getElem?_append_right (by omega), List.getElem?_replicate] at ht
      split at ht
      · rename_i hlt2
        injection ht with ht; subst ht
        show (args.toArray ++ Array.replicate (nt - args.toArray.size) undef).getD t undef = undef
        rw [Array.getD_eq_getD_getElem?, Array.getElem?_append_right (by simpa using hlt), Array.getElem?_replicate]
        split <;> rfl
      · cases ht
  · obtain ⟨j, rfl, h3⟩ := hob k o ho
    obtain ⟨g, q, cs, vs, rfl, h4, h5, h6, h7⟩ := a2 j o h3
    exact ⟨g, q, vs, h4, h5, h6, h7⟩
def OutR (w0 W : World) (F0 : Bk) (E : Env) (ω : List (Option Ob)) (ρ : Nat → Value) (f : CF) (p : Atom × Option Nat × Option Nat) (u : Value) : Prop := match f with
  | .fresh e sz => (∃ k, p.2 = (some k, none) ∧ ω[k]? = some (some (.row e sz p.1)) ∧ u = ρ k) ∨ (p = (.c (.nil sz), none, none) ∧ u = .slice none 0 0)
  | .scal => p.2 = (none, none) ∧ ∃ d, p.1.val E = some d ∧ Rep W (Frr w0 F0 ω ρ W) d u
  | .pure => p.2.1 = none ∧ ((∃ d, p.1.val E = some d ∧ Rep W (Frr w0 F0 ω ρ W) d u) ∨ ∃ k e sz, p.2.2 = some k ∧ ω[k]? = some (some (.row e sz p.1)) ∧ u = ρ k)
theorem outC_ok (h : Sim w0 F0 E τ ω a W ρ) {f : CF} {c : C1} {p : Atom × Option Nat × Option Nat} (hr : (outC f c).run τ ω = some p) {u : Value} (hc : C1R (ctx w0 F0 E ω ρ W) c u) : OutR w0 W F0 E ω ρ f p u := by
  unfold outC at hr
  split at hr
  · simp only [run_pure, Option.some.injEq] at hr; subst hr; exact ⟨rfl, .inl (C1R.at_ hc)⟩
  · simp only [run_pure, Option.some.injEq] at hr; subst hr; exact ⟨rfl, C1R.at_ hc⟩
  · rename_i k
    simp only [run_bind, run_rO, Option.bind_eq_some_iff] at hr
    obtain ⟨ob, hob, hr⟩ := hr
    obtain ⟨_, hv, _⟩ := hc
    split at hr
    · simp only [run_pure, Option.some.injEq] at hr; subst hr; exact ⟨rfl, .inr ⟨k, _, _, rfl, hob, hv⟩⟩
    · simp only [run_pure, Option.some.injEq] at hr; subst hr
      refine ⟨rfl, .inl ?_⟩
      have := h.objs k _ hob
      rw [hv]; exact this
    · cases hr
  · rename_i e sz k
    simp only [run_bind, run_rO, Option.bind_eq_some_iff] at hr
    obtain ⟨ob, hob, hr⟩ := hr
    obtain ⟨_, hv, _⟩ := hc
    split at hr
    · simp only [run_ite] at hr
      split at hr
      · rename_i hcond
        obtain ⟨rfl, rfl⟩ := hcond
        simp only [run_pure, Option.some.injEq] at hr; subst hr
        exact .inl ⟨k, rfl, hob, hv⟩
      · cases hr
    · cases hr
  · rename_i e sz z
    simp only [run_ite] at hr
    split at hr
    · rename_i hz
      subst hz
      simp only [run_pure, Option.some.injEq] at hr; subst hr
      exact .inr ⟨rfl, C1R.isNil hc⟩
    · cases hr
  · cases hr
theorem outCs_ok (h : Sim w0 F0 E τ ω a W ρ) : ∀ {fs : List CF} {cs : List C1} {ps : List (Atom × Option Nat × Option Nat)} {us : List Value}, (outCs fs cs).run τ ω = some ps → C1Rs (ctx w0 F0 E ω ρ W) cs us →
    ps.length = fs.length ∧ us.length = fs.length ∧ ∀ (j : Nat) (f : CF) (p : Atom × Option Nat × Option Nat) (u : Value), fs[j]? = some f → ps[j]? = some p → us[j]? = some u → OutR w0 W F0 E ω ρ f p u
  | [], [], ps, us, hr, hc => by
    simp only [outCs, run_pure, Option.some.injEq] at hr
    subst hr
    cases us with
    | nil => exact ⟨rfl, rfl, by simp⟩
    | cons _ _ => exact absurd hc (fun h => h)
  | f :: fs, c :: cs, ps, [], hr, hc => absurd hc (fun h => h)
  | f :: fs, c :: cs, ps, u :: us, hr, hc => by
    simp only [outCs, run_bind, run_pure, Option.bind_eq_some_iff, Option.some.injEq] at hr
    obtain ⟨p, h1, ps', h2, rfl⟩ := hr
    obtain ⟨k1, k2, k3⟩ := outCs_ok h h2 hc.2
    refine ⟨by simp [k1], by simp [k2], fun j f' p' u' hf hp hu => ?_⟩
    cases j with
    | zero => simp only [List.getElem?_cons_zero, Option.some.injEq] at hf hp hu; subst hf; subst hp; subst hu; exact outC_ok h h1 hc.1
    | succ j => exact k3 j f' p' u' (by simpa using hf) (by simpa using hp) (by simpa using hu)
  | [], _ :: _, ps, us, hr, hc => by cases hr
  | _ :: _, [], ps, us, hr, hc => by cases hr
theorem outPs_ok (h : Sim w0 F0 E τ ω a W ρ) : ∀ {rs : List (Bool × List CF)} {svs : List SV} {ps : List (Atom × Option Nat × Option Nat)} {vs : List Value}, (outPs rs svs).run τ ω = some ps → vs.length = svs.length → (∀ (j : Nat) (sv : SV) (u : Value), svs[j]? = some sv → vs[j]? = some u → SVR (ctx w0 F0 E ω ρ W) sv u) →
    ∃ us : List Value, PartsV rs vs us ∧ ps.length = (rs.flatMap (·.2)).length ∧ us.length = (rs.flatMap (·.2)).length ∧ vs.length = rs.length ∧ ∀ (j : Nat) (f : CF) (p : Atom × Option Nat × Option Nat) (u : Value), (rs.flatMap (·.2))[j]? = some f → ps[j]? = some p → us[j]? = some u → OutR w0 W F0 E ω ρ f p u
  | [], [], ps, vs, hr, hl, hj => by
    simp only [outPs, run_pure, Option.some.injEq] at hr
    subst hr
    have : vs = [] := List.eq_nil_of_length_eq_zero (by simpa using hl)
    subst this
    exact ⟨[], ⟨rfl, rfl⟩, rfl, rfl, rfl, by simp⟩
  | (g, fs) :: rs, sv :: svs, ps, [], hr, hl, hj => by simp at hl
  | (g, fs) :: rs, sv :: svs, ps, v :: vs, hr, hl, hj => by
    simp only [outPs, run_bind, run_pure, Option.bind_eq_some_iff, Option.some.injEq] at hr
    obtain ⟨cs, h0, p1, h1, p2, h2, rfl⟩ := hr
    obtain ⟨us, k1, k2, k3, k4, k5⟩ := outPs_ok h h2 (by simpa using hl) fun j sv u hs hu => hj (j + 1) sv u (by simpa using hs) (by simpa using hu)
    have hv := hj 0 sv v rfl rfl
    have hpart : ∃ u1 : List Value, C1Rs (ctx w0 F0 E ω ρ W) cs u1 ∧ (u1.length = fs.length → PartV (g, fs) v u1) := by
      unfold partCs at h0
      split at h0
      · simp only [run_pure, Option.some.injEq] at h0; subst h0
        exact ⟨[v], ⟨hv, trivial⟩, fun h => ⟨rfl, by simpa using h.symm⟩⟩
      · simp only [run_pure, Option.some.injEq] at h0; subst h0
        obtain ⟨u1, rfl, h4⟩ := hv
        exact ⟨u1, h4, fun h => ⟨rfl, h⟩⟩
      · cases h0
    obtain ⟨u1, h3, h4⟩ := hpart
    obtain ⟨m1, m2, m3⟩ := outCs_ok h h1 h3
    refine ⟨u1 ++ us, ⟨v, vs, u1, us, rfl, rfl, h4 m2, k1⟩, by simp [m1, k2], by simp [m2, k3], by simp [k4], fun j f p u hf hp hu => ?_⟩
    rw [List.flatMap_cons] at hf
    have hf : (fs ++ rs.flatMap (·.2))[j]? = some f := hf
    by_cases hlt : j < fs.length
    · rw [List.getElem?_append_left hlt] at hf
      rw [List.getElem?_append_left (by omega)] at hp hu
      exact m3 j f p u hf hp hu
    · rw [List.getElem?_append_right (by omega)] at hf hp hu
      rw [m1] at hp
      rw [m2] at hu
      exact k5 _ f p u hf hp hu
  | [], _ :: _, ps, vs, hr, hl, hj => by cases hr
  | _ :: _, [], ps, vs, hr, hl, hj => by cases hr
theorem dup_ok {α : Type} {g : α → Option Nat} : ∀ {l : List α}, dupFree (l.filterMap g) = true → ∀ (i j : Nat) (x y : α) (k : Nat), l[i]? = some x → l[j]? = some y → g x = some k → g y = some k → i = j
  | [], _, i, _, _, _, _, h, _, _, _ => by simp at h
  | z :: l, hd, i, j, x, y, k, hx, hy, gx, gy => by
    have hmem : ∀ {j : Nat} {y : α}, l[j]? = some y → g y = some k → k ∈ l.filterMap g := fun h1 h2 => List.mem_filterMap.2 ⟨_, List.mem_of_getElem? h1, h2⟩
    have htail : dupFree (l.filterMap g) = true := by
      rw [List.filterMap_cons] at hd
      split at hd
      · exact hd
      · simp only [dupFree, Bool.and_eq_true] at hd; exact hd.2
    have hhead : g z = some k → k ∉ l.filterMap g := by
      intro hz hm
      rw [List.filterMap_cons, hz] at hd
      simp only [dupFree, Bool.and_eq_true, Bool.not_eq_true'] at hd
      rw [List.contains_iff_mem.2 hm] at hd
      cases hd.1
    cases i with
    | zero =>
      simp only [List.getElem?_cons_zero, Option.some.injEq] at hx
      subst hx
      cases j with
      | zero => rfl
      | succ j => exact absurd (hmem (by simpa using hy) gy) (hhead gx)
    | succ i =>
      cases j with
      | zero =>
        simp only [List.getElem?_cons_zero, Option.some.injEq] at hy
        subst hy
        exact absurd (hmem (by simpa using hx) gx) (hhead gy)
      | succ j => rw [dup_ok htail i j x y k (by simpa using hx) (by simpa using hy) gx gy]
theorem vals_get {E : Env} : ∀ {as0 : List Atom} {ds : List Dt}, vals E as0 = some ds → ∀ (i : Nat) (x : Atom), as0[i]? = some x → ∃ d, x.val E = some d ∧ ds[i]? = some d
  | [], ds, h, i, x, hx => by simp at hx
  | a :: as0, ds, h, i, x, hx => by
    simp only [vals, Option.bind_eq_bind, Option.bind_eq_some_iff, Option.pure_def, Option.some.injEq] at h
    obtain ⟨d, h1, ds', h2, rfl⟩ := h
    cases i with
    | zero => simp only [List.getElem?_cons_zero, Option.some.injEq] at hx; subst hx; exact ⟨d, h1, rfl⟩
    | succ i => exact vals_get h2 i x (by simpa using hx)
def scalOk (sig : Sig) (rs : List Dt) : Prop := ∀ (i : Nat) (d : Dt), (cfsOf sig)[i]? = some .scal → rs[i]? = some d → d.scal = true
theorem out_ok (h : Sim w0 F0 E τ ω a W ρ) {sig : Sig} {ps : List (Atom × Option Nat × Option Nat)} {us : List Value} {v : Value} {rs : List Dt} (hv : ResV sig.res v us) (hps : ps.length = (cfsOf sig).length) (hus : us.length = (cfsOf sig).length)
    (hout : ∀ (j : Nat) (f : CF) (p : Atom × Option Nat × Option Nat) (u : Value), (cfsOf sig)[j]? = some f → ps[j]? = some p → us[j]? = some u → OutR w0 W F0 E ω ρ f p u) (hrs : vals E (ps.map (·.1)) = some rs) (hsc : scalOk sig rs)
    (hdup : dupFree (ps.filterMap (·.2.1)) = true) (hdj : ∀ k ∈ ps.filterMap (·.2.1), k ∉ ps.filterMap (·.2.2)) : ∃ F', ResR w0 F0.F W sig rs v us F' := by
  let F' : Nat → Prop := fun b => (F0.F b ∨ (w0.heap.size ≤ b ∧ b < W.heap.size)) ∧ ¬ ∃ k ∈ ps.filterMap (·.2.1), ∃ o, ω[k]? = some (some o) ∧ own o (ρ k) = some b
  have hFF : ∀ b, Frr w0 F0 ω ρ W b → F' b := fun b hb => ⟨hb.1, fun ⟨k, _, o, h1, h2⟩ => hb.2 ⟨k, o, h1, h2⟩⟩
  have hrl : rs.length = (cfsOf sig).length := by rw [vals_len hrs, List.length_map, hps]
  have hat : ∀ (j : Nat) (f : CF) (u : Value), (cfsOf sig)[j]? = some f → us[j]? = some u → ∃ p d, ps[j]? = some p ∧ p.1.val E = some d ∧ rs[j]? = some d ∧ OutR w0 W F0 E ω ρ f p u := by
    intro j f u hf hu
    have hlt : j < ps.length := by rw [hps]; exact (List.getElem?_eq_some_iff.1 hf).1
    have hp := List.getElem?_eq_getElem hlt
    obtain ⟨d, h1, h2⟩ := vals_get hrs j ps[j].1 (by rw [List.getElem?_map, hp]; rfl)
    exact ⟨ps[j], d, hp, h1, h2, hout j f _ u hf hp hu⟩
  have hkeys : ∀ (j : Nat) (p : Atom × Option Nat × Option Nat) (k : Nat), ps[j]? = some p → p.2.1 = some k → k ∈ ps.filterMap (·.2.1) := fun j p k hp hk => List.mem_filterMap.2 ⟨p, List.mem_of_getElem? hp, hk⟩
  refine ⟨F', hv, hrl, hus, fun j f d u hf hd hu => ?_, fun b hb => hb.1, fun j e sz u b hf hu hb hF => ?_, fun j j' e sz e' sz' u u' b hf hu hf' hu' hb hb' => ?_⟩
  · obtain ⟨p, d', hp, hval, hd', hO⟩ := hat j f u hf hu
    rw [hd] at hd'; injection hd' with hd'; subst hd'
    cases f with
    | pure =>
      obtain ⟨_, h1 | ⟨k, e, sz, h2, h3, rfl⟩⟩ := hO
      · obtain ⟨d', h1, h2⟩ := h1
        rw [hval] at h1; injection h1 with h1; subst h1
        exact h2.mono (fun _ _ => rfl) hFF
      · obtain ⟨xs, vs, b1, b2, b3, b4⟩ := h.objs k _ h3
        simp only [ctx] at b1 b3 b4
        rw [hval] at b1; injection b1 with b1; subst b1
        refine row_rep b2 b3 b4 hFF fun g hg => ⟨.inr (ownsRow_lt b3 hg), ?_⟩
        rintro ⟨k', hk', o', h5, h6⟩
        have : k = k' := h.dj k k' _ o' g h3 h5 (by simpa [own] using hg) h6
        subst this
        exact hdj k hk' (List.mem_filterMap.2 ⟨p, List.mem_of_getElem? hp, h2⟩)
    | scal =>
      obtain ⟨_, d', h1, h2⟩ := hO
      rw [hval] at h1; injection h1 with h1; subst h1
      exact ⟨hsc j d hf hd, h2.mono (fun _ _ => rfl) hFF⟩
    | fresh e sz =>
      rcases hO with ⟨k, h2, h3, rfl⟩ | ⟨rfl, rfl⟩
      · obtain ⟨xs, vs, b1, b2, b3, b4⟩ := h.objs k _ h3
        simp only [ctx] at b1 b3 b4
        rw [hval] at b1; injection b1 with b1; subst b1
        exact ⟨xs, vs, rfl, b2, b3, b4.mono (fun _ _ => rfl) hFF⟩
      · have hd0 : d = .l sz [] := by
          have : (Atom.c (.nil sz)).val E = some d := hval
          injection this with this
          exact this.symm
        subst hd0
        exact ⟨[], [], rfl, by simp, World.ownsRow_nil _ _ _ _, trivial⟩
  · obtain ⟨p, d', hp, hval, hd', hO⟩ := hat j _ u hf hu
    rcases hO with ⟨k, h2, h3, rfl⟩ | ⟨rfl, rfl⟩
    · exact hF.2 ⟨k, hkeys j p k hp (by rw [h2]), _, h3, by simpa [own] using hb⟩
    · cases hb
  · obtain ⟨p, d', hp, hval, hd', hO⟩ := hat j _ u hf hu
    obtain ⟨p', d2, hp', hval', hd2, hO'⟩ := hat j' _ u' hf' hu'
    rcases hO with ⟨k, h2, h3, rfl⟩ | ⟨rfl, rfl⟩
    · rcases hO' with ⟨k', h2', h3', rfl⟩ | ⟨rfl, rfl⟩
      · have : k = k' := h.dj k k' _ _ b h3 h3' (by simpa [own] using hb) (by simpa [own] using hb')
        subst this
        exact dup_ok hdup j j' p p' k hp hp' (by rw [h2]) (by rw [h2'])
      · cases hb'
    · cases hb
inductive Dt.ok : Dt → Prop
  | i (k : IntKind) (n : Int) : k.wrap n = n → Dt.ok (.i k n)
  | b (x : Bool) : Dt.ok (.b x)
  | s (x : List UInt8) : x.length ≤ 9223372036854775807 → Dt.ok (.s x)
  | e (x : Bool) : Dt.ok (.e x)
  | l (sz : Nat) (xs : List (List Dt)) : xs.length ≤ 9223372036854775807 → (∀ x ∈ xs, x.length = sz) → (∀ x ∈ xs, ∀ d ∈ x, Dt.ok d) → Dt.ok (.l sz xs)
theorem Rep.ok {W : World} {F : Nat → Prop} {d : Dt} {v : Value} (h : Rep W F d v) : d.ok := by
  induction h with
  | i k n h => exact .i k n h
  | b x => exact .b x
  | s x h => exact .s x h
  | e0 => exact .e _
  | e1 t p => exact .e _
  | l sz xs A n c b o vs h0 h1 h2 h3 h4 h5 h6 ih =>
    refine .l sz xs (by omega) h3 fun x hx d hd => ?_
    obtain ⟨i, hi⟩ := List.getElem?_of_mem hx
    obtain ⟨j, hj⟩ := List.getElem?_of_mem hd
    exact ih i j x d hi hj
theorem Reps.ok {W : World} {F : Nat → Prop} : ∀ {ds : List Dt} {vs : List Value}, Reps W F ds vs → ∀ d ∈ ds, d.ok
  | [], [], _, d, hd => by cases hd
  | x :: ds, v :: vs, h, d, hd => by
    rcases List.mem_cons.1 hd with rfl | hd
    · exact h.1.ok
    · exact Reps.ok h.2 d hd
theorem PKR.ok {W : World} {F : Nat → Prop} {p : PK} {ds : List Dt} {v : Value} (h : PKR W F p ds v) : ∀ d ∈ ds, d.ok := by
  cases p with
  | one => obtain ⟨d, rfl, h2⟩ := h; intro x hx; rw [List.mem_singleton.1 hx]; exact h2.ok
  | agg m => obtain ⟨_, us, _, h2⟩ := h; exact h2.ok
  | ptr m => obtain ⟨_, g, o, us, _, _, _, h2⟩ := h; exact h2.ok
  | clos f ns =>
    obtain ⟨us, _, h1⟩ := h
    have key : ∀ (ns : List Nat) (ds : List Dt) (us : List Value), CapsR W F ns ds us → ∀ d ∈ ds, d.ok := by
      intro ns
      induction ns with
      | nil => intro ds us ⟨h, _⟩; subst h; simp
      | cons m ns ih =>
        intro ds us ⟨d1, d2, v, vs, h1, _, _, ⟨_, _, _, _, _, _, h2⟩, h3⟩ d hd
        subst h1
        rcases List.mem_append.1 hd with hd | hd
        · exact h2.ok d hd
        · exact ih d2 vs h3 d hd
    exact key ns ds us h1
  | mine e sz => exact absurd h id
theorem PKRs.ok {W : World} {F : Nat → Prop} : ∀ {ps : List PK} {ds : List Dt} {us : List Value}, PKRs W F ps ds us → ∀ d ∈ ds, d.ok
  | [], ds, us, h => by obtain ⟨rfl, _⟩ := h; simp
  | p :: ps, ds, us, h => by
    obtain ⟨d1, d2, v, vs, rfl, rfl, h1, h2⟩ := h
    intro d hd
    rcases List.mem_append.1 hd with hd | hd
    · exact h1.ok d hd
    · exact PKRs.ok h2 d hd
theorem meets_of {fx : Fx} {sig : Sig} {f : Nat} {fn : Func} {t : T} {spec : Spec} (hf : P.funcs[f]? = some fn) (hname : (fn.name == "runtime.NumGoroutine") = false) (hdec : decomp fx sig fn = some t) (htab : tabB P fx.cx.ty = true)
    (hm : P.follows .mixedOrders = true) (hfn : ∀ g ∈ fx.fns, FnOk P g) (hsig : ∀ ci f s, fx.cx.sigs[ci]? = some (f, s) → Meets P (sp ci) f s) (hspec : ∀ ds rs, (∀ d ∈ ds, d.ok) → spec ds = some rs → (∃ N, den sp N t ds [] = some rs) ∧ scalOk sig rs) : Meets P spec f sig := by
  have hmi : isMine sig.args = false := by
    unfold decomp at hdec
    split at hdec
    · cases hdec
    rename_i hnt
    simpa using (not_or.1 hnt).2
  refine .mk hmi ?_
  intro W F ds args rs hF hargs hrs
  obtain ⟨⟨N, hden⟩, hsc⟩ := hspec ds rs hargs.ok hrs
  have hty : ∀ t i, fx.cx.ti t = some i → TyOk P t i := fun t i h => tab_ok htab h
  unfold decomp at hdec
  split at hdec
  · cases hdec
  rename_i hnt
  simp only [not_or, ne_eq, Decidable.not_not, Nat.not_lt] at hnt
  have hnt := hnt.1
  split at hdec
  · cases hdec
  rename_i c hb
  obtain ⟨ρ, hs, hlen⟩ := init_sim (sig := sig) (nt := fn.ntmps) (cap := fx.cap) hF hargs hnt.2
  refine .inl ⟨run_enter hf hname hb args.toArray W, calls_of_wp hf hb ?_⟩
  refine wp_mono (exec_ok (η := []) (ks := []) hm hfn (inlD_ok hm fx.dep fx hty hsig hfn) hty hsig c hdec hden ⟨hlen, (fun v b h => by cases h), rfl, ρ, hs⟩) fun e a' W' ⟨x, s', t', E', ks', h1, h2, h3, h4, h5, hkb, h6⟩ => ?_
  obtain ⟨ρ', hs'⟩ := h6.sim
  have fin : outOf fx.cx sig fn.results.toList s' = some t' → a'.defers = [] ∧ ∃ v, (results fn a'.tmps).run P W' = .ok v W' ∧ ∃ v', Ending.returned v = .returned v' ∧ Below W.heap.size W W' ∧ ∃ us F', ResR W F W' sig rs v' us F' := by
    intro ho
    unfold outOf at ho
    simp only [Option.bind_eq_bind, Option.bind_eq_some_iff] at ho
    obtain ⟨svs, hsvs, ps, hps, ho⟩ := ho
    split at ho
    · rename_i hck
      simp only [Bool.and_eq_true] at hck
      injection ho with ho
      subst ho
      simp only [den] at h3
      obtain ⟨vs, k1, k2, k3⟩ := resOf_ok hs' hty hsvs
      obtain ⟨us, g1, g2, g3, g4, g5⟩ := outPs_ok hs' hps k2 k3
      have hres : (results fn a'.tmps).run P W' = .ok (if h : vs.toArray.size = 1 then vs.toArray[0] else .tuple vs.toArray) W' := by
        unfold results
        rw [Array.mapM_eq_mapM_toList]
        simp only [Sem.run_bind, Sem.run_map, Sem.run_pure]
        exact congrArg (fun r => (Result.andThen (Result.andThen r fun a w' => Result.ok a.toArray w') fun a w' => Result.ok (if h : a.size = 1 then a[0] else Value.tuple a) w')) k1
      have hval : ResV sig.res (if h : vs.toArray.size = 1 then vs.toArray[0] else .tuple vs.toArray) us := by
        match hr : sig.res, g1, g4 with
        | [p], g1, g4 =>
          obtain ⟨v, vs', u1, u2, rfl, rfl, m1, m2, rfl⟩ := g1
          subst m2
          simp only [List.append_nil]
          exact m1
        | [], g1, g4 =>
          have hn : ¬ vs.toArray.size = 1 := by simp at g4; simp [g4]
          rw [dif_neg hn]
          exact ⟨vs, rfl, g1⟩
        | p :: q :: r, g1, g4 =>
          have hn : ¬ vs.toArray.size = 1 := by simp at g4; simp [g4]
          rw [dif_neg hn]
          exact ⟨vs, rfl, g1⟩
      obtain ⟨F', hR⟩ := out_ok hs' hval g2 g3 g5 h3 hsc hck.1 (fun k hk hq => by
        have := List.all_eq_true.1 hck.2 k hk
        rw [List.contains_iff_mem.2 hq] at this
        cases this)
      exact ⟨hs'.defers, _, hres, _, rfl, hs'.below, us, F', hR⟩
    · cases ho
  cases x with
  | exit i => simp only at h2; cases h2
  | normal =>
    cases e with
    | normal => exact fin h2
    | _ => exact False.elim h1
  | ret =>
    cases e with
    | ret => exact fin h2
    | _ => exact False.elim h1
end
end Go.Proofs.YtnklncinjahckaaGreatDoor
namespace Go.Proofs.YtnklncinjahckaaGreatDoor
open Go.RowKit
set_option linter.unusedVariables false
abbrev I (n : Int) : Dt := .i .i64 n
def eInt (n : Int) : List Dt := [I n]
def eBool (x : Bool) : List Dt := [.b x]
def eStr (x : List UInt8) : List Dt := [.s x]
def eSl {α : Type} (sz : Nat) (e : α → List Dt) (xs : List α) : List Dt := [.l sz (xs.map e)]
def eOp (x : Op) : List Dt := [I x.kind, I x.n]
def ePoint (x : Point) : List Dt := [I x.tx, I x.at_]
def eIn (x : In) : List Dt := [I x.p.tx, I x.p.at_, .l 2 (x.key.map eOp)]
def eOut (x : Out) : List Dt := [I x.coin, .l 2 (x.lock.map eOp)]
def eTx (x : Tx) : List Dt := [I x.height, .l 3 (x.ins.map eIn), .l 2 (x.outs.map eOut)]
def eCoin (x : Coin) : List Dt := [I x.p.tx, I x.p.at_, I x.o.coin, .l 2 (x.o.lock.map eOp), I x.height, .b x.reward]
def eUndo (x : Undo) : List Dt := [.l 6 (x.spent.map eCoin)]
def eBook (x : Book) : List Dt := [.l 1 (x.texts.map eStr)]
def eBlock (x : Block) : List Dt := [I x.parent, I x.height, I x.work, I x.nonce, .l 3 (x.txs.map eTx)]
def eTree (x : Tree) : List Dt := [.l 1 (x.names.map eInt), .l 5 (x.blocks.map eBlock)]
structure ShE {α : Type} (S : Sh α) (e : α → List Dt) : Prop where
  len : ∀ x, (e x).length = S.size
  to : ∀ {w : World} {F : Nat → Prop} {x : α} {cs : List Value}, S.rep w F x cs → Reps w F (e x) cs
  of : ∀ {w : World} {F : Nat → Prop} {x : α} {cs : List Value}, Reps w F (e x) cs → S.rep w F x cs
theorem wrap_i64 {n : Int} (h : -9223372036854775808 ≤ n ∧ n ≤ 9223372036854775807) : IntKind.i64.wrap n = n := by
  unfold IntKind.wrap
  simp only [IntKind.bits, IntKind.signed, Bool.true_and, ge_iff_le, decide_eq_true_eq]
  split <;> omega
theorem wrap_i64' {n : Int} (h : IntKind.i64.wrap n = n) : -9223372036854775808 ≤ n ∧ n ≤ 9223372036854775807 := by
  unfold IntKind.wrap at h
  simp only [IntKind.bits, IntKind.signed, Bool.true_and, ge_iff_le, decide_eq_true_eq] at h
  split at h <;> omega
theorem she_int : ShE shInt eInt where
  len x := rfl
  to := by rintro w F x cs ⟨rfl, h⟩; exact ⟨.i _ _ (wrap_i64 h), trivial⟩
  of := by
    intro w F x cs h
    match cs, h with
    | [v], h => obtain ⟨rfl, h1⟩ := rep_i h.1; exact ⟨rfl, wrap_i64' h1⟩
theorem she_str : ShE shStr eStr where
  len x := rfl
  to := by rintro w F x cs ⟨rfl, h⟩; exact ⟨.s _ h, trivial⟩
  of := by
    intro w F x cs h
    match cs, h with
    | [v], h => obtain ⟨rfl, h1⟩ := rep_s h.1; exact ⟨rfl, h1⟩
theorem rds_rep {α : Type} {S : Sh α} {e : α → List Dt} (h : ShE S e) {w : World} {F : Nat → Prop} {xs : List α} {A : Option Addr} {n c : Nat} (hr : Rds S w F xs A n c) : Rep w F (.l S.size (xs.map e)) (.slice A n c) := by
  obtain ⟨h1, h2, h3, h4⟩ := hr
  have hsz : ∀ x ∈ xs.map e, x.length = S.size := by
    intro x hx
    obtain ⟨y, _, rfl⟩ := List.mem_map.1 hx
    exact h.len y
  rcases Nat.eq_zero_or_pos n with h0 | h0
  · have : xs = [] := List.eq_nil_of_length_eq_zero (by omega)
    subst this
    exact .l _ _ A n c 0 0 (fun _ _ => undef) (by simp [h1.symm]) (by simp) h3 (by simp) (by simp) (by simp) (by simp)
  · obtain ⟨b, off, rfl, hF, hc⟩ := h4 h0
    have hc' : ∀ i : Nat, ∃ cs : List Value, ∀ hi : i < xs.length, S.rep w F xs[i] cs ∧ ∀ j v, cs[j]? = some v → w.cell? ⟨b, off + i * S.size + j, none⟩ = some v := fun i => by
      by_cases hi : i < xs.length
      · obtain ⟨cs, g1, g2⟩ := hc i hi
        exact ⟨cs, fun _ => ⟨g1, g2⟩⟩
      · exact ⟨[], fun h => absurd h hi⟩
    have key : ∀ i j x d, (xs.map e)[i]? = some x → x[j]? = some d → w.cell? ⟨b, off + i * S.size + j, none⟩ = some ((Classical.choose (hc' i)).getD j undef) ∧ Rep w F d ((Classical.choose (hc' i)).getD j undef) := by
      intro i j x d hx hd
      rw [List.getElem?_map, Option.map_eq_some_iff] at hx
      obtain ⟨y, hy, rfl⟩ := hx
      have hi := (List.getElem?_eq_some_iff.1 hy).1
      rw [List.getElem?_eq_getElem hi] at hy
      injection hy with hy
      obtain ⟨g1, g2⟩ := Classical.choose_spec (hc' i) hi
      rw [hy] at g1
      obtain ⟨v, hv, hr⟩ := (h.to g1).get hd
      have e1 : (Classical.choose (hc' i)).getD j undef = v := by rw [List.getD_eq_getElem?_getD, hv]; rfl
      rw [e1]
      exact ⟨g2 j v hv, hr⟩
    exact .l _ _ _ n c b off (fun i j => (Classical.choose (hc' i)).getD j undef) (by simp [h1]) (by simp; omega) h3 hsz (fun _ => ⟨rfl, hF⟩) (fun i j x d hx hd => (key i j x d hx hd).1) (fun i j x d hx hd => (key i j x d hx hd).2)
theorem rep_rds {α : Type} {S : Sh α} {e : α → List Dt} (h : ShE S e) {w : World} {F : Nat → Prop} {xs : List α} {v : Value} (hr : Rep w F (.l S.size (xs.map e)) v) : ∃ A n c, v = .slice A n c ∧ Rds S w F xs A n c := by
  generalize hd : Dt.l S.size (xs.map e) = d at hr
  cases hr with
  | l sz ys A n c b o vs g0 g1 g2 g3 g4 g5 g6 =>
    injection hd with e1 e2
    subst e1; subst e2
    simp only [List.length_map] at g0 g1
    refine ⟨A, n, c, rfl, g0.symm, by omega, g2, fun h0 => ?_⟩
    obtain ⟨rfl, hF⟩ := g4 (by simp; omega)
    refine ⟨b, o, rfl, hF, fun i hi => ⟨(List.range S.size).map (vs i), h.of ?_, fun j v hv => ?_⟩⟩
    · refine Reps.of (by simp [h.len]) fun j d u hd hu => ?_
      obtain ⟨hj, rfl⟩ := rangeMap_get hu
      exact g6 i j (e xs[i]) d (by simp [hi]) hd
    · obtain ⟨hj, rfl⟩ := rangeMap_get hv
      have hlt : j < (e xs[i]).length := by rw [h.len]; exact hj
      exact g5 i j (e xs[i]) _ (by simp [hi]) (List.getElem?_eq_getElem hlt)
  | _ => cases hd
theorem she_slice {α : Type} {S : Sh α} {e : α → List Dt} (h : ShE S e) {sz : Nat} (hs : S.size = sz) : ShE (shSlice S) (eSl sz e) where
  len x := rfl
  to := by rintro w F x cs ⟨A, n, c, rfl, hr⟩; subst hs; exact ⟨rds_rep h hr, trivial⟩
  of := by
    intro w F x cs hr
    subst hs
    match cs, hr with
    | [v], hr => obtain ⟨A, n, c, rfl, h1⟩ := rep_rds h hr.1; exact ⟨A, n, c, rfl, h1⟩
theorem Reps.split {w : World} {F : Nat → Prop} : ∀ {d1 d2 : List Dt} {cs : List Value}, Reps w F (d1 ++ d2) cs → ∃ c1 c2, cs = c1 ++ c2 ∧ Reps w F d1 c1 ∧ Reps w F d2 c2
  | [], d2, cs, h => ⟨[], cs, rfl, trivial, h⟩
  | d :: d1, d2, [], h => absurd h id
  | d :: d1, d2, c :: cs, h => by
    obtain ⟨c1, c2, rfl, h1, h2⟩ := Reps.split h.2
    exact ⟨c :: c1, c2, rfl, ⟨h.1, h1⟩, h2⟩
theorem she_s2 {α β τ : Type} {S0 : Sh α} {S1 : Sh β} {f : α → β → τ} {e0 : α → List Dt} {e1 : β → List Dt} {e : τ → List Dt} (h0 : ShE S0 e0) (h1 : ShE S1 e1) (hf : ∀ x, ∃ a b, x = f a b) (he : ∀ a b, e (f a b) = e0 a ++ e1 b) : ShE (shS2 S0 S1 f) e where
  len x := by obtain ⟨a, b, rfl⟩ := hf x; rw [he, List.length_append, h0.len, h1.len]; rfl
  to := by
    rintro w F x cs ⟨a, b, ca, cb, rfl, rfl, ha, hb⟩
    rw [he]
    exact (h0.to ha).append (h1.to hb)
  of := by
    intro w F x cs hr
    obtain ⟨a, b, rfl⟩ := hf x
    rw [he] at hr
    obtain ⟨c1, c2, rfl, g1, g2⟩ := hr.split
    exact ⟨a, b, c1, c2, rfl, rfl, h0.of g1, h1.of g2⟩
theorem she_op : ShE shOp eOp := she_s2 she_int she_int (fun x => ⟨x.kind, x.n, rfl⟩) (fun a b => rfl)
theorem she_point : ShE shPoint ePoint := she_s2 she_int she_int (fun x => ⟨x.tx, x.at_, rfl⟩) (fun a b => rfl)
theorem she_in : ShE shIn eIn := she_s2 she_point (she_slice she_op rfl) (fun x => ⟨x.p, x.key, rfl⟩) (fun a b => rfl)
theorem she_out : ShE shOut eOut := she_s2 she_int (she_slice she_op rfl) (fun x => ⟨x.coin, x.lock, rfl⟩) (fun a b => rfl)
def ePair {α β : Type} (e0 : α → List Dt) (e1 : β → List Dt) (p : α × β) : List Dt := e0 p.1 ++ e1 p.2
theorem she_pair {α β : Type} {S0 : Sh α} {S1 : Sh β} {e0 : α → List Dt} {e1 : β → List Dt} (h0 : ShE S0 e0) (h1 : ShE S1 e1) : ShE (shS2 S0 S1 Prod.mk) (ePair e0 e1) := she_s2 h0 h1 (fun x => ⟨x.1, x.2, rfl⟩) (fun a b => rfl)
theorem she_tx : ShE shTx eTx := she_s2 (e1 := ePair (eSl 3 eIn) (eSl 2 eOut)) she_int (she_pair (she_slice she_in rfl) (she_slice she_out rfl)) (fun x => ⟨x.height, (x.ins, x.outs), rfl⟩) (fun a b => rfl)
theorem map_inj {α β : Type} {f : α → β} (h : ∀ x y, f x = f y → x = y) : ∀ {xs ys : List α}, xs.map f = ys.map f → xs = ys
  | [], [], _ => rfl
  | x :: xs, y :: ys, e => by
    simp only [List.map_cons, List.cons.injEq] at e
    rw [h _ _ e.1, map_inj h e.2]
  | [], _ :: _, e => by simp at e
  | _ :: _, [], e => by simp at e
theorem eInt_inj (x y : Int) (h : eInt x = eInt y) : x = y := by simpa [eInt] using h
theorem eStr_inj (x y : List UInt8) (h : eStr x = eStr y) : x = y := by simpa [eStr] using h
theorem eOp_inj (x y : Op) (h : eOp x = eOp y) : x = y := by cases x; cases y; simpa [eOp] using h
theorem ePoint_inj (x y : Point) (h : ePoint x = ePoint y) : x = y := by cases x; cases y; simpa [ePoint] using h
theorem eIn_inj (x y : In) (h : eIn x = eIn y) : x = y := by
  obtain ⟨⟨a, b⟩, k⟩ := x
  obtain ⟨⟨a', b'⟩, k'⟩ := y
  simp only [eIn, List.cons.injEq, Dt.i.injEq, true_and, Dt.l.injEq, and_true] at h
  obtain ⟨rfl, rfl, h⟩ := h
  rw [map_inj eOp_inj h]
theorem eOut_inj (x y : Out) (h : eOut x = eOut y) : x = y := by
  obtain ⟨a, k⟩ := x
  obtain ⟨a', k'⟩ := y
  simp only [eOut, List.cons.injEq, Dt.i.injEq, true_and, Dt.l.injEq, and_true] at h
  obtain ⟨rfl, h⟩ := h
  rw [map_inj eOp_inj h]
theorem eTx_inj (x y : Tx) (h : eTx x = eTx y) : x = y := by
  obtain ⟨a, k, l⟩ := x
  obtain ⟨a', k', l'⟩ := y
  simp only [eTx, List.cons.injEq, Dt.i.injEq, true_and, Dt.l.injEq, and_true] at h
  obtain ⟨rfl, h, h'⟩ := h
  rw [map_inj eIn_inj h, map_inj eOut_inj h']
theorem eCoin_inj (x y : Coin) (h : eCoin x = eCoin y) : x = y := by
  obtain ⟨⟨a, b⟩, ⟨c, k⟩, d, r⟩ := x
  obtain ⟨⟨a', b'⟩, ⟨c', k'⟩, d', r'⟩ := y
  simp only [eCoin, List.cons.injEq, Dt.i.injEq, true_and, Dt.l.injEq, Dt.b.injEq, and_true] at h
  obtain ⟨rfl, rfl, rfl, h, rfl, rfl⟩ := h
  rw [map_inj eOp_inj h]
theorem eUndo_inj (x y : Undo) (h : eUndo x = eUndo y) : x = y := by
  obtain ⟨k⟩ := x
  obtain ⟨k'⟩ := y
  simp only [eUndo, List.cons.injEq, true_and, Dt.l.injEq, and_true] at h
  rw [map_inj eCoin_inj h]
theorem eBook_inj (x y : Book) (h : eBook x = eBook y) : x = y := by
  obtain ⟨k⟩ := x
  obtain ⟨k'⟩ := y
  simp only [eBook, List.cons.injEq, true_and, Dt.l.injEq, and_true] at h
  rw [map_inj eStr_inj h]
theorem eBlock_inj (x y : Block) (h : eBlock x = eBlock y) : x = y := by
  obtain ⟨a, b, c, d, k⟩ := x
  obtain ⟨a', b', c', d', k'⟩ := y
  simp only [eBlock, List.cons.injEq, Dt.i.injEq, true_and, Dt.l.injEq, and_true] at h
  obtain ⟨rfl, rfl, rfl, rfl, h⟩ := h
  rw [map_inj eTx_inj h]
theorem eTree_inj (x y : Tree) (h : eTree x = eTree y) : x = y := by
  obtain ⟨a, k⟩ := x
  obtain ⟨a', k'⟩ := y
  simp only [eTree, List.cons.injEq, true_and, Dt.l.injEq, and_true] at h
  rw [map_inj eInt_inj h.1, map_inj eBlock_inj h.2]
noncomputable def specOf {α : Type} (e : α → List Dt) (f : α → List Dt) : Spec := fun ds => open Classical in if h : ∃ x, e x = ds then some (f (Classical.choose h)) else none
theorem specOf_at {α : Type} {e : α → List Dt} {f : α → List Dt} (hi : ∀ x y, e x = e y → x = y) (x : α) : specOf e f (e x) = some (f x) := by
  have h : ∃ y, e y = e x := ⟨x, rfl⟩
  unfold specOf
  rw [dif_pos h, hi _ _ (Classical.choose_spec h)]
theorem specOf_some {α : Type} {e : α → List Dt} {f : α → List Dt} {ds rs : List Dt} (h : specOf e f ds = some rs) : ∃ x, ds = e x ∧ rs = f x := by
  unfold specOf at h
  split at h
  · rename_i hx
    injection h with h
    exact ⟨_, (Classical.choose_spec hx).symm, h.symm⟩
  · cases h
end Go.Proofs.YtnklncinjahckaaGreatDoor
namespace Go.Proofs.YtnklncinjahckaaGreatDoor
open Go.RowKit
set_option linter.unusedVariables false
section
variable {P : Program} {W : World} {F : Nat → Prop}
theorem pks_nil {ds : List Dt} {us : List Value} (h : PKRs W F [] ds us) : us = [] := h.2
theorem pks_agg {n : Nat} {ps : List PK} {d1 d2 : List Dt} {us : List Value} (h : PKRs W F (.agg n :: ps) (d1 ++ d2) us) (hn : d1.length = n) : ∃ cs vs : List Value, us = .agg cs.toArray :: vs ∧ Reps W F d1 cs ∧ PKRs W F ps d2 vs := by
  obtain ⟨e1, e2, v, vs, he, rfl, ⟨hl, cs, rfl, hr⟩, h2⟩ := h
  obtain ⟨rfl, rfl⟩ := List.append_inj he (by omega)
  exact ⟨cs, vs, rfl, hr, h2⟩
theorem pks_agg' {n : Nat} {ds : List Dt} {us : List Value} (h : PKRs W F [.agg n] ds us) : ∃ cs : List Value, us = [.agg cs.toArray] ∧ Reps W F ds cs := by
  obtain ⟨e1, e2, v, vs, rfl, rfl, ⟨hl, cs, rfl, hr⟩, rfl, rfl⟩ := h
  exact ⟨cs, rfl, by simpa using hr⟩
theorem pks_one {ps : List PK} {d : Dt} {ds : List Dt} {us : List Value} (h : PKRs W F (.one :: ps) (d :: ds) us) : ∃ v vs, us = v :: vs ∧ Rep W F d v ∧ PKRs W F ps ds vs := by
  obtain ⟨e1, e2, v, vs, he, rfl, ⟨x, rfl, hr⟩, h2⟩ := h
  simp only [List.singleton_append, List.cons.injEq] at he
  obtain ⟨rfl, rfl⟩ := he
  exact ⟨v, vs, rfl, hr, h2⟩
theorem pks_mk_nil : PKRs W F [] [] [] := ⟨rfl, rfl⟩
theorem pks_mk_one {ps : List PK} {d : Dt} {ds : List Dt} {v : Value} {us : List Value} (h : Rep W F d v) (h2 : PKRs W F ps ds us) : PKRs W F (.one :: ps) (d :: ds) (v :: us) := ⟨[d], ds, v, us, rfl, rfl, ⟨d, rfl, h⟩, h2⟩
theorem pks_mk_agg {n : Nat} {ps : List PK} {d1 d2 : List Dt} {cs us : List Value} (h : Reps W F d1 cs) (hn : d1.length = n) (h2 : PKRs W F ps d2 us) : PKRs W F (.agg n :: ps) (d1 ++ d2) (.agg cs.toArray :: us) := ⟨d1, d2, _, us, rfl, rfl, ⟨hn, cs, rfl, h⟩, h2⟩
def En (P : Program) (f : Nat) : Prop := ∃ fn c, P.funcs[f]? = some fn ∧ (fn.name == "runtime.NumGoroutine") = false ∧ fn.body = some c
theorem En.run {f : Nat} (h : En P f) (args : Array Value) (w : World) : (callFunc f args).run P w = .ok (.enter f args) w := let ⟨_, _, h1, h2, h3⟩ := h; run_enter h1 h2 h3 args w
theorem res_scal {s : List PK} {l : Bool} {W' : World} {d : Dt} {v : Value} (hd : d.scal = true) (hr : Rep W' F d v) : ∃ us F', ResR W F W' ⟨s, [(false, [.scal])], l⟩ [d] v us F' := by
  refine ⟨[v], F, ⟨⟨rfl, rfl⟩, rfl, rfl, fun j f x u hf hx hu => ?_, fun b hb => .inl hb, fun j e sz u b hf => ?_, fun j j' e sz e' sz' u u' b hf => ?_⟩⟩
  · cases j with
    | zero =>
      simp only [cfsOf, List.flatMap_cons, List.flatMap_nil, List.append_nil, List.getElem?_cons_zero, Option.some.injEq] at hf hx hu
      subst hf; subst hx; subst hu
      exact ⟨hd, hr⟩
    | succ j => simp [cfsOf] at hf
  · cases j <;> simp [cfsOf] at hf
  · cases j <;> simp [cfsOf] at hf
theorem meets_calls {spec : Spec} {f : Nat} {pk : List PK} {b : Bool} (hpk : isMine pk = false) (hen : En P f) (hM : Meets P spec f ⟨pk, [(false, [.scal])], true⟩) {ds : List Dt} {us : List Value} (hF : Lows F W) (hs : spec ds = some [.b b]) (hargs : PKRs W F pk ds us) :
    Calls P f us.toArray W fun e w' => e = .returned (.bool b) ∧ Below W.heap.size W w' := by
  rcases hM.1 hpk W F ds us _ hF hargs hs with ⟨_, h⟩ | ⟨v, W', h1, _⟩
  · refine h.mono fun e w' ⟨v, h1, h2, us, F', hR⟩ => ⟨?_, h2⟩
    obtain ⟨rfl, _⟩ := hR.val
    have := (hR.cells 0 .scal (.b b) v rfl rfl rfl).2
    rw [h1, rep_b this]
  · rw [hen.run] at h1; cases h1
end
end Go.Proofs.YtnklncinjahckaaGreatDoor
namespace Go.Proofs.YtnklncinjahckaaGreatDoor
open Go.RowKit
set_option linter.unusedVariables false
section
variable {sp : Nat → Spec} {N : Nat} {E : Env} {ks : List (List Dt → Option (List Dt))} {res : Option (List Dt)}
theorem den_ret {as0 : List Atom} {ds : List Dt} (h : vals E as0 = some ds) (hr : some ds = res) : den sp N (.ret as0) E ks = res := by simp only [den]; rw [h]; exact hr
theorem den_let1 {x : X} {k : T} {d : Dt} {E' : Env} (h : denX sp E x = some d) (hk : den sp N k E' ks = res) (hE : E ++ [d] = E' := by (simp only [List.cons_append, List.nil_append]; try exact rfl)) : den sp N (.lets [x] [] k) E ks = res := by
  subst hE
  simp only [den, denXs, h, holdXs, Option.bind_eq_bind, Option.bind_some, Option.pure_def, if_true]; exact hk
theorem den_ck {xs : List X} {k : T} (h : holdXs sp E xs = true) (hk : den sp N k E ks = res) : den sp N (.lets [] xs k) E ks = res := by
  simp only [den, denXs, List.append_nil, h, if_true]; exact hk
theorem den_lets {xs : List X} {k : T} {ds : List Dt} {E' : Env} (h : denXs sp E xs = some ds) (hk : den sp N k E' ks = res) (hE : E ++ ds = E' := by (simp only [List.cons_append, List.nil_append]; try exact rfl)) : den sp N (.lets xs [] k) E ks = res := by
  subst hE
  simp only [den, h, holdXs, if_true]; exact hk
theorem den_ite {a : Atom} {t e : T} {c : Bool} (h : a.val E = some (.b c)) (ht : c = true → den sp N t E ks = res) (he : c = false → den sp N e E ks = res) : den sp N (.ite a t e) E ks = res := by
  simp only [den, h]
  cases c
  · exact he rfl
  · exact ht rfl
theorem denXs_nil : denXs sp E [] = some [] := rfl
theorem denXs_cons {x : X} {xs : List X} {d : Dt} {ds : List Dt} (h : denX sp E x = some d) (hs : denXs sp E xs = some ds) : denXs sp E (x :: xs) = some (d :: ds) := by
  simp only [denXs, h, hs, Option.bind_eq_bind, Option.bind_some, Option.pure_def]
theorem den_call {ci j : Nat} {args : List Atom} {ds rs : List Dt} {d : Dt} (h : vals E args = some ds) (hs : sp ci ds = some rs) (hj : rs[j]? = some d) : denX sp E (.call ci args j) = some d := by
  simp only [denX, h, hs, Option.bind_eq_bind, Option.bind_some]; exact hj
theorem den_calls {ci : Nat} {args : List Atom} {ds rs : List Dt} (h : vals E args = some ds) (hs : sp ci ds = some rs) : denXs sp E ((List.range rs.length).map fun j => .call ci args j) = some rs := by
  have key : ∀ (n k : Nat), k + n = rs.length → denXs sp E ((List.range' k n).map fun j => .call ci args j) = some (rs.drop k) := by
    intro n
    induction n with
    | zero => intro k hk; simp [denXs, List.drop_of_length_le (show rs.length ≤ k by omega)]
    | succ n ih =>
      intro k hk
      rw [List.range'_succ, List.map_cons, List.drop_eq_getElem_cons (by omega : k < rs.length)]
      exact denXs_cons (den_call h hs (List.getElem?_eq_getElem _)) (ih (k + 1) (by omega))
  have := key rs.length 0 (by omega)
  rw [List.range_eq_range']
  simpa using this
theorem den_loop {as0 : List Atom} {body : T} {ds : List Dt} (h : vals E as0 = some ds) (hi : iterT (fun again ds => den sp N body (E ++ ds) (ks ++ [again])) N ds = res) : den sp N (.loop as0 body) E ks = res := by
  simp only [den, h]; exact hi
theorem den_again {lvl : Nat} {as0 : List Atom} {ds : List Dt} {k : List Dt → Option (List Dt)} (hk : ks[lvl]? = some k) (h : vals E as0 = some ds) (hr : k ds = res) : den sp N (.again lvl as0) E ks = res := by
  simp only [den, hk, h]; exact hr
theorem den_inr {sz n : Nat} {a i : Atom} {xs : List (List Dt)} {m : Int} (ha : a.val E = some (.l sz xs)) (hi : i.val E = some (I m)) (h0 : 0 ≤ m) (h1 : m < xs.length) : denX sp E (.inr sz a i) = some (.b true) := by
  simp only [denX, ha, hi, asI, if_true]; simp [h0, h1]
theorem hold_inr {sz : Nat} {a i : Atom} {xs : List (List Dt)} {m : Int} (ha : a.val E = some (.l sz xs)) (hi : i.val E = some (I m)) (h0 : 0 ≤ m) (h1 : m < xs.length) : holdXs sp E [.inr sz a i] = true := by
  simp only [holdXs, den_inr (sp := sp) (n := 0) ha hi h0 h1]
theorem den_idx {sz j : Nat} {a i : Atom} {xs : List (List Dt)} {m : Int} {x : List Dt} {d : Dt} (ha : a.val E = some (.l sz xs)) (hi : i.val E = some (I m)) (h0 : 0 ≤ m) (hx : xs[m.toNat]? = some x) (hj : x[j]? = some d) : denX sp E (.idx a i j) = some d := by
  simp only [denX, ha, hi, asI, if_pos h0, hx, Option.bind_some]; exact hj
theorem den_app {sz : Nat} {a b : Atom} {xs ys : List (List Dt)} (ha : a.val E = some (.l sz xs)) (hb : b.val E = some (.l sz ys)) (h : xs.length + ys.length ≤ 1000000) : denX sp E (.app sz a b) = some (.l sz (xs ++ ys)) := by
  simp only [denX, ha, hb]; simp [h]
theorem den_mk {sz : Nat} {rows : List (List Atom)} {r : List (List Dt)} (h : valss E rows = some r) (hs : r.all (fun x => x.length == sz) = true) (hl : r.length ≤ 1000000) : denX sp E (.mk sz rows) = some (.l sz r) := by
  simp only [denX, h, Option.bind_eq_bind, Option.bind_some]; simp only [hs, hl, and_self, if_true]
end
section
variable {P : Program}
theorem meets_none (f : Nat) (s : Sig) : Meets P (fun _ => none) f s := by
  refine ⟨?_, ?_⟩
  · intro _ W F ds args rs _ _ h
    cases h
  · intro e sz ps _ W F base v xs vs ds args rs _ _ _ _ _ _ _ h
    cases h
end
end Go.Proofs.YtnklncinjahckaaGreatDoor
