/- Regions that draw their order, continued: what yields in whatever world may be taken first at any time. Own text, of no program. -/
import Derived.Test.YtnnbnjanekibpaaDraw
namespace Go.Proofs.Ytnnbnjanekibpaa
open Go.RowKit
set_option linter.unusedVariables false
attribute [local semireducible] wpAnyT Yl

section
variable {P : Program} {ops : Array Oper} {a : Act} {w : World} {md : Region.Mode} {Q : Exit → Act → World → Prop} {S : World → Prop} {late : List Nat}
theorem lateOn_ne {listed : Array Bool} {i : Nat} (hi : i ∉ late) : lateOn late (listed.setIfInBounds i true) = lateOn late listed := by
  unfold lateOn
  have : ∀ l : List Nat, i ∉ l → (l.any fun s => (listed.setIfInBounds i true).getD s false) = l.any fun s => listed.getD s false := by
    intro l
    induction l with
    | nil => intro _; rfl
    | cons s l ih =>
      intro h
      have h1 : i ≠ s := fun e => h (by simp [e])
      have h2 : i ∉ l := fun e => h (by simp [e])
      simp only [List.any_cons, ih h2, getD_set_ne false h1]
  exact this late hi
theorem wpAnyT_firstP {i : Nat} {oi : Oper} {v : Value} (hi : ops[i]? = some oi) (hsel : ∀ (j : Nat) (o : Oper) cs b, ops[j]? = some o → o.op ≠ .select cs b)
    (hQ : ∀ c a w, Q (.panic c) (a.put oi.dst v) w → Q (.panic c) a w) (hil : i ∉ late) :
    ∀ (fuel : Nat) (listed : Array Bool) (a : Act) (w : World),
      (∀ j oj, ops[j]? = some oj → j ≠ i → listed.getD j true = false → (∀ e ∈ oj.after, Region.binds md e = true → e.on ≠ i) → oi.apart ops oj = true) →
      i ∈ Region.ready md ops listed → YieldsIf P ops (fun _ => True) oi v a → (lateOn late listed = false → S w) →
      wpAnyT P md ops Q S late fuel (listed.setIfInBounds i true) (a.put oi.dst v) w → wpAnyT P md ops Q S late (fuel + 1) listed a w := by
  intro fuel
  induction fuel with
  | zero =>
    intro listed a w _ hr hy hS H
    refine ⟨fun h => (by rw [h] at hr; cases hr), fun j hj => ?_⟩
    by_cases hji : j = i
    · subst hji; exact hy.wpOp hi trivial ⟨fun h => hS (by rwa [lateOn_ne hil] at h), H⟩
    · have := ready_mono hj hji
      rw [H.1] at this
      cases this
  | succ fuel ih =>
    intro listed a w hfree hr hy hS H
    refine ⟨fun h => (by rw [h] at hr; cases hr), fun j hj => ?_⟩
    by_cases hji : j = i
    · subst hji; exact hy.wpOp hi trivial ⟨fun h => hS (by rwa [lateOn_ne hil] at h), H⟩
    · have h1 := H.2 j (ready_mono hj hji)
      obtain ⟨hjun, oj, hoj, hall⟩ := mem_ready.1 hj
      have hnot : ∀ e ∈ oj.after, Region.binds md e = true → e.on ≠ i := fun e he hb heq => by
        have h1 := hall e he hb
        have h0 := (mem_ready.1 hr).1
        rw [heq] at h1
        rcases Nat.lt_or_ge i listed.size with h' | h'
        · simp [h'] at h0 h1; rw [h0] at h1; cases h1
        · simp [Array.getElem?_eq_none h'] at h1
      have h2 := wpOp_putIf hoj (hfree j oj hoj hji hjun hnot) (fun cs b => hsel i oi cs b hi) (fun cs b => hsel j oj cs b hoj) hQ hy h1
      have hfree' : ∀ k ok, ops[k]? = some ok → k ≠ i → (listed.setIfInBounds j true).getD k true = false →
          (∀ e ∈ ok.after, Region.binds md e = true → e.on ≠ i) → oi.apart ops ok = true := fun k ok hk hki hun hno => by
        refine hfree k ok hk hki ?_ hno
        by_cases hjk : j = k
        · subst hjk; exact hjun
        · rw [getD_set_ne true hjk] at hun; exact hun
      have e1 : lateOn late ((listed.setIfInBounds i true).setIfInBounds j true) = lateOn late (listed.setIfInBounds j true) := by
        rw [Array.setIfInBounds_comm _ _ (Ne.symm hji), lateOn_ne hil]
      refine wpOp_mono (fun a' w' h3 => ⟨fun h => h3.2.1 (by rw [e1]; exact h), ih (listed.setIfInBounds j true) a' w' hfree' (ready_mono hr (Ne.symm hji)) h3.1 (fun h => h3.2.1 (by rw [e1]; exact h)) ?_⟩) h2
      rw [Array.setIfInBounds_comm _ _ hji]
      exact h3.2.2
/-- What an operation yields in whatever world. -/
def Yp (P : Program) (o : Oper) (a : Act) (v : Value) : Prop := ∀ W, (execOp a.eval o).run P W = .ok (.value v) W
theorem Yp.mk {o : Oper} {v : Value} (h : ∀ W, (execOp a.eval o).run P W = .ok (.value v) W) : Yp P o a v := h
theorem Yp.move {o : Oper} {x : Operand} (ho : o.op = .move x) : Yp P o a (a.eval x) := fun W => by unfold execOp; simp only [ho]; rfl
theorem Yp.assign {o : Oper} {x : Operand} (ho : o.op = .assign x) : Yp P o a (a.eval x) := fun W => by unfold execOp; simp only [ho]; rfl
theorem takeP {l : List Oper} (i : Nat) {oi : Oper} {v : Value} {fuel : Nat} {listed : Array Bool} (hi : l[i]? = some oi) (hw : Region.wanted oi (yielded l.toArray a.tmps) = true) (hy : Yp P oi a v)
    (hS : lateOn late listed = false → S w)
    (hs : (Region.noSelect l.toArray && Region.free md l.toArray listed i && (Region.ready md l.toArray listed).contains i && !late.contains i) = true)
    (hQ : ∀ c a w, Q (.panic c) (a.put oi.dst v) w → Q (.panic c) a w)
    (k : wpAnyT P md l.toArray Q S late fuel (listed.setIfInBounds i true) (a.put oi.dst v) w) : wpAnyT P md l.toArray Q S late (fuel + 1) listed a w := by
  simp only [Bool.and_eq_true, Bool.not_eq_true'] at hs
  obtain ⟨⟨⟨h1, h2⟩, h3⟩, h4⟩ := hs
  have hi' : l.toArray[i]? = some oi := by simpa using hi
  exact wpAnyT_firstP hi' (Region.noSelect_spec h1) hQ (by simpa using h4) fuel listed a w (Region.free_spec hi' h2) (by simpa using h3) (.inl ⟨hw, fun W _ => hy W⟩) hS k
/-- An operation that is not asked for is passed over at any time. -/
theorem takeN {l : List Oper} (i : Nat) {oi : Oper} {fuel : Nat} {listed : Array Bool} (hi : l[i]? = some oi) (hw : Region.wanted oi (yielded l.toArray a.tmps) = false)
    (hS : lateOn late listed = false → S w)
    (hs : (Region.noSelect l.toArray && Region.free md l.toArray listed i && (Region.ready md l.toArray listed).contains i && !late.contains i) = true)
    (hQ : ∀ c a w, Q (.panic c) (a.put oi.dst undef) w → Q (.panic c) a w)
    (k : wpAnyT P md l.toArray Q S late fuel (listed.setIfInBounds i true) (a.put oi.dst undef) w) : wpAnyT P md l.toArray Q S late (fuel + 1) listed a w := by
  simp only [Bool.and_eq_true, Bool.not_eq_true'] at hs
  obtain ⟨⟨⟨h1, h2⟩, h3⟩, h4⟩ := hs
  have hi' : l.toArray[i]? = some oi := by simpa using hi
  exact wpAnyT_firstP hi' (Region.noSelect_spec h1) hQ (by simpa using h4) fuel listed a w (Region.free_spec hi' h2) (by simpa using h3) (.inr ⟨hw, rfl⟩) hS k
end
attribute [irreducible] Yp
end Go.Proofs.Ytnnbnjanekibpaa
