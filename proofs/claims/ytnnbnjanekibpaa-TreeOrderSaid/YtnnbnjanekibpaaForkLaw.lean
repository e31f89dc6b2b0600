/- Paths and where they part, plainly. -/
import Derived.Test.YtnnbnjanekibpaaFork
namespace Go.Proofs.Ytnnbnjanekibpaa
open Go.RowKit
set_option linter.unusedVariables false

theorem up_fuel {ns : List Int} {bs : List Block} (ok : TreeOK ns bs) (f f' : Nat) (m : Int) (hm : m = 0 ∨ 0 ≤ idx ns m) (h : remN ns m ≤ f) (h' : remN ns m ≤ f') : up ns bs f m = up ns bs f' m := by
  induction f generalizing f' m with
  | zero =>
    have h0 : m = 0 := by
      rcases hm with hm | hm
      · exact hm
      · apply Classical.byContradiction
        intro h0
        unfold remN at h
        rw [if_neg h0] at h
        omega
    cases f' with
    | zero => rfl
    | succ f' => rw [up, up, if_pos h0]
  | succ f ih =>
    by_cases h0 : m = 0
    · cases f' with
      | zero => rw [up, up, if_pos h0]
      | succ f' => rw [up, up, if_pos h0, if_pos h0]
    · have hm' : 0 ≤ idx ns m := by rcases hm with h | h; exact absurd h h0; exact h
      cases f' with
      | zero => unfold remN at h'; rw [if_neg h0] at h'; omega
      | succ f' =>
        have hr := ok.rem h0 hm'
        obtain ⟨_, _, j, _, _, _, hp⟩ := ok.name hm'
        rw [up, up, if_neg h0, if_neg h0, ih f' (parentOf ns bs m) (by rcases hp with h | h; exact .inl h; exact .inr h.2.1) (by omega) (by omega)]

theorem remN_le {ns : List Int} {bs : List Block} (ok : TreeOK ns bs) {m : Int} (hm : m = 0 ∨ 0 ≤ idx ns m) : remN ns m ≤ ns.length := by
  unfold remN
  rcases hm with h | h
  · rw [if_pos h]; omega
  · obtain ⟨_, _, j, hj, he, _⟩ := ok.name h
    split <;> omega

theorem pathL_zero (ns : List Int) (bs : List Block) : pathL ns bs 0 = [] := by
  unfold pathL
  cases ns.length with
  | zero => rfl
  | succ n => rw [up, if_pos rfl]; rfl

/-- A name's path is its parent's, and it. -/
theorem pathL_step {ns : List Int} {bs : List Block} (ok : TreeOK ns bs) {m : Int} (hm : 0 ≤ idx ns m) : pathL ns bs m = pathL ns bs (parentOf ns bs m) ++ [m] ∧ (parentOf ns bs m = 0 ∨ 0 ≤ idx ns (parentOf ns bs m)) ∧ remN ns (parentOf ns bs m) < remN ns m := by
  obtain ⟨h1, h2, j, hj, he, _, hp⟩ := ok.name hm
  have h0 : m ≠ 0 := by omega
  have hp' : parentOf ns bs m = 0 ∨ 0 ≤ idx ns (parentOf ns bs m) := by rcases hp with h | h; exact .inl h; exact .inr h.2.1
  have hr := ok.rem h0 hm
  have hle := remN_le ok (m := m) (.inr hm)
  refine ⟨?_, hp', hr⟩
  unfold pathL
  obtain ⟨f, hf⟩ : ∃ f, ns.length = f + 1 := ⟨ns.length - 1, by omega⟩
  rw [up_fuel ok ns.length (f + 1) (parentOf ns bs m) hp' (by omega) (by omega), hf, up_fuel ok (f + 1) f (parentOf ns bs m) hp' (by omega) (by omega), up, if_neg h0, List.reverse_cons]

/-- A head of a path is the path of its last. -/
theorem pathL_take {ns : List Int} {bs : List Block} (ok : TreeOK ns bs) (r : Nat) {m : Int} (hr : remN ns m ≤ r) (hm : m = 0 ∨ 0 ≤ idx ns m) {k : Nat} {v : Int} (h : (pathL ns bs m)[k]? = some v) : (pathL ns bs m).take (k + 1) = pathL ns bs v ∧ 0 ≤ idx ns v := by
  induction r generalizing m with
  | zero =>
    rcases hm with h0 | h0
    · rw [h0, pathL_zero] at h; simp at h
    · have := (pathL_step ok h0).2.2; omega
  | succ r ih =>
    rcases hm with h0 | h0
    · rw [h0, pathL_zero] at h; simp at h
    · obtain ⟨e, hp, hr'⟩ := pathL_step ok h0
      rw [e] at h ⊢
      rcases Nat.lt_or_ge k (pathL ns bs (parentOf ns bs m)).length with hk | hk
      · rw [List.getElem?_append_left hk] at h
        rw [List.take_append_of_le_length (by omega)]
        exact ih (by omega) hp h
      · rw [List.getElem?_append_right hk] at h
        have hk' : k - (pathL ns bs (parentOf ns bs m)).length = 0 := by
          rcases Nat.eq_zero_or_pos (k - (pathL ns bs (parentOf ns bs m)).length) with h' | h'
          · exact h'
          · rw [List.getElem?_eq_none (by simp; omega)] at h; cases h
        rw [hk'] at h
        simp at h
        subst h
        rw [List.take_of_length_le (by simp; omega)]
        exact ⟨e.symm, h0⟩

/-- Where two paths agree, they agree before. -/
theorem pathL_agree {ns : List Int} {bs : List Block} (ok : TreeOK ns bs) {a b : Int} (ha : a = 0 ∨ 0 ≤ idx ns a) (hb : b = 0 ∨ 0 ≤ idx ns b) {k : Nat} {v : Int} (h : (pathL ns bs a)[k]? = some v) (h' : (pathL ns bs b)[k]? = some v) : (pathL ns bs a).take (k + 1) = (pathL ns bs b).take (k + 1) := by
  rw [(pathL_take ok _ (Nat.le_refl _) ha h).1, (pathL_take ok _ (Nat.le_refl _) hb h').1]

theorem pathL_last {ns : List Int} {bs : List Block} (ok : TreeOK ns bs) {a : Int} (ha : a = 0 ∨ 0 ≤ idx ns a) : (pathL ns bs a).getLast?.getD 0 = a := by
  rcases ha with h | h
  · rw [h, pathL_zero]; rfl
  · rw [(pathL_step ok h).1]; simp

/-- How long two lists are alike. -/
def cpl : List Int → List Int → Nat
  | x :: xs, y :: ys => if x = y then cpl xs ys + 1 else 0
  | [], _ => 0
  | _ :: _, [] => 0
theorem forkL_comm (xs ys : List Int) (l : Int) : forkL xs ys l = forkL ys xs l := by
  induction xs generalizing ys l with
  | nil => rw [forkL_nil]; cases ys <;> rfl
  | cons x xs ih =>
    cases ys with
    | nil => rfl
    | cons y ys =>
      rw [forkL, forkL, ih]
      by_cases h : x = y
      · subst h; rfl
      · rw [if_neg h, if_neg (fun e => h e.symm)]
theorem forkL_self (xs : List Int) (l : Int) : forkL xs xs l = xs.getLast?.getD l := by
  induction xs generalizing l with
  | nil => rfl
  | cons x xs ih => rw [forkL, if_pos rfl, ih]; cases xs <;> simp [List.getLast?_cons]
theorem forkL_none (xs ys : List Int) (l : Int) (h : ∀ (k : Nat) (v : Int), xs[k]? = some v → ys[k]? ≠ some v) : forkL xs ys l = l := by
  induction xs generalizing ys l with
  | nil => rfl
  | cons x xs ih =>
    cases ys with
    | nil => rfl
    | cons y ys =>
      rw [forkL, if_neg (fun e => h 0 x rfl (by rw [e]; rfl))]
      exact ih ys l fun k v h1 h2 => h (k + 1) v h1 h2
/-- The last place at which two lists agree, where they agree before each such. -/
theorem forkL_cpl (xs ys : List Int) (l : Int) (h : ∀ (k : Nat) (v : Int), xs[k]? = some v → ys[k]? = some v → xs.take (k + 1) = ys.take (k + 1)) :
    forkL xs ys l = if cpl xs ys = 0 then l else (xs[cpl xs ys - 1]?).getD 0 := by
  induction xs generalizing ys l with
  | nil => rfl
  | cons x xs ih =>
    cases ys with
    | nil => rfl
    | cons y ys =>
      by_cases hxy : x = y
      · subst hxy
        rw [forkL, if_pos rfl, cpl, if_pos rfl, ih ys x (fun k v h1 h2 => by have := h (k + 1) v h1 h2; simpa using this), if_neg (show ¬ (cpl xs ys + 1 = 0) by omega)]
        by_cases h0 : cpl xs ys = 0
        · rw [if_pos h0, h0]; rfl
        · rw [if_neg h0]
          obtain ⟨c, hc⟩ : ∃ c, cpl xs ys = c + 1 := ⟨cpl xs ys - 1, by omega⟩
          rw [hc]; rfl
      · rw [cpl, if_neg hxy, if_pos rfl]
        apply forkL_none
        intro k v h1 h2
        have := h k v h1 h2
        simp at this
        exact hxy this.1
theorem cpl_le (xs ys : List Int) : cpl xs ys ≤ xs.length ∧ cpl xs ys ≤ ys.length := by
  induction xs generalizing ys with
  | nil => simp [cpl]
  | cons x xs ih =>
    cases ys with
    | nil => simp [cpl]
    | cons y ys =>
      rw [cpl]
      have := ih ys
      split <;> simp <;> omega
end Go.Proofs.Ytnnbnjanekibpaa
