/- Plain facts on books: what is right, what naming leaves. No program. -/
import Derived.Test.YtnnbnjanekibpaaBook3
namespace Go.Proofs.Ytnnbnjanekibpaa
set_option linter.unusedVariables false

abbrev Text := List UInt8
def BookOK (t : List Text) : Prop := t.length ≤ 120 ∧ (∀ s ∈ t, s.length ≤ 4000) ∧ t.Nodup

theorem bookGo_iff (l seen : List Text) : bookGo l seen = 0 ↔ (∀ s ∈ l, s.length ≤ 4000) ∧ l.Nodup ∧ ∀ s ∈ l, s ∉ seen := by
  induction l generalizing seen with
  | nil => simp [bookGo]
  | cons s l ih =>
    rw [bookGo]
    by_cases h : 4000 < s.length
    · rw [if_pos h]
      constructor
      · intro h'; cases h'
      · intro h'; have := h'.1 s (by simp); omega
    · rw [if_neg h]
      by_cases h2 : s ∈ seen
      · rw [if_pos h2]
        constructor
        · intro h'; cases h'
        · intro h'; exact absurd h2 (h'.2.2 s (by simp))
      · rw [if_neg h2, ih]
        simp only [List.mem_cons, List.nodup_cons, not_or]
        constructor
        · rintro ⟨a, b, c⟩
          refine ⟨?_, ⟨fun hs => (c s hs).1 rfl, b⟩, ?_⟩
          · rintro x (rfl | hx)
            · omega
            · exact a x hx
          · rintro x (rfl | hx)
            · exact h2
            · exact (c x hx).2
        · rintro ⟨a, ⟨b1, b2⟩, c⟩
          exact ⟨fun x hx => a x (.inr hx), b2, fun x hx => ⟨fun e => b1 (e ▸ hx), c x (.inr hx)⟩⟩
theorem bookCheck_iff (t : List Text) : bookCheck ⟨t⟩ = 0 ↔ BookOK t := by
  unfold bookCheck BookOK
  by_cases h : 120 < t.length
  · simp only [if_pos h]
    constructor
    · intro h'; cases h'
    · intro h'; omega
  · simp only [if_neg h, bookGo_iff]
    constructor
    · rintro ⟨a, b, _⟩; exact ⟨by omega, a, b⟩
    · rintro ⟨_, a, b⟩; exact ⟨a, b, by simp⟩

theorem idxGo_at {α : Type} [DecidableEq α] (x : α) (l : List α) (k : Nat) (h : 0 ≤ idxGo x l k) : ∃ j : Nat, idxGo x l k = k + j ∧ l[j]? = some x := by
  induction l generalizing k with
  | nil => simp [idxGo] at h
  | cons y l ih =>
    by_cases hxy : x = y
    · subst hxy; exact ⟨0, by simp [idxGo], by simp⟩
    · rw [idxGo, if_neg hxy] at h ⊢
      obtain ⟨j, h1, h2⟩ := ih (k + 1) h
      exact ⟨j + 1, by rw [h1]; omega, by simpa using h2⟩
theorem idx_at {α : Type} [DecidableEq α] {l : List α} {x : α} (h : 0 ≤ idx l x) : ∃ j : Nat, idx l x = j ∧ l[j]? = some x := by
  obtain ⟨j, h1, h2⟩ := idxGo_at x l 0 h
  exact ⟨j, by unfold idx; omega, h2⟩
theorem idxGo_append {α : Type} [DecidableEq α] (x : α) (l m : List α) (k : Nat) (h : 0 ≤ idxGo x l k) : idxGo x (l ++ m) k = idxGo x l k := by
  induction l generalizing k with
  | nil => simp [idxGo] at h
  | cons y l ih =>
    by_cases hxy : x = y
    · subst hxy; simp [idxGo]
    · rw [idxGo, if_neg hxy] at h
      rw [List.cons_append, idxGo, if_neg hxy, idxGo, if_neg hxy]
      exact ih _ h
theorem idx_prefix {α : Type} [DecidableEq α] {l m : List α} (hp : l <+: m) {x : α} (h : 0 ≤ idx l x) : idx m x = idx l x := by
  obtain ⟨r, rfl⟩ := hp
  exact idxGo_append x l r 0 h

theorem idx_prefix_ge {α : Type} [DecidableEq α] {l m : List α} (hp : l <+: m) {x : α} (h : 0 ≤ idx l x) : 0 ≤ idx m x := by rw [idx_prefix hp h]; exact h
theorem name_ok {t : List Text} {s : Text} (ht : BookOK t) (hs : s.length ≤ 4000) (he : nameE t s = 0) :
    BookOK (nameL t s) ∧ t <+: nameL t s ∧ 0 ≤ idx (nameL t s) s ∧ nameN t s = idx (nameL t s) s + 1 := by
  obtain ⟨h1, h2, h3⟩ := ht
  unfold nameE at he
  unfold nameL nameN
  by_cases h0 : 0 ≤ idx t s
  · rw [if_pos h0, if_pos h0]
    exact ⟨⟨h1, h2, h3⟩, List.prefix_refl _, h0, rfl⟩
  · rw [if_neg h0, if_neg h0]
    rw [if_neg h0] at he
    have hns : s ∉ t := fun h => h0 ((idx_mem t s).2 h)
    by_cases hf : t.length = 120
    · rw [if_pos hf] at he; cases he
    · rw [if_neg hf, if_neg hf]
      have key : ∀ (l : List Text) (k : Nat), s ∉ l → idxGo s (l ++ [s]) k = k + l.length := by
        intro l
        induction l with
        | nil => intro k _; simp [idxGo]
        | cons y l ih =>
          intro k hn
          simp only [List.mem_cons, not_or] at hn
          rw [List.cons_append, idxGo, if_neg hn.1, ih (k + 1) hn.2, List.length_cons]
          omega
      have hi : idx (t ++ [s]) s = t.length := by have := key t 0 hns; simpa [idx] using this
      refine ⟨⟨by simp; omega, ?_, ?_⟩, List.prefix_append _ _, by rw [hi]; omega, by rw [hi]⟩
      · intro x hx
        rcases List.mem_append.1 hx with h | h
        · exact h2 x h
        · simp at h; subst h; exact hs
      · rw [List.nodup_append]
        exact ⟨h3, by simp, by intro a ha b hb; simp at hb; subst hb; exact fun e => hns (e ▸ ha)⟩
theorem allGo_ok (l : List Text) (t : List Text) (o : List Int) (ht : BookOK t) (he : (allGo l t o).2.2 = 0) : BookOK (allGo l t o).1 ∧ t <+: (allGo l t o).1 := by
  induction l generalizing t o with
  | nil => exact ⟨ht, List.prefix_refl _⟩
  | cons s l ih =>
    rw [allGo] at he ⊢
    by_cases h : 4000 < s.length
    · rw [if_pos h] at he; cases he
    · rw [if_neg h] at he ⊢
      by_cases h2 : nameE t s ≠ 0
      · rw [if_pos h2] at he; exact absurd he h2
      · rw [if_neg h2] at he ⊢
        have h3 : nameE t s = 0 := by simpa using h2
        obtain ⟨a, b, _, _⟩ := name_ok ht (by omega) h3
        obtain ⟨c, d⟩ := ih _ _ a he
        exact ⟨c, b.trans d⟩
/-- What is there is named as it is called, and nothing is added. -/
theorem name_there {t : List Text} {s : Text} (h : 0 ≤ idx t s) : nameE t s = 0 ∧ nameL t s = t ∧ nameN t s = idx t s + 1 := by
  unfold nameE nameL nameN
  rw [if_pos h, if_pos h, if_pos h]
  exact ⟨rfl, rfl, rfl⟩
/-- Unlike texts have unlike names. -/
theorem name_inj {t : List Text} {s u : Text} (h : 0 ≤ idx t s) (he : nameE t u = 0) : (nameN t u = idx t s + 1 ↔ u = s) := by
  obtain ⟨j, hj, hjs⟩ := idx_at h
  constructor
  · intro hn
    by_cases h0 : 0 ≤ idx t u
    · rw [(name_there h0).2.2] at hn
      obtain ⟨i, hi, his⟩ := idx_at h0
      have : i = j := by omega
      subst this
      rw [hjs] at his
      injection his with his
      exact his.symm
    · unfold nameN at hn
      unfold nameE at he
      rw [if_neg h0] at hn he
      split at he
      · cases he
      · rename_i hf
        rw [if_neg hf] at hn
        have := (List.getElem?_eq_some_iff.1 hjs).1
        omega
  · rintro rfl; exact (name_there h).2.2
theorem nameL_prefix {t : List Text} {s : Text} (he : nameE t s = 0) : t <+: nameL t s := by
  unfold nameE at he
  unfold nameL
  by_cases h0 : 0 ≤ idx t s
  · rw [if_pos h0]; exact List.prefix_refl _
  · rw [if_neg h0] at he ⊢
    split at he
    · cases he
    · rename_i hf; rw [if_neg hf]; exact List.prefix_append _ _
theorem lookS_there {t : List Text} {s : Text} (ht : BookOK t) (h : 0 ≤ idx t s) : lookS ⟨t⟩ (idx t s + 1) = s ∧ lookE ⟨t⟩ (idx t s + 1) = 0 := by
  obtain ⟨j, hj, hjs⟩ := idx_at h
  have hc := (bookCheck_iff t).2 ht
  have hl := (List.getElem?_eq_some_iff.1 hjs).1
  have n1 : ¬ (bookCheck ⟨t⟩ ≠ 0) := by simp [hc]
  have n2 : ¬ (idx t s + 1 < 1 ∨ ((Book.mk t).texts.length : Int) < idx t s + 1) := by
    show ¬ (idx t s + 1 < 1 ∨ (t.length : Int) < idx t s + 1)
    omega
  unfold lookS lookE
  rw [if_neg n1, if_neg n1, if_neg n2, if_neg n2]
  refine ⟨?_, rfl⟩
  rw [show (idx t s + 1 - 1).toNat = j by omega, hjs]
  rfl
end Go.Proofs.Ytnnbnjanekibpaa
