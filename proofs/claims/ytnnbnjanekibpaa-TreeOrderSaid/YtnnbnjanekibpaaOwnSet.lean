/- A row of the call's own: its cells read and written. Own text, of no program. -/
import Derived.Test.YtnnbnjanekibpaaOwn
namespace Go.Proofs.Ytnnbnjanekibpaa
open Go.RowKit
set_option linter.unusedVariables false

theorem own_cell {w : World} {base e size n c : Nat} {A : Option Addr} {xs : List Value} (h : w.ownsRow base e size (.slice A n c) n xs) {i : Nat} (hi : i < xs.length) :
    ∃ g, A = some ⟨g, 0, none⟩ ∧ base ≤ g ∧ g < w.heap.size ∧ w.cell? ⟨g, i, none⟩ = xs[i]? ∧ w.frozen? ⟨g, i, none⟩ = false := by
  obtain ⟨hl, h2⟩ := h
  rcases h2 with ⟨hv, hn⟩ | ⟨g, cap, cur, hv, hg, hh, hnc, hcm, hcs, ht⟩
  · rw [hn, Nat.zero_mul] at hl; omega
  · simp only [Value.slice.injEq] at hv
    obtain ⟨rfl, _, rfl⟩ := hv
    refine ⟨g, rfl, hg, blk_lt hh, ?_, blk_free hh⟩
    rw [blk_cell hh, ← ht, List.getElem?_take, if_pos (by rw [← hl]; exact hi)]
    simp

theorem own_set {w : World} {base e size n c : Nat} {A : Option Addr} {xs : List Value} (h : w.ownsRow base e size (.slice A n c) n xs) {g i : Nat} (hA : A = some ⟨g, 0, none⟩) (u : Value) :
    (w.setCell ⟨g, i, none⟩ u).ownsRow base e size (.slice A n c) n (xs.set i u) := by
  obtain ⟨hl, h2⟩ := h
  refine ⟨by rw [List.length_set]; exact hl, ?_⟩
  rcases h2 with ⟨hv, hn⟩ | ⟨g', cap, cur, hv, hg, hh, hnc, hcm, hcs, ht⟩
  · simp only [Value.slice.injEq] at hv
    rw [hv.1] at hA; cases hA
  · simp only [Value.slice.injEq] at hv
    obtain ⟨e1, e2, e3⟩ := hv
    rw [e1] at hA
    simp only [Option.some.injEq, Addr.mk.injEq] at hA
    obtain ⟨rfl, _⟩ := hA
    refine .inr ⟨_, cap, cur.setIfInBounds i u, by rw [e1, e3], hg, blk_set hh, hnc, hcm, by simpa using hcs, ?_⟩
    rw [← ht]
    simp [List.take_set]

theorem flat_cell {α : Type} {s : Nat} {zs : List (α × List Value)} (hz : ∀ z ∈ zs, z.2.length = s) {k j : Nat} {z : α × List Value} (hk : zs[k]? = some z) (hj : j < s) : (flat zs)[k * s + j]? = z.2[j]? := by
  induction zs generalizing k with
  | nil => simp at hk
  | cons y zs ih =>
    have hy : y.2.length = s := hz y (List.mem_cons_self ..)
    cases k with
    | zero =>
      simp at hk
      subst hk
      show (y.2 ++ flat zs)[0 * s + j]? = _
      rw [Nat.zero_mul, Nat.zero_add, List.getElem?_append_left (by omega)]
    | succ k =>
      show (y.2 ++ flat zs)[(k + 1) * s + j]? = _
      rw [List.getElem?_append_right (by rw [hy, Nat.succ_mul]; omega), hy, show (k + 1) * s + j - s = k * s + j by rw [Nat.succ_mul]; omega]
      exact ih (fun z h => hz z (List.mem_cons_of_mem _ h)) (by simpa using hk)

theorem flat_set {α : Type} {s : Nat} {zs : List (α × List Value)} (hz : ∀ z ∈ zs, z.2.length = s) {k j : Nat} {z : α × List Value} (hk : zs[k]? = some z) (hj : j < s) (u : Value) (x : α) : (flat zs).set (k * s + j) u = flat (zs.set k (x, z.2.set j u)) := by
  induction zs generalizing k with
  | nil => simp at hk
  | cons y zs ih =>
    have hy : y.2.length = s := hz y (List.mem_cons_self ..)
    cases k with
    | zero =>
      simp at hk
      subst hk
      show (y.2 ++ flat zs).set (0 * s + j) u = y.2.set j u ++ flat zs
      rw [Nat.zero_mul, Nat.zero_add, List.set_append_left _ _ (by omega)]
    | succ k =>
      show (y.2 ++ flat zs).set ((k + 1) * s + j) u = y.2 ++ flat (zs.set k (x, z.2.set j u))
      rw [List.set_append_right _ _ (by rw [hy, Nat.succ_mul]; omega), hy, show (k + 1) * s + j - s = k * s + j by rw [Nat.succ_mul]; omega, ih (fun z h => hz z (List.mem_cons_of_mem _ h)) (by simpa using hk)]
end Go.Proofs.Ytnnbnjanekibpaa
