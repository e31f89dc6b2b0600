/- Right trees, plainly. -/
import Derived.Test.YtnnbnjanekibpaaTree2
namespace Go.Proofs.Ytnnbnjanekibpaa
open Go.RowKit
set_option linter.unusedVariables false

structure TreeOK (ns : List Int) (bs : List Block) : Prop where
  len : ns.length = bs.length
  le : ns.length ≤ 24
  step : ∀ k, k < ns.length → treeStep ns bs k (nameAt ns k) (blkAt bs k) = 0

theorem treeGo_iff (ns : List Int) (bs : List Block) (f k : Nat) : treeGo ns bs k f = 0 ↔ ∀ j, k ≤ j → j < k + f → treeStep ns bs j (nameAt ns j) (blkAt bs j) = 0 := by
  induction f generalizing k with
  | zero => simp [treeGo]; intro j h1 h2; omega
  | succ f ih =>
    rw [treeGo]
    by_cases h : treeStep ns bs k (nameAt ns k) (blkAt bs k) = 0
    · rw [if_neg (by simp [h]), ih]
      constructor
      · intro H j h1 h2
        rcases Nat.lt_or_ge k j with h3 | h3
        · exact H j h3 (by omega)
        · obtain rfl : j = k := by omega
          exact h
      · intro H j h1 h2; exact H j (by omega) (by omega)
    · rw [if_pos h]
      constructor
      · intro e; exact absurd e h
      · intro H; exact H k (Nat.le_refl _) (by omega)

theorem treeCheck_iff (ns : List Int) (bs : List Block) : treeCheck ⟨ns, bs⟩ = 0 ↔ TreeOK ns bs := by
  simp only [treeCheck]
  by_cases h1 : ns.length = bs.length
  · rw [if_neg (by simp [h1])]
    by_cases h2 : 24 < ns.length
    · rw [if_pos h2]
      constructor
      · intro e; cases e
      · intro H; have := H.le; omega
    · rw [if_neg h2, treeGo_iff]
      exact ⟨fun H => ⟨h1, by omega, fun k hk => H k (Nat.zero_le _) (by omega)⟩, fun H j _ hj => H.step j (by omega)⟩
  · rw [if_pos h1]
    constructor
    · intro e; cases e
    · intro H; exact absurd H.len h1

theorem treeStep_ok {ns : List Int} {bs : List Block} {k : Nat} {n : Int} {b : Block} (h : treeStep ns bs k n b = 0) : (1 ≤ n ∧ n ≤ 120) ∧ blkCheck b = 0 ∧ n ∉ ns.take k ∧ standsE ns bs b k = 0 := by
  unfold treeStep at h
  by_cases h1 : n < 1 ∨ 120 < n
  · rw [if_pos h1] at h; cases h
  · rw [if_neg h1] at h
    by_cases h2 : blkCheck b = 0
    · rw [h2, if_neg (show ¬ ((0 : Int) ≠ 0) by decide)] at h
      by_cases h3 : memB (ns.take k) n = true
      · rw [if_pos h3] at h; cases h
      · rw [if_neg h3] at h
        exact ⟨by omega, h2, by simpa [memB] using h3, h⟩
    · rw [if_pos h2] at h; exact absurd h h2

theorem standsE_ok {ns : List Int} {bs : List Block} {k : Nat} {b : Block} (h : standsE ns bs b k = 0) : (b.parent = 0 ∧ b.height = 1) ∨ (b.parent ≠ 0 ∧ ∃ j : Nat, j < k ∧ idx ns b.parent = j ∧ ns[j]? = some b.parent ∧ b.height = (blkAt bs j).height + 1) := by
  unfold standsE at h
  by_cases h1 : b.parent = 0
  · rw [if_pos h1] at h
    by_cases h2 : b.height = 1
    · exact .inl ⟨h1, h2⟩
    · rw [if_pos h2] at h; cases h
  · rw [if_neg h1] at h
    by_cases h2 : idx (ns.take k) b.parent < 0
    · rw [if_pos h2] at h; cases h
    · rw [if_neg h2] at h
      by_cases h3 : b.height = (blkAt bs (idx (ns.take k) b.parent)).height + 1
      · obtain ⟨j, hj, hjs⟩ := idx_at (show 0 ≤ idx (ns.take k) b.parent by omega)
        have hp := idx_prefix (List.take_prefix k ns) (x := b.parent) (by omega)
        have hlt := (List.getElem?_eq_some_iff.1 hjs).1
        rw [List.getElem?_take] at hjs
        split at hjs
        · exact .inr ⟨h1, j, by assumption, by omega, hjs, by rw [hj] at h3; exact h3⟩
        · cases hjs
      · rw [if_pos h3] at h; cases h

def parentOf (ns : List Int) (bs : List Block) (m : Int) : Int := (blkAt bs (idx ns m)).parent
def remN (ns : List Int) (m : Int) : Nat := if m = 0 then 0 else (idx ns m + 1).toNat
/-- Names from one up to the first block. -/
def up (ns : List Int) (bs : List Block) : Nat → Int → List Int
  | 0, _ => []
  | f + 1, m => if m = 0 then [] else m :: up ns bs f (parentOf ns bs m)
def pathL (ns : List Int) (bs : List Block) (m : Int) : List Int := (up ns bs ns.length m).reverse

theorem TreeOK.name {ns : List Int} {bs : List Block} (h : TreeOK ns bs) {m : Int} (hm : 0 ≤ idx ns m) : 1 ≤ m ∧ m ≤ 120 ∧ ∃ j : Nat, j < ns.length ∧ idx ns m = j ∧ nameAt ns j = m ∧ (parentOf ns bs m = 0 ∨ (parentOf ns bs m ≠ 0 ∧ 0 ≤ idx ns (parentOf ns bs m) ∧ idx ns (parentOf ns bs m) < j)) := by
  obtain ⟨j, hj, hjs⟩ := idx_at hm
  have hlt := (List.getElem?_eq_some_iff.1 hjs).1
  have hn : nameAt ns j = m := by simp [nameAt, hjs]
  obtain ⟨⟨a, b⟩, c, d, e⟩ := treeStep_ok (h.step j hlt)
  refine ⟨by omega, by omega, j, hlt, hj, hn, ?_⟩
  have hp : parentOf ns bs m = (blkAt bs j).parent := by unfold parentOf; rw [hj]
  rw [hp]
  rcases standsE_ok e with ⟨h1, h2⟩ | ⟨h1, i, hi, hi2, hi3, hi4⟩
  · exact .inl h1
  · exact .inr ⟨h1, by omega, by omega⟩
/-- What a walk up needs to go on. -/
theorem TreeOK.rem {ns : List Int} {bs : List Block} (h : TreeOK ns bs) {m : Int} (h0 : m ≠ 0) (hm : 0 ≤ idx ns m) : remN ns (parentOf ns bs m) < remN ns m := by
  obtain ⟨_, _, j, hj, he, _, hp⟩ := h.name hm
  unfold remN
  rw [if_neg h0]
  rcases hp with hp | ⟨hp, h1, h2⟩
  · rw [if_pos hp]; omega
  · rw [if_neg hp]; omega
end Go.Proofs.Ytnnbnjanekibpaa
