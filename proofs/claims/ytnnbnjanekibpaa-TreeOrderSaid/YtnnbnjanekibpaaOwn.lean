/- Slices as lists of data beside their cells; rows of the call's own. Own text, of no program. -/
import Derived.Test.YtnnbnjanekibpaaData
namespace Go.Proofs.Ytnnbnjanekibpaa
open Go.RowKit
set_option linter.unusedVariables false

/-- The cells of a list of data. -/
def flat {α : Type} (zs : List (α × List Value)) : List Value := (zs.map (·.2)).flatten
theorem flat_nil {α : Type} : flat ([] : List (α × List Value)) = [] := rfl
theorem flat_cons {α : Type} (z : α × List Value) (zs : List (α × List Value)) : flat (z :: zs) = z.2 ++ flat zs := by simp [flat]
theorem flat_append {α : Type} (zs ys : List (α × List Value)) : flat (zs ++ ys) = flat zs ++ flat ys := by simp [flat]
theorem flat_length {α : Type} {s : Nat} {zs : List (α × List Value)} (h : ∀ z ∈ zs, z.2.length = s) : (flat zs).length = zs.length * s := by
  induction zs with
  | nil => simp [flat]
  | cons z zs ih =>
    rw [flat_cons, List.length_append, ih (fun y hy => h y (by simp [hy])), h z (by simp), List.length_cons, Nat.succ_mul]
    omega
theorem flat_at {α : Type} {s : Nat} {zs : List (α × List Value)} (h : ∀ z ∈ zs, z.2.length = s) {i : Nat} {z : α × List Value} (hi : zs[i]? = some z) {j : Nat} (hj : j < s) : (flat zs)[i * s + j]? = z.2[j]? := by
  induction zs generalizing i with
  | nil => simp at hi
  | cons y zs ih =>
    have hy := h y (by simp)
    rw [flat_cons]
    cases i with
    | zero =>
      simp at hi
      subst hi
      rw [Nat.zero_mul, Nat.zero_add, List.getElem?_append_left (by omega)]
    | succ i =>
      simp at hi
      rw [List.getElem?_append_right (by rw [hy, Nat.succ_mul]; omega), hy, show (i + 1) * s + j - s = i * s + j by rw [Nat.succ_mul]; omega]
      exact ih (fun z hz => h z (by simp [hz])) hi

theorem Rds.pairs {α : Type} {S : Sh α} {w : World} {F : Nat → Prop} {xs : List α} {A : Option Addr} {n c : Nat} (h : Rds S w F xs A n c) :
    ∃ zs : List (α × List Value), zs.map (·.1) = xs ∧ (∀ z ∈ zs, S.rep w F z.1 z.2) ∧ (0 < n → ∃ b off, A = some ⟨b, off, none⟩ ∧ F b ∧ ∀ j v, (flat zs)[j]? = some v → w.cell? ⟨b, off + j, none⟩ = some v) := by
  obtain ⟨h1, h2, h3, h4⟩ := h
  rcases Nat.eq_zero_or_pos n with h0 | h0
  · have : xs = [] := List.eq_nil_of_length_eq_zero (by omega)
    subst this
    exact ⟨[], rfl, by simp, fun h => by omega⟩
  · obtain ⟨b, off, e, hF, hc⟩ := h4 h0
    have key : ∀ m, m ≤ xs.length → ∃ zs : List (α × List Value), zs.map (·.1) = xs.take m ∧ (∀ z ∈ zs, S.rep w F z.1 z.2) ∧ ∀ j v, (flat zs)[j]? = some v → w.cell? ⟨b, off + j, none⟩ = some v := by
      intro m
      induction m with
      | zero => intro _; exact ⟨[], by simp, by simp, by simp [flat]⟩
      | succ m ih =>
        intro hm
        obtain ⟨zs, z1, z2, z3⟩ := ih (by omega)
        obtain ⟨cs, hr, hv⟩ := hc m (by omega)
        have hl : ∀ z ∈ zs, z.2.length = S.size := fun z hz => S.len (z2 z hz)
        have hzl : zs.length = m := by have := congrArg List.length z1; simp at this; omega
        refine ⟨zs ++ [(xs[m], cs)], ?_, ?_, ?_⟩
        · rw [take_snoc (List.getElem?_eq_getElem (by omega)), List.map_append, z1]; rfl
        · intro z hz
          rcases List.mem_append.1 hz with h | h
          · exact z2 z h
          · simp at h; subst h; exact hr
        · intro j v hj
          rw [flat_append] at hj
          by_cases hjl : j < (flat zs).length
          · rw [List.getElem?_append_left hjl] at hj; exact z3 j v hj
          · rw [List.getElem?_append_right (by omega)] at hj
            have e2 : flat [(xs[m], cs)] = cs := by simp [flat]
            rw [e2] at hj
            have := hv _ v hj
            rw [flat_length hl, hzl] at hjl this
            rw [show off + m * S.size + (j - m * S.size) = off + j by omega] at this
            exact this
    obtain ⟨zs, z1, z2, z3⟩ := key xs.length (Nat.le_refl _)
    exact ⟨zs, by rw [z1, List.take_length], z2, fun _ => ⟨b, off, e, hF, z3⟩⟩

/-- A row of the call's own reads as the list of its data. -/
theorem Rds.of_own {α : Type} {S : Sh α} {w : World} {F : Nat → Prop} {base e n : Nat} {v : Value} {zs : List (α × List Value)} (h : w.ownsRow base e S.size v n (flat zs)) (hn : zs.length = n)
    (hz : ∀ z ∈ zs, S.rep w F z.1 z.2) (hF : ∀ g, base ≤ g → g < w.heap.size → F g) : ∃ A c, v = .slice A n c ∧ Rds S w F (zs.map (·.1)) A n c := by
  obtain ⟨hl, h2⟩ := h
  rcases h2 with ⟨rfl, rfl⟩ | ⟨g, cap, cur, rfl, hg, hh, hnc, hcm, hcs, ht⟩
  · have : zs = [] := List.eq_nil_of_length_eq_zero hn
    subst this
    exact ⟨none, 0, rfl, Rds.nil _ _ _⟩
  · have hlt : g < w.heap.size := by
      rcases Nat.lt_or_ge g w.heap.size with h | h
      · exact h
      · rw [Array.getElem?_eq_none h] at hh; cases hh
    refine ⟨_, cap, rfl, by simpa using hn, hnc, by unfold maxLen at hcm; omega, fun _ => ⟨g, 0, rfl, hF g hg hlt, fun i hi => ?_⟩⟩
    have hi' : i < zs.length := by simpa using hi
    refine ⟨zs[i].2, by simpa using hz _ (List.getElem_mem hi'), fun j u hj => ?_⟩
    have hjl : j < S.size := by
      have := S.len (hz _ (List.getElem_mem hi'))
      have := (List.getElem?_eq_some_iff.1 hj).1
      omega
    have e1 := flat_at (fun z hz' => S.len (hz z hz')) (List.getElem?_eq_getElem hi') hjl
    rw [hj, ← ht, List.getElem?_take] at e1
    split at e1
    · rw [cell_of_row w g _ cur _ (0, 0) hh, Nat.zero_add]; simpa using e1
    · cases e1

theorem own_ge {w : World} {base e size n k : Nat} {v : Value} {xs : List Value} (h : w.ownsRow base e size v n xs) (hk : v.ownBlock = some k) : base ≤ k := by
  rcases h.2 with ⟨rfl, _⟩ | ⟨g, cap, cur, rfl, hg, _⟩
  · cases hk
  · have : g = k := by simpa [Value.ownBlock] using hk
    omega
/-- A block reads as the list of its data. -/
theorem Rds.of_block {α : Type} {S : Sh α} {w : World} {F : Nat → Prop} {g e cap : Nat} {cur : Array Value} {z : Nat × Nat} {zs : List (α × List Value)} (hh : w.heap[g]? = some (.cells cur e z)) (hc : cur.toList = flat zs)
    (hz : ∀ z ∈ zs, S.rep w F z.1 z.2) (hF : F g) (hcap : zs.length ≤ cap) (hm : cap ≤ 9223372036854775807) : Rds S w F (zs.map (·.1)) (some ⟨g, 0, none⟩) zs.length cap := by
  refine ⟨by simp, hcap, hm, fun _ => ⟨g, 0, rfl, hF, fun i hi => ?_⟩⟩
  have hi' : i < zs.length := by simpa using hi
  refine ⟨zs[i].2, by simpa using hz _ (List.getElem_mem hi'), fun j u hj => ?_⟩
  have hjl : j < S.size := by
    have := S.len (hz _ (List.getElem_mem hi'))
    have := (List.getElem?_eq_some_iff.1 hj).1
    omega
  have e1 := flat_at (fun z hz' => S.len (hz z hz')) (List.getElem?_eq_getElem hi') hjl
  rw [hj, ← hc] at e1
  rw [cell_of_row w g _ cur _ z hh, Nat.zero_add]
  simpa using e1
/-- A known block behind later steps. -/
theorem blk_alloc {w : World} {o : Obj} {g : Nat} {x : Obj} (h : w.heap[g]? = some x) : (w.alloc o).heap[g]? = some x := by
  have hlt : g < w.heap.size := by
    rcases Nat.lt_or_ge g w.heap.size with h' | h'
    · exact h'
    · rw [Array.getElem?_eq_none h'] at h; cases h
  exact (Below.heap_alloc w o g hlt).trans h
theorem blk_lt {w : World} {g : Nat} {x : Obj} (h : w.heap[g]? = some x) : g < w.heap.size := by
  rcases Nat.lt_or_ge g w.heap.size with h' | h'
  · exact h'
  · rw [Array.getElem?_eq_none h'] at h; cases h
theorem blk_below {w w' : World} {B g : Nat} {x : Obj} (h : w.heap[g]? = some x) (hb : Below B w w') (hg : g < B) : w'.heap[g]? = some x := (hb.block g hg).trans h
theorem blk_cell {w : World} {g i t : Nat} {cs : Array Value} (h : w.heap[g]? = some (.cells cs t (0, 0))) : w.cell? ⟨g, i, none⟩ = cs[i]? := cell_of_row w g i cs t (0, 0) h
theorem blk_free {w : World} {g i t : Nat} {cs : Array Value} (h : w.heap[g]? = some (.cells cs t (0, 0))) : w.frozen? ⟨g, i, none⟩ = false := frozen_of_row w g i cs t h
theorem blk_set {w : World} {g i t : Nat} {cs : Array Value} {u : Value} (h : w.heap[g]? = some (.cells cs t (0, 0))) : (w.setCell ⟨g, i, none⟩ u).heap[g]? = some (.cells (cs.setIfInBounds i u) t (0, 0)) := by simp [World.setCell, Array.getElem?_modify, h]
theorem blk_far {w : World} {g : Nat} {x : Obj} {p : Addr} {u : Value} (h : w.heap[g]? = some x) (hp : g ≠ p.block) : (w.setCell p u).heap[g]? = some x := (Below.heap_setCell w p u g hp).trans h
/-- Every cell is one cell. -/
def Ones (cs : List Value) : Prop := ∀ u ∈ cs, u.oneCell' = true
def Sh.ones {α : Type} (S : Sh α) : Prop := ∀ {w F x cs}, S.rep w F x cs → Ones cs
theorem ones_flat {α : Type} {S : Sh α} (hS : S.ones) {w : World} {F : Nat → Prop} {zs : List (α × List Value)} (hz : ∀ z ∈ zs, S.rep w F z.1 z.2) : Ones (flat zs) := by
  intro u hu
  simp only [flat, List.mem_flatten, List.mem_map] at hu
  obtain ⟨l, ⟨z, hz', rfl⟩, hu⟩ := hu
  exact hS (hz z hz') u hu
theorem ones_int : shInt.ones := by rintro w F x cs ⟨rfl, _⟩ u hu; simp at hu; subst hu; rfl
theorem ones_bool : shBool.ones := by rintro w F x cs rfl u hu; simp at hu; subst hu; rfl
theorem ones_str : shStr.ones := by rintro w F x cs ⟨rfl, _⟩ u hu; simp at hu; subst hu; rfl
theorem ones_slice {α : Type} (S : Sh α) : (shSlice S).ones := by rintro w F x cs ⟨A, n, c, rfl, _⟩ u hu; simp at hu; subst hu; rfl
theorem ones_S2 {α β τ : Type} {S0 : Sh α} {S1 : Sh β} {f : α → β → τ} (h0 : S0.ones) (h1 : S1.ones) : (shS2 S0 S1 f).ones := by
  rintro w F x cs ⟨a, b, ca, cb, rfl, rfl, ha, hb⟩ u hu
  rcases List.mem_append.1 hu with h | h
  · exact h0 ha u h
  · exact h1 hb u h
theorem ones_S1 {α τ : Type} {S0 : Sh α} {f : α → τ} (h0 : S0.ones) : (shS1 S0 f).ones := by rintro w F x cs ⟨a, rfl, ha⟩; exact h0 ha
theorem ones_op : shOp.ones := ones_S2 ones_int ones_int
theorem ones_point : shPoint.ones := ones_S2 ones_int ones_int
theorem ones_in : shIn.ones := ones_S2 ones_point (ones_slice _)
theorem ones_out : shOut.ones := ones_S2 ones_int (ones_slice _)
theorem ones_tx : shTx.ones := ones_S2 ones_int (ones_S2 (ones_slice _) (ones_slice _))
theorem ones_book : shBook.ones := ones_S1 (ones_slice _)
theorem ones_coin : shCoin.ones := ones_S2 ones_point (ones_S2 ones_out (ones_S2 ones_int ones_bool))
theorem ones_undo : shUndo.ones := ones_S1 (ones_slice _)
theorem ones_block : shBlock.ones := ones_S2 ones_int (ones_S2 ones_int (ones_S2 ones_int (ones_S2 ones_int (ones_slice _))))
theorem ones_tree : shTree.ones := ones_S2 (ones_slice _) (ones_slice _)
theorem ones_node : shNode.ones := ones_S2 ones_tree (ones_S2 (ones_slice _) ones_int)
theorem ones_message : shMessage.ones := ones_S2 ones_int (ones_S2 ones_int (ones_S2 ones_int (ones_S2 ones_int (ones_S2 ones_block ones_tx))))
end Go.Proofs.Ytnnbnjanekibpaa
