/- Trees of which one holds the other, plainly. -/
import Derived.Test.YtnnbnjanekibpaaWork
namespace Go.Proofs.Ytnnbnjanekibpaa
open Go.RowKit
set_option linter.unusedVariables false

def blkOf (ns : List Int) (bs : List Block) (m : Int) : Block := blkAt bs (idx ns m)
/-- What is in one tree is in the other. -/
def SubT (ns : List Int) (bs : List Block) (ns' : List Int) (bs' : List Block) : Prop := ∀ m, 0 ≤ idx ns m → 0 ≤ idx ns' m ∧ blkOf ns bs m = blkOf ns' bs' m
theorem SubT.parent {ns ns' : List Int} {bs bs' : List Block} (h : SubT ns bs ns' bs') {m : Int} (hm : 0 ≤ idx ns m) : parentOf ns bs m = parentOf ns' bs' m := congrArg Block.parent (h m hm).2
theorem SubT.path {ns ns' : List Int} {bs bs' : List Block} (h : SubT ns bs ns' bs') (ok : TreeOK ns bs) (ok' : TreeOK ns' bs') (r : Nat) {m : Int} (hr : remN ns m ≤ r) (hm : m = 0 ∨ 0 ≤ idx ns m) : pathL ns bs m = pathL ns' bs' m := by
  induction r generalizing m with
  | zero =>
    rcases hm with h0 | h0
    · rw [h0, pathL_zero, pathL_zero]
    · have := (pathL_step ok h0).2.2; omega
  | succ r ih =>
    rcases hm with h0 | h0
    · rw [h0, pathL_zero, pathL_zero]
    · obtain ⟨e, hp, hl⟩ := pathL_step ok h0
      rw [e, (pathL_step ok' (h m h0).1).1, ← h.parent h0, ih (by omega) hp]
theorem SubT.paths {ns ns' : List Int} {bs bs' : List Block} (h : SubT ns bs ns' bs') (ok : TreeOK ns bs) (ok' : TreeOK ns' bs') {m : Int} (hm : m = 0 ∨ 0 ≤ idx ns m) : pathL ns bs m = pathL ns' bs' m := h.path ok ok' _ (Nat.le_refl _) hm
theorem SubT.work {ns ns' : List Int} {bs bs' : List Block} (h : SubT ns bs ns' bs') (l : List Int) (hl : ∀ m ∈ l, 0 ≤ idx ns m) : workL ns bs l = workL ns' bs' l := by
  induction l with
  | nil => rfl
  | cons x l ih =>
    simp only [workL]
    rw [ih fun m hm => hl m (List.mem_cons_of_mem _ hm)]
    have := (h x (hl x (List.mem_cons_self ..))).2
    unfold blkOf at this
    rw [this]
/-- The work of a name's path. -/
def pw (ns : List Int) (bs : List Block) (m : Int) : Int := workL ns bs (pathL ns bs m)
theorem SubT.pw {ns ns' : List Int} {bs bs' : List Block} (h : SubT ns bs ns' bs') (ok : TreeOK ns bs) (ok' : TreeOK ns' bs') {m : Int} (hm : m = 0 ∨ 0 ≤ idx ns m) : Proofs.Ytnnbnjanekibpaa.pw ns bs m = Proofs.Ytnnbnjanekibpaa.pw ns' bs' m := by
  unfold Proofs.Ytnnbnjanekibpaa.pw
  rw [h.work _ (pathL_in ok hm), h.paths ok ok' hm]
theorem pw_zero (ns : List Int) (bs : List Block) : pw ns bs 0 = 0 := by unfold pw; rw [pathL_zero]; rfl

/-! The best. -/
theorem best_inv (ns : List Int) (bs : List Block) (l : List Int) : ∀ (p : Int × Int), p.2 = pw ns bs p.1 → (l.foldl (bestStep ns bs) p).2 = pw ns bs (l.foldl (bestStep ns bs) p).1 ∧
    p.2 ≤ (l.foldl (bestStep ns bs) p).2 ∧ ((l.foldl (bestStep ns bs) p).1 = p.1 ∨ (l.foldl (bestStep ns bs) p).1 ∈ l) ∧ (∀ n ∈ l, pw ns bs n ≤ (l.foldl (bestStep ns bs) p).2 ∧ (pw ns bs n = (l.foldl (bestStep ns bs) p).2 → (l.foldl (bestStep ns bs) p).1 ≤ n)) ∧
    (p.2 = (l.foldl (bestStep ns bs) p).2 → (l.foldl (bestStep ns bs) p).1 ≤ p.1) := by
  induction l with
  | nil => intro p hp; exact ⟨hp, Int.le_refl _, .inl rfl, by simp, fun _ => Int.le_refl _⟩
  | cons x l ih =>
    intro p hp
    rw [List.foldl_cons]
    have hq : (bestStep ns bs p x).2 = pw ns bs (bestStep ns bs p x).1 ∧ p.2 ≤ (bestStep ns bs p x).2 ∧ ((bestStep ns bs p x).1 = p.1 ∨ (bestStep ns bs p x).1 = x) ∧ pw ns bs x ≤ (bestStep ns bs p x).2 ∧ (pw ns bs x = (bestStep ns bs p x).2 → (bestStep ns bs p x).1 ≤ x) ∧ (p.2 = (bestStep ns bs p x).2 → (bestStep ns bs p x).1 ≤ p.1) := by
      unfold bestStep
      have e : workL ns bs (pathL ns bs x) = pw ns bs x := rfl
      rw [e]
      split
      · rename_i h
        refine ⟨rfl, by simp only; omega, .inr rfl, by simp, by simp, ?_⟩
        simp only; intro h3; omega
      · rename_i h
        refine ⟨hp, Int.le_refl _, .inl rfl, by omega, ?_, fun _ => Int.le_refl _⟩
        intro h3; omega
    obtain ⟨q1, q2, q3, q4, q5, q6⟩ := hq
    obtain ⟨i1, i2, i3, i4, i5⟩ := ih _ q1
    refine ⟨i1, by omega, ?_, ?_, ?_⟩
    · rcases i3 with h | h
      · rw [h]
        rcases q3 with h' | h'
        · exact .inl h'
        · rw [h']; exact .inr (List.mem_cons_self ..)
      · exact .inr (List.mem_cons_of_mem _ h)
    · intro n hn
      rcases List.mem_cons.1 hn with rfl | hn
      · refine ⟨by omega, fun h => ?_⟩
        have := i5 (by omega)
        have := q5 (by omega)
        omega
      · exact i4 n hn
    · intro h
      have := i5 (by omega)
      have := q6 (by omega)
      omega
def bestP (ns : List Int) (bs : List Block) : Int × Int := ns.foldl (bestStep ns bs) (0, 0)
theorem best_spec (ns : List Int) (bs : List Block) : (bestP ns bs).2 = pw ns bs (bestP ns bs).1 ∧ 0 ≤ (bestP ns bs).2 ∧ ((bestP ns bs).1 = 0 ∨ (bestP ns bs).1 ∈ ns) ∧ ∀ n ∈ ns, pw ns bs n ≤ (bestP ns bs).2 ∧ (pw ns bs n = (bestP ns bs).2 → (bestP ns bs).1 ≤ n) := by
  obtain ⟨h1, h2, h3, h4, h5⟩ := best_inv ns bs ns (0, 0) (by rw [pw_zero])
  exact ⟨h1, h2, h3, h4⟩
theorem bestL_eq (ns : List Int) (bs : List Block) : bestL ns bs = (bestP ns bs).1 := rfl
theorem blkCheck_work1 {b : Block} (h : blkCheck b = 0) : 1 ≤ b.work := by
  have := (blkCheck_bd h).1
  unfold blkRange at this
  omega
theorem blkOf_ok {ns : List Int} {bs : List Block} (ok : TreeOK ns bs) {m : Int} (hm : 0 ≤ idx ns m) : blkCheck (blkOf ns bs m) = 0 ∧ blkOf ns bs m ∈ bs := by
  obtain ⟨j, hj, hjs⟩ := idx_at hm
  have hlt := (List.getElem?_eq_some_iff.1 hjs).1
  have := (treeStep_ok (ok.step j hlt)).2.1
  unfold blkOf
  rw [hj]
  refine ⟨this, ?_⟩
  have hl : j < bs.length := by have := ok.len; omega
  simp [blkAt, List.getElem?_eq_getElem hl]
theorem workL_nonneg {ns : List Int} {bs : List Block} (ok : TreeOK ns bs) (l : List Int) (hl : ∀ m ∈ l, 0 ≤ idx ns m) : 0 ≤ workL ns bs l := by
  induction l with
  | nil => simp [workL]
  | cons x l ih =>
    have := ih fun m hm => hl m (List.mem_cons_of_mem _ hm)
    have h2 := blkCheck_work1 (blkOf_ok ok (hl x (List.mem_cons_self ..))).1
    unfold blkOf at h2
    simp only [workL]; omega
theorem pw_pos {ns : List Int} {bs : List Block} (ok : TreeOK ns bs) {m : Int} (hm : 0 ≤ idx ns m) : 1 ≤ pw ns bs m := by
  obtain ⟨e, hp, hl⟩ := pathL_step ok hm
  unfold pw
  rw [e, workL_append]
  have h1 := workL_nonneg ok _ (pathL_in ok hp)
  have h2 := blkCheck_work1 (blkOf_ok ok hm).1
  unfold blkOf at h2
  simp only [workL]; omega
/-- Trees of the same blocks have the same best. -/
theorem best_same {ns ns' : List Int} {bs bs' : List Block} (h : SubT ns bs ns' bs') (h' : SubT ns' bs' ns bs) (ok : TreeOK ns bs) (ok' : TreeOK ns' bs') : bestP ns bs = bestP ns' bs' := by
  obtain ⟨a1, a2, a3, a4⟩ := best_spec ns bs
  obtain ⟨b1, b2, b3, b4⟩ := best_spec ns' bs'
  have hmem : ∀ x, x ∈ ns ↔ x ∈ ns' := fun x => by rw [← idx_mem, ← idx_mem]; exact ⟨fun hx => (h x hx).1, fun hx => (h' x hx).1⟩
  have key : (bestP ns bs).1 = (bestP ns' bs').1 := by
    have hz : ∀ {ns : List Int} {bs : List Block}, TreeOK ns bs → (bestP ns bs).1 = 0 → ns = [] := by
      intro ns bs ok h0
      obtain ⟨c1, c2, c3, c4⟩ := best_spec ns bs
      rw [h0, pw_zero] at c1
      cases ns with
      | nil => rfl
      | cons x l =>
        have := (c4 x (List.mem_cons_self ..)).1
        have h3 := pw_pos ok (m := x) ((idx_mem _ _).2 (List.mem_cons_self ..))
        omega
    rcases a3 with e | e
    · rcases b3 with e' | e'
      · rw [e, e']
      · have := hz ok e
        rw [← hmem, this] at e'
        cases e'
    · rcases b3 with e' | e'
      · have := hz ok' e'
        rw [hmem, this] at e
        cases e
      · have q1 := b4 _ ((hmem _).1 e)
        have q2 := a4 _ ((hmem _).2 e')
        have e1 := h.pw ok ok' (m := (bestP ns bs).1) (.inr ((idx_mem _ _).2 e))
        have e2 := h'.pw ok' ok (m := (bestP ns' bs').1) (.inr ((idx_mem _ _).2 e'))
        have := q1.2 (by omega)
        have := q2.2 (by omega)
        omega
  apply Prod.ext key
  rw [a1, b1, ← key]
  rcases a3 with e | e
  · rw [e, pw_zero, pw_zero]
  · exact h.pw ok ok' (.inr ((idx_mem _ _).2 e))

/-! A block is added. -/
theorem treeAdd_ok {t : Tree} {name : Int} {b : Block} (h : treeAddE t name b = 0) : treeCheck t = 0 ∧ (1 ≤ name ∧ name ≤ 120) ∧ blkCheck b = 0 ∧ idx t.names name < 0 ∧ standsE t.names t.blocks b t.names.length = 0 ∧ t.names.length < 24 := by
  unfold treeAddE at h
  by_cases h1 : treeCheck t ≠ 0
  · rw [if_pos h1] at h; exact absurd h h1
  · rw [if_neg h1] at h
    by_cases h2 : nameBad name = true
    · rw [if_pos h2] at h; cases h
    · rw [if_neg h2] at h
      by_cases h3 : blkCheck b ≠ 0
      · rw [if_pos h3] at h; exact absurd h h3
      · rw [if_neg h3] at h
        by_cases h4 : memB t.names name = true
        · rw [if_pos h4] at h; cases h
        · rw [if_neg h4] at h
          by_cases h5 : standsE t.names t.blocks b t.names.length ≠ 0
          · rw [if_pos h5] at h; exact absurd h h5
          · rw [if_neg h5] at h
            by_cases h6 : (t.names.length : Int) = 24
            · rw [if_pos h6] at h; cases h
            · have ok := (treeCheck_iff t.names t.blocks).1 (by simpa using h1)
              have := ok.le
              have h7 : ¬ 0 ≤ idx t.names name := fun hc => h4 ((memB_iff _ _).2 hc)
              exact ⟨by simpa using h1, by simp [nameBad] at h2; omega, by simpa using h3, by omega, by simpa using h5, by omega⟩
theorem blkAt_append {bs : List Block} {b : Block} {i : Int} (h0 : 0 ≤ i) (h : i < bs.length) : blkAt (bs ++ [b]) i = blkAt bs i := by
  unfold blkAt
  rw [List.getElem?_append_left (by omega)]
theorem treeAdd_OK {t : Tree} {name : Int} {b : Block} (h : treeAddE t name b = 0) : TreeOK (t.names ++ [name]) (t.blocks ++ [b]) := by
  obtain ⟨h1, h2, h3, h4, h5, h6⟩ := treeAdd_ok h
  have ok := (treeCheck_iff t.names t.blocks).1 h1
  have hst : ∀ k c, k ≤ t.names.length → standsE (t.names ++ [name]) (t.blocks ++ [b]) c k = standsE t.names t.blocks c k := by
    intro k c hk
    unfold standsE
    rw [List.take_append_of_le_length hk]
    by_cases hc : c.parent = 0
    · rw [if_pos hc, if_pos hc]
    · rw [if_neg hc, if_neg hc]
      by_cases hi : idx (t.names.take k) c.parent < 0
      · rw [if_pos hi, if_pos hi]
      · rw [if_neg hi, if_neg hi]
        obtain ⟨j, hj, hjs⟩ := idx_at (show 0 ≤ idx (t.names.take k) c.parent by omega)
        have hlt := (List.getElem?_eq_some_iff.1 hjs).1
        rw [List.length_take] at hlt
        rw [blkAt_append (by omega) (by have := ok.len; omega)]
  refine ⟨by simp [ok.len], by simp; omega, fun k hk => ?_⟩
  rw [List.length_append, List.length_singleton] at hk
  rcases Nat.lt_or_ge k t.names.length with hlt | hge
  · have := ok.step k hlt
    have e1 : nameAt (t.names ++ [name]) k = nameAt t.names k := by unfold nameAt; rw [List.getElem?_append_left hlt]
    have e2 : blkAt (t.blocks ++ [b]) (k : Int) = blkAt t.blocks k := blkAt_append (by omega) (by have := ok.len; omega)
    rw [e1, e2]
    unfold treeStep at this ⊢
    rw [hst _ _ (by omega), List.take_append_of_le_length (by omega)]
    exact this
  · obtain rfl : k = t.names.length := by omega
    have e1 : nameAt (t.names ++ [name]) t.names.length = name := by simp [nameAt]
    have e2 : blkAt (t.blocks ++ [b]) (t.names.length : Int) = b := by simp [blkAt, ok.len]
    rw [e1, e2]
    unfold treeStep
    rw [hst _ _ (Nat.le_refl _), List.take_append_of_le_length (Nat.le_refl _), List.take_length, if_neg (by omega), if_neg (by simp [h3]), if_neg (fun hc => by have := (memB_iff _ _).1 hc; omega)]
    exact h5
theorem treeAdd_sub {t : Tree} {name : Int} {b : Block} (ok : TreeOK t.names t.blocks) : SubT t.names t.blocks (t.names ++ [name]) (t.blocks ++ [b]) := by
  intro m hm
  have e := idx_prefix (List.prefix_append t.names [name]) hm
  obtain ⟨j, hj, hjs⟩ := idx_at hm
  have hlt := (List.getElem?_eq_some_iff.1 hjs).1
  refine ⟨by omega, ?_⟩
  unfold blkOf
  rw [e, blkAt_append hm (by have := ok.len; omega)]
theorem idx_new {l : List Int} {x : Int} (h : idx l x < 0) : idx (l ++ [x]) x = l.length := by
  have key : ∀ (l : List Int) (k : Nat), x ∉ l → idxGo x (l ++ [x]) k = k + l.length := by
    intro l
    induction l with
    | nil => intro k _; simp [idxGo]
    | cons y l ih =>
      intro k hx
      simp only [List.mem_cons, not_or] at hx
      rw [List.cons_append, idxGo, if_neg hx.1, ih _ hx.2]
      simp; omega
  have := key l 0 (fun hc => by have := (idx_mem l x).2 hc; omega)
  unfold idx
  rw [this]; simp
theorem treeAdd_blk {t : Tree} {name : Int} {b : Block} (ok : TreeOK t.names t.blocks) (h : idx t.names name < 0) : 0 ≤ idx (t.names ++ [name]) name ∧ blkOf (t.names ++ [name]) (t.blocks ++ [b]) name = b := by
  unfold blkOf
  rw [idx_new h]
  refine ⟨by omega, ?_⟩
  simp [blkAt, ok.len]
theorem pPath_eq {t : Tree} {m : Int} (h : treeCheck t = 0) (hm : m = 0 ∨ 0 ≤ idx t.names m) : pPath t m = (pathL t.names t.blocks m, 0) := by
  unfold pPath
  rw [if_neg (by simp [h]), if_neg (by omega)]
theorem pWork_eq {t : Tree} {m : Int} (h : treeCheck t = 0) (hm : m = 0 ∨ 0 ≤ idx t.names m) : pWork t m = (pw t.names t.blocks m, 0) := by
  unfold pWork
  rw [pPath_eq h hm, if_neg (by simp)]; rfl
theorem pBest_eq {t : Tree} (h : treeCheck t = 0) : pBest t = ((bestP t.names t.blocks).1, 0) := by
  unfold pBest
  rw [if_neg (by simp [h])]; rfl
theorem pw_bd {ns : List Int} {bs : List Block} (ok : TreeOK ns bs) {m : Int} (hm : m = 0 ∨ 0 ≤ idx ns m) : 0 ≤ pw ns bs m ∧ pw ns bs m ≤ 100000 := by
  have hb : ∀ b ∈ bs, 0 ≤ b.work ∧ b.work ≤ 1000 := fun b hb => blkCheck_work (treeCheck_blk ((treeCheck_iff ns bs).2 ok) b hb)
  have h1 := workL_bd (ns := ns) hb (pathL ns bs m)
  have h2 := pathL_len ok hm
  unfold pw
  omega
theorem best_in {ns : List Int} (bs : List Block) : (bestP ns bs).1 = 0 ∨ 0 ≤ idx ns (bestP ns bs).1 := (best_spec ns bs).2.2.1.imp id fun h => (idx_mem _ _).2 h
end Go.Proofs.Ytnnbnjanekibpaa
