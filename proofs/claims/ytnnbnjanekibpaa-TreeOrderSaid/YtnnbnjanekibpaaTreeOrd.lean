/- Trees of the same blocks, plainly: what the law TreeOrder says. -/
import Derived.Test.YtnnbnjanekibpaaTreeSub
namespace Go.Proofs.Ytnnbnjanekibpaa
open Go.RowKit
set_option linter.unusedVariables false

theorem nodup_of_ok {ns : List Int} {bs : List Block} (ok : TreeOK ns bs) : ns.Nodup := by
  rw [List.nodup_iff_pairwise_ne, List.pairwise_iff_getElem]
  intro i j hi hj hij e
  have h := (treeStep_ok (ok.step j hj)).2.2.1
  apply h
  have e2 : nameAt ns j = ns[j] := by simp [nameAt, List.getElem?_eq_getElem hj]
  rw [e2, ← e]
  exact List.mem_iff_getElem.2 ⟨i, by simp; omega, by simp⟩
theorem idx_name {ns : List Int} {bs : List Block} (ok : TreeOK ns bs) {k : Nat} (hk : k < ns.length) : idx ns (nameAt ns k) = k := by
  have e2 : nameAt ns k = ns[k] := by simp [nameAt, List.getElem?_eq_getElem hk]
  have hm : 0 ≤ idx ns (nameAt ns k) := (idx_mem _ _).2 (by rw [e2]; exact List.getElem_mem hk)
  obtain ⟨j, hj, hjs⟩ := idx_at hm
  have hlt := (List.getElem?_eq_some_iff.1 hjs).1
  have hn := nodup_of_ok ok
  rw [List.nodup_iff_pairwise_ne, List.pairwise_iff_getElem] at hn
  have e3 : ns[j] = ns[k] := by rw [← e2]; exact (List.getElem?_eq_some_iff.1 hjs).2
  rcases Nat.lt_trichotomy j k with h | h | h
  · exact absurd e3 (hn j k hlt hk h)
  · rw [hj, h]
  · exact absurd e3.symm (hn k j hk hlt h)
theorem nodup_le {l m : List Int} (h : l.Nodup) (hs : ∀ x ∈ l, x ∈ m) : l.length ≤ m.length := by
  induction l generalizing m with
  | nil => simp
  | cons x l ih =>
    rw [List.nodup_cons] at h
    have hx := hs x (List.mem_cons_self ..)
    have := ih (m := m.erase x) h.2 fun y hy => (List.mem_erase_of_ne (show y ≠ x from fun e => h.1 (by rw [← e]; exact hy))).2 (hs y (List.mem_cons_of_mem _ hy))
    rw [List.length_erase_of_mem hx] at this
    have := List.length_pos_of_mem hx
    simp; omega

/-- A right tree of another one's blocks. -/
structure InT (t u : Tree) : Prop where
  ok : TreeOK u.names u.blocks
  sub : SubT u.names u.blocks t.names t.blocks
theorem InT.nil (t : Tree) : InT t ⟨[], []⟩ := ⟨⟨rfl, by simp, fun k hk => by simp at hk⟩, fun m hm => by simp [idx, idxGo] at hm⟩
theorem blkOf_at {ns : List Int} {bs : List Block} (ok : TreeOK ns bs) {k : Nat} (hk : k < ns.length) : blkOf ns bs (nameAt ns k) = blkAt bs k := by unfold blkOf; rw [idx_name ok hk]
theorem InT.next {t u : Tree} (h : InT t u) (okt : TreeOK t.names t.blocks) {k : Nat} (hk : k < t.names.length) (he : treeAddE u (nameAt t.names k) (blkAt t.blocks k) = 0) : InT t ⟨u.names ++ [nameAt t.names k], u.blocks ++ [blkAt t.blocks k]⟩ := by
  refine ⟨treeAdd_OK he, fun m hm => ?_⟩
  obtain ⟨h1, h2, h3, h4, h5, h6⟩ := treeAdd_ok he
  have hm' := (idx_mem _ _).1 hm
  rcases List.mem_append.1 hm' with h7 | h7
  · have h8 := (idx_mem _ _).2 h7
    have := treeAdd_sub (name := nameAt t.names k) (b := blkAt t.blocks k) h.ok m h8
    have h9 := h.sub m h8
    exact ⟨h9.1, this.2.symm.trans h9.2⟩
  · simp only [List.mem_singleton] at h7
    subst h7
    refine ⟨by rw [idx_name okt hk]; omega, ?_⟩
    rw [blkOf_at okt hk]
    exact (treeAdd_blk h.ok h4).2
/-- Whose parents are there is there behind it. -/
theorem InT.there {t u : Tree} (h : InT t u) (okt : TreeOK t.names t.blocks) {k : Nat} (hk : k < t.names.length) (ha : ∀ j, j < k → 0 ≤ idx u.names (nameAt t.names j)) (he : treeAddE u (nameAt t.names k) (blkAt t.blocks k) ≠ 0) : 0 ≤ idx u.names (nameAt t.names k) := by
  apply Classical.byContradiction
  intro hno
  apply he
  have hst := treeStep_ok (okt.step k hk)
  obtain ⟨s1, s2, s3, s4⟩ := hst
  unfold treeAddE
  rw [if_neg (by simp [(treeCheck_iff u.names u.blocks).2 h.ok]), if_neg (by simp [nameBad]; omega), if_neg (by simp [s2]), if_neg (fun hc => hno ((memB_iff _ _).1 hc))]
  have h5 : standsE u.names u.blocks (blkAt t.blocks k) u.names.length = 0 := by
    unfold standsE
    rw [List.take_length]
    rcases standsE_ok s4 with ⟨p1, p2⟩ | ⟨p1, j, p2, p3, p4, p5⟩
    · rw [if_pos p1, if_neg (by simp [p2])]
    · rw [if_neg p1]
      have e : nameAt t.names j = (blkAt t.blocks k).parent := by simp [nameAt, p4]
      have h6 := ha j p2
      rw [e] at h6
      rw [if_neg (by omega)]
      have h7 := (h.sub _ h6).2
      unfold blkOf at h7
      rw [h7, p3, if_neg (by simp [p5])]
  rw [if_neg (by simp [h5]), if_neg]
  intro h24
  have hn := nodup_of_ok h.ok
  have : (nameAt t.names k :: u.names).length ≤ t.names.length := by
    apply nodup_le
    · rw [List.nodup_cons]
      exact ⟨fun hm => hno ((idx_mem _ _).2 hm), hn⟩
    · intro x hx
      rcases List.mem_cons.1 hx with rfl | hx
      · exact (idx_mem _ _).1 (by rw [idx_name okt hk]; omega)
      · exact (idx_mem _ _).1 (h.sub x ((idx_mem _ _).2 hx)).1
  have := okt.le
  simp at *
  omega
/-- All are there. -/
structure AllT (t u : Tree) : Prop where
  i : InT t u
  all : ∀ j, j < t.names.length → 0 ≤ idx u.names (nameAt t.names j)
theorem AllT.back {t u : Tree} (h : AllT t u) (okt : TreeOK t.names t.blocks) : SubT t.names t.blocks u.names u.blocks := by
  intro m hm
  obtain ⟨j, hj, hjs⟩ := idx_at hm
  have hlt := (List.getElem?_eq_some_iff.1 hjs).1
  have e : nameAt t.names j = m := by simp [nameAt, hjs]
  have h1 := h.all j hlt
  rw [e] at h1
  exact ⟨h1, ((h.i.sub m h1).2).symm⟩
theorem AllT.len {t u : Tree} (h : AllT t u) (okt : TreeOK t.names t.blocks) : u.names.length = t.names.length := by
  have h1 := nodup_le (nodup_of_ok h.i.ok) (m := t.names) fun x hx => (idx_mem _ _).1 (h.i.sub x ((idx_mem _ _).2 hx)).1
  have h2 := nodup_le (nodup_of_ok okt) (m := u.names) fun x hx => (idx_mem _ _).1 (h.back okt x ((idx_mem _ _).2 hx)).1
  omega
/-- One round of the law's loops. -/
def nextT (u : Tree) (n : Int) (b : Block) : Tree := if treeAddE u n b = 0 then ⟨u.names ++ [n], u.blocks ++ [b]⟩ else u
theorem InT.nextT {t u : Tree} (h : InT t u) (okt : TreeOK t.names t.blocks) {k : Nat} (hk : k < t.names.length) : InT t (Proofs.Ytnnbnjanekibpaa.nextT u (nameAt t.names k) (blkAt t.blocks k)) := by
  unfold Proofs.Ytnnbnjanekibpaa.nextT
  split
  · exact h.next okt hk (by assumption)
  · exact h
theorem nextT_keeps {u : Tree} {n m : Int} {b : Block} (h : 0 ≤ idx u.names m) : 0 ≤ idx (Proofs.Ytnnbnjanekibpaa.nextT u n b).names m := by
  unfold Proofs.Ytnnbnjanekibpaa.nextT
  split
  · exact idx_prefix_ge (List.prefix_append _ _) h
  · exact h
theorem nextT_there {t u : Tree} (h : InT t u) (okt : TreeOK t.names t.blocks) {k : Nat} (hk : k < t.names.length) (ha : ∀ j, j < k → 0 ≤ idx u.names (nameAt t.names j)) : ∀ j, j < k + 1 → 0 ≤ idx (Proofs.Ytnnbnjanekibpaa.nextT u (nameAt t.names k) (blkAt t.blocks k)).names (nameAt t.names j) := by
  intro j hj
  rcases Nat.lt_or_ge j k with h1 | h1
  · exact nextT_keeps (ha j h1)
  · obtain rfl : j = k := by omega
    unfold Proofs.Ytnnbnjanekibpaa.nextT
    split
    · rename_i he
      exact (treeAdd_blk (b := blkAt t.blocks j) h.ok (treeAdd_ok he).2.2.2.1).1
    · rename_i he
      exact h.there okt hk ha he
end Go.Proofs.Ytnnbnjanekibpaa
