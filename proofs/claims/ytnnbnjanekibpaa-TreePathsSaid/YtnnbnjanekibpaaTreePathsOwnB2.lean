/- Own texts, put together by wip/bundle.py: Opens. -/
import Derived.Test.YtnnbnjanekibpaaProg
import Derived.ProofKit
import Derived.Deep.Slices
import Derived.Test.YtnnbnjanekibpaaTreePathsOwnB1
namespace Go.Proofs.Ytnnbnjanekibpaa
open Go.RowKit Go.ChangeShapes Go.WideShapes
set_option linter.unusedVariables false
theorem cut_at {α : Type} (l : List α) (k m : Nat) : (l.drop k).take m ++ l.drop (k + m) = l.drop k := by rw [← List.drop_drop, List.take_append_drop]
def Opens {α : Type} (P : Program) (S : Sh α) (t : TypeId) : Prop :=
  ∀ {H : Type} {enc : TypeId × Value → H} {w : World} {base : Nat} {spare : Nat → Bool} {held : Bool} {fuel : Nat} {cs : List Value} {x : DataW H × List MemPlace},
    DataW.trod enc P w base spare held fuel t cs = some x → ∃ a, S.rep w (Lt w.heap.size) a cs
section
variable {P : Program} {t : TypeId}
theorem opens_int (ht : P.underlying t = some (.int .i64)) : Opens P shInt t := by
  intro H enc w base spare held fuel cs x h
  obtain ⟨n, rfl, _, hw⟩ := DataW.trod_int ht h
  exact ⟨n, rfl, by simp [Lit.wf, IntKind.min, IntKind.max, IntKind.signed, IntKind.bits] at hw; omega⟩
theorem opens_bool (ht : P.underlying t = some .bool) : Opens P shBool t := by
  intro H enc w base spare held fuel cs x h
  obtain ⟨n, rfl, _⟩ := DataW.trod_bool ht h
  exact ⟨n, rfl⟩
theorem opens_str (ht : P.underlying t = some .string) : Opens P shStr t := by
  intro H enc w base spare held fuel cs x h
  obtain ⟨s, rfl, _, hw⟩ := DataW.trod_string ht h
  exact ⟨s.data.toList, by simp, by unfold maxLen at hw; simpa using hw⟩
theorem opens_slice {α : Type} {S : Sh α} {e : TypeId} (ht : P.underlying t = some (.slice e)) (hs : P.cellsOf e = S.size) (h0 : 0 < S.size) (he : Opens P S e) : Opens P (shSlice S) t := by
  intro H enc w base spare held fuel cs x h
  rcases Go.Deep.open_slice ht h with ⟨rfl, _⟩ | ⟨a, len, cap, m, n, D, Pl, rfl, _, hl, hm, hmm, -, hi⟩
  · exact ⟨[], _, _, _, rfl, Rds.nil _ _ _⟩
  · have hlm : len ≤ m := by rw [hmm]; split <;> omega
    have key : ∀ i, i < len → ∃ y : α × List Value, S.rep w (Lt w.heap.size) y.1 y.2 ∧ ∀ j, j < S.size → w.cell? (a.add (i * S.size + j)) = y.2[j]? := by
      intro i hlt
      obtain ⟨cs', hc, ht'⟩ := hi i (by omega)
      obtain ⟨y, hy⟩ := he ht'
      obtain ⟨_, hcl, hat⟩ := World.cells?_some hc
      refine ⟨(y, cs'), hy, fun j hj => ?_⟩
      have := hat j (by omega)
      rw [hs, Go.Deep.add_add] at this
      exact this
    have key2 : ∃ ys : List (α × List Value), ys.length = len ∧ ∀ i (hi : i < ys.length), S.rep w (Lt w.heap.size) ys[i].1 ys[i].2 ∧ ∀ j, j < S.size → w.cell? (a.add (i * S.size + j)) = ys[i].2[j]? := by
      clear hi hmm hlm hl h
      induction len with
      | zero => exact ⟨[], rfl, fun i hi => by simp at hi⟩
      | succ l ih =>
        obtain ⟨ys, hy1, hy2⟩ := ih (fun i hi => key i (by omega))
        obtain ⟨y, hy⟩ := key l (by omega)
        refine ⟨ys ++ [y], by simp [hy1], fun i hi => ?_⟩
        by_cases h' : i < ys.length
        · rw [List.getElem_append_left h']; exact hy2 i h'
        · have : i = l := by simp at hi; omega
          subst this
          rw [List.getElem_append_right (by omega)]
          simpa [hy1] using hy
    obtain ⟨ys, hy1, hy2⟩ := key2
    refine ⟨ys.map (·.1), _, _, _, rfl, by simp [hy1], hl, by unfold maxLen at hm; omega, fun hn => ?_⟩
    have c0 := (hy2 0 (by omega)).2 0 h0
    have hl0 := S.len (hy2 0 (by omega)).1
    have hspot : a.spot = none := by
      have : (ys[0]'(by omega)).2[0]? = some ((ys[0]'(by omega)).2[0]'(by omega)) := List.getElem?_eq_getElem (by omega)
      rw [this] at c0
      have := World.cell?_spot c0
      simpa [Addr.add] using this
    obtain ⟨b, off, spot⟩ := a
    simp only at hspot
    subst hspot
    have hadd : ∀ k, (Addr.mk b off none).add k = ⟨b, off + k, none⟩ := by
      intro k; unfold Addr.add; split <;> simp_all
    refine ⟨b, off, rfl, ?_, fun i hi => ?_⟩
    · show b < w.heap.size
      rcases Nat.lt_or_ge b w.heap.size with h' | h'
      · exact h'
      · have e : w.cell? ((Addr.mk b off none).add (0 * S.size + 0)) = none := by
          rw [hadd]; simp [World.cell?, Array.getElem?_eq_none h']
        rw [e] at c0
        have : (ys[0]'(by omega)).2[0]? = some ((ys[0]'(by omega)).2[0]'(by omega)) := List.getElem?_eq_getElem (by omega)
        rw [this] at c0; cases c0
    · have hi' : i < ys.length := by simpa using hi
      refine ⟨ys[i].2, by simpa using (hy2 i hi').1, fun j v hj => ?_⟩
      have hjl : j < S.size := by
        have := S.len (hy2 i hi').1
        have := (List.getElem?_eq_some_iff.1 hj).1
        omega
      have := (hy2 i hi').2 j hjl
      rw [hadd, hj] at this
      rw [← this, Nat.add_assoc]
theorem opens_S2 {α β τ : Type} {S0 : Sh α} {S1 : Sh β} {f : α → β → τ} {f0 f1 : Field} (ht : P.underlying t = some (.struct #[f0, f1])) (hc : P.cellsOf t = S0.size + S1.size)
    (o0 : f0.offset = 0) (o1 : f1.offset = S0.size) (c0 : P.cellsOf f0.type = S0.size) (c1 : P.cellsOf f1.type = S1.size) (h0 : Opens P S0 f0.type) (h1 : Opens P S1 f1.type) : Opens P (shS2 S0 S1 f) t := by
  intro H enc w base spare held fuel cs x h
  obtain ⟨xs, n, _, _, hl, hxl, hf⟩ := DataW.trod_struct ht h
  match xs, hxl with
  | [x0, x1], _ =>
    have g0 := hf 0 f0 rfl
    have g1 := hf 1 f1 rfl
    rw [o0, c0] at g0
    rw [o1, c1] at g1
    obtain ⟨a, ha⟩ := h0 g0
    obtain ⟨b, hb⟩ := h1 g1
    refine ⟨f a b, a, b, _, _, rfl, ?_, ha, hb⟩
    rw [List.drop_zero, List.take_of_length_le (l := cs.drop S0.size) (by simp; omega), List.take_append_drop]
theorem opens_S1 {α τ : Type} {S0 : Sh α} {f : α → τ} {f0 : Field} (ht : P.underlying t = some (.struct #[f0])) (hc : P.cellsOf t = S0.size)
    (o0 : f0.offset = 0) (c0 : P.cellsOf f0.type = S0.size) (h0 : Opens P S0 f0.type) : Opens P (shS1 S0 f) t := by
  intro H enc w base spare held fuel cs x h
  obtain ⟨xs, n, _, _, hl, hxl, hf⟩ := DataW.trod_struct ht h
  match xs, hxl with
  | [x0], _ =>
    have g0 := hf 0 f0 rfl
    rw [o0, c0] at g0
    obtain ⟨a, ha⟩ := h0 g0
    refine ⟨f a, a, rfl, ?_⟩
    rwa [List.drop_zero, List.take_of_length_le (by omega)] at ha
theorem opens_S3 {α β γ τ : Type} {S0 : Sh α} {S1 : Sh β} {S2 : Sh γ} {f : α → β → γ → τ} {f0 f1 f2 : Field} (ht : P.underlying t = some (.struct #[f0, f1, f2])) (hc : P.cellsOf t = S0.size + (S1.size + S2.size))
    (o0 : f0.offset = 0) (o1 : f1.offset = S0.size) (o2 : f2.offset = S0.size + S1.size) (c0 : P.cellsOf f0.type = S0.size) (c1 : P.cellsOf f1.type = S1.size) (c2 : P.cellsOf f2.type = S2.size)
    (h0 : Opens P S0 f0.type) (h1 : Opens P S1 f1.type) (h2 : Opens P S2 f2.type) : Opens P (shS3 S0 S1 S2 f) t := by
  intro H enc w base spare held fuel cs x h
  obtain ⟨xs, n, _, _, hl, hxl, hf⟩ := DataW.trod_struct ht h
  match xs, hxl with
  | [x0, x1, x2], _ =>
    have g0 := hf 0 f0 rfl
    have g1 := hf 1 f1 rfl
    have g2 := hf 2 f2 rfl
    rw [o0, c0] at g0
    rw [o1, c1] at g1
    rw [o2, c2] at g2
    obtain ⟨a, ha⟩ := h0 g0
    obtain ⟨b, hb⟩ := h1 g1
    obtain ⟨c, hc'⟩ := h2 g2
    refine ⟨f a b c, a, (b, c), _, _, rfl, ?_, ha, b, c, _, _, rfl, rfl, hb, hc'⟩
    rw [List.drop_zero, List.take_of_length_le (l := cs.drop (S0.size + S1.size)) (by simp; omega), ← List.drop_drop, List.take_append_drop, List.take_append_drop]
theorem opens_S4 {α β γ δ τ : Type} {S0 : Sh α} {S1 : Sh β} {S2 : Sh γ} {S3 : Sh δ} {f : α → β → γ → δ → τ} {f0 f1 f2 f3 : Field} (ht : P.underlying t = some (.struct #[f0, f1, f2, f3])) (hc : P.cellsOf t = S0.size + (S1.size + (S2.size + S3.size)))
    (o0 : f0.offset = 0) (o1 : f1.offset = S0.size) (o2 : f2.offset = S0.size + S1.size) (o3 : f3.offset = S0.size + S1.size + S2.size) (c0 : P.cellsOf f0.type = S0.size) (c1 : P.cellsOf f1.type = S1.size) (c2 : P.cellsOf f2.type = S2.size) (c3 : P.cellsOf f3.type = S3.size)
    (h0 : Opens P S0 f0.type) (h1 : Opens P S1 f1.type) (h2 : Opens P S2 f2.type) (h3 : Opens P S3 f3.type) : Opens P (shS4 S0 S1 S2 S3 f) t := by
  intro H enc w base spare held fuel cs x h
  obtain ⟨xs, n, _, _, hl, hxl, hf⟩ := DataW.trod_struct ht h
  match xs, hxl with
  | [x0, x1, x2, x3], _ =>
    have g0 := hf 0 f0 rfl
    have g1 := hf 1 f1 rfl
    have g2 := hf 2 f2 rfl
    have g3 := hf 3 f3 rfl
    rw [o0, c0] at g0
    rw [o1, c1] at g1
    rw [o2, c2] at g2
    rw [o3, c3] at g3
    obtain ⟨a, ha⟩ := h0 g0
    obtain ⟨b, hb⟩ := h1 g1
    obtain ⟨c, hc'⟩ := h2 g2
    obtain ⟨d, hd⟩ := h3 g3
    refine ⟨f a b c d, a, (b, c, d), _, _, rfl, ?_, ha, b, (c, d), _, _, rfl, rfl, hb, c, d, _, _, rfl, rfl, hc', hd⟩
    rw [List.drop_zero, List.take_of_length_le (l := cs.drop (S0.size + S1.size + S2.size)) (by simp; omega), cut_at, cut_at, List.take_append_drop]
theorem opens_S5 {α β γ δ ε τ : Type} {S0 : Sh α} {S1 : Sh β} {S2 : Sh γ} {S3 : Sh δ} {S4 : Sh ε} {f : α → β → γ → δ → ε → τ} {f0 f1 f2 f3 f4 : Field} (ht : P.underlying t = some (.struct #[f0, f1, f2, f3, f4]))
    (hc : P.cellsOf t = S0.size + (S1.size + (S2.size + (S3.size + S4.size))))
    (o0 : f0.offset = 0) (o1 : f1.offset = S0.size) (o2 : f2.offset = S0.size + S1.size) (o3 : f3.offset = S0.size + S1.size + S2.size) (o4 : f4.offset = S0.size + S1.size + S2.size + S3.size)
    (c0 : P.cellsOf f0.type = S0.size) (c1 : P.cellsOf f1.type = S1.size) (c2 : P.cellsOf f2.type = S2.size) (c3 : P.cellsOf f3.type = S3.size) (c4 : P.cellsOf f4.type = S4.size)
    (h0 : Opens P S0 f0.type) (h1 : Opens P S1 f1.type) (h2 : Opens P S2 f2.type) (h3 : Opens P S3 f3.type) (h4 : Opens P S4 f4.type) : Opens P (shS5 S0 S1 S2 S3 S4 f) t := by
  intro H enc w base spare held fuel cs x h
  obtain ⟨xs, n, _, _, hl, hxl, hf⟩ := DataW.trod_struct ht h
  match xs, hxl with
  | [x0, x1, x2, x3, x4], _ =>
    have g0 := hf 0 f0 rfl
    have g1 := hf 1 f1 rfl
    have g2 := hf 2 f2 rfl
    have g3 := hf 3 f3 rfl
    have g4 := hf 4 f4 rfl
    rw [o0, c0] at g0
    rw [o1, c1] at g1
    rw [o2, c2] at g2
    rw [o3, c3] at g3
    rw [o4, c4] at g4
    obtain ⟨a, ha⟩ := h0 g0
    obtain ⟨b, hb⟩ := h1 g1
    obtain ⟨c, hc'⟩ := h2 g2
    obtain ⟨d, hd⟩ := h3 g3
    obtain ⟨e, he⟩ := h4 g4
    refine ⟨f a b c d e, a, (b, c, d, e), _, _, rfl, ?_, ha, b, (c, d, e), _, _, rfl, rfl, hb, c, (d, e), _, _, rfl, rfl, hc', d, e, _, _, rfl, rfl, hd, he⟩
    rw [List.drop_zero, List.take_of_length_le (l := cs.drop (S0.size + S1.size + S2.size + S3.size)) (by simp; omega), cut_at, cut_at, cut_at, List.take_append_drop]
end
theorem op_int : Opens Try.prog shInt 3 := opens_int Try.underlying3
theorem op_bool : Opens Try.prog shBool 4 := opens_bool Try.underlying4
theorem op_str : Opens Try.prog shStr 9 := opens_str Try.underlying9
theorem op_ints : Opens Try.prog (shSlice shInt) 24 := opens_slice Try.underlying24 (by kernel_rfl) (by decide) op_int
theorem op_strs : Opens Try.prog (shSlice shStr) 37 := opens_slice Try.underlying37 (by kernel_rfl) (by decide) op_str
theorem op_book : Opens Try.prog shBook 39 := opens_S1 Try.underlying39 (by kernel_rfl) rfl (by kernel_rfl) op_strs
theorem op_op : Opens Try.prog shOp 108 := opens_S2 Try.underlying108 (by kernel_rfl) rfl rfl (by kernel_rfl) (by kernel_rfl) op_int op_int
theorem op_ops : Opens Try.prog (shSlice shOp) 89 := opens_slice Try.underlying89 (by kernel_rfl) (by decide) op_op
theorem op_point : Opens Try.prog shPoint 88 := opens_S2 Try.underlying88 (by kernel_rfl) rfl rfl (by kernel_rfl) (by kernel_rfl) op_int op_int
theorem op_in : Opens Try.prog shIn 91 := opens_S2 Try.underlying91 (by kernel_rfl) rfl rfl (by kernel_rfl) (by kernel_rfl) op_point op_ops
theorem op_ins : Opens Try.prog (shSlice shIn) 78 := opens_slice Try.underlying78 (by kernel_rfl) (by decide) op_in
theorem op_out : Opens Try.prog shOut 98 := opens_S2 Try.underlying98 (by kernel_rfl) rfl rfl (by kernel_rfl) (by kernel_rfl) op_int op_ops
theorem op_outs : Opens Try.prog (shSlice shOut) 79 := opens_slice Try.underlying79 (by kernel_rfl) (by decide) op_out
theorem op_tx : Opens Try.prog shTx 81 := opens_S3 Try.underlying81 (by kernel_rfl) rfl rfl rfl (by kernel_rfl) (by kernel_rfl) (by kernel_rfl) op_int op_ins op_outs
theorem op_txs : Opens Try.prog (shSlice shTx) 64 := opens_slice Try.underlying64 (by kernel_rfl) (by decide) op_tx
theorem op_coin : Opens Try.prog shCoin 100 := opens_S4 Try.underlying100 (by kernel_rfl) rfl rfl rfl rfl (by kernel_rfl) (by kernel_rfl) (by kernel_rfl) (by kernel_rfl) op_point op_out op_int op_bool
theorem op_coins : Opens Try.prog (shSlice shCoin) 77 := opens_slice Try.underlying77 (by kernel_rfl) (by decide) op_coin
theorem op_undo : Opens Try.prog shUndo 83 := opens_S1 Try.underlying83 (by kernel_rfl) rfl (by kernel_rfl) op_coins
theorem op_block : Opens Try.prog shBlock 66 := opens_S5 Try.underlying66 (by kernel_rfl) rfl rfl rfl rfl rfl (by kernel_rfl) (by kernel_rfl) (by kernel_rfl) (by kernel_rfl) (by kernel_rfl) op_int op_int op_int op_int op_txs
theorem op_blocks : Opens Try.prog (shSlice shBlock) 54 := opens_slice Try.underlying54 (by kernel_rfl) (by decide) op_block
theorem op_tree : Opens Try.prog shTree 56 := opens_S2 Try.underlying56 (by kernel_rfl) rfl rfl (by kernel_rfl) (by kernel_rfl) op_ints op_blocks
end Go.Proofs.Ytnnbnjanekibpaa
