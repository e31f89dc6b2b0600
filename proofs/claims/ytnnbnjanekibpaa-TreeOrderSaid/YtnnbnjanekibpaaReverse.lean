/- slices.Reverse at []int by its contract off the shelf. -/
import Derived.Test.YtnnbnjanekibpaaTree2
import Derived.Test.YtnnbnjanekibpaaShelf

namespace Go.Proofs.Ytnnbnjanekibpaa
open Go.RowKit Go.Shelf
set_option linter.unusedVariables false
set_option maxRecDepth 100000

theorem below_cells {B : Nat} {a : World} (b : Nat) (hb : B ≤ b) (vs : List Value) (o : Nat) (w : World) (h : Below B a w) : Below B a (w.setCells b o vs) := by
  induction vs generalizing o w with
  | nil => exact h
  | cons v vs ih => exact ih (o + 1) _ (h.setCell (p := ⟨b, o, none⟩) (by simp; omega) v)


theorem reverse_cells (b off n c : Nat) (zs : List Int) (w : World) (hz : n ≤ zs.length) (hbig : n ≤ 9223372036854775807) (hc : ∀ j, j < zs.length → w.cell? ⟨b, off + j, none⟩ = some (.int .i64 (zs.getD j 0))) (hf : ∀ j, j < n → w.frozen? ⟨b, off + j, none⟩ = false) :
    Calls Try.prog 110 #[.slice (some ⟨b, off, none⟩) n c] w fun e w' => e = .returned (.tuple #[]) ∧ ∃ q, w' = (w.drewN q).setCells b off ((zs.take n).reverse.map (Value.int .i64)) :=
  Any.slices_Reverse_int_cells Try.lays112 b off n c zs w hz hbig hc hf
theorem reverse_empty (a : Option Addr) (c : Nat) (w : World) :
    Calls Try.prog 110 #[.slice a 0 c] w fun e w' => e = .returned (.tuple #[]) ∧ w' = w :=
  Any.slices_Reverse_int_empty Try.lays112 a c w

theorem reverse_own (xs : List Int) (A : Option Addr) (n c base : Nat) (w : World) (h : w.ownsRow base 3 1 (.slice A n c) n (xs.map (Value.int .i64))) (hb : ∀ x ∈ xs, -9223372036854775808 ≤ x ∧ x ≤ 9223372036854775807) (hbase : base ≤ w.heap.size) :
    Calls Try.prog 110 #[.slice A n c] w fun e w' => e = .returned (.tuple #[]) ∧ Below base w w' ∧ Rds shInt w' (fun b => base ≤ b ∧ b < w'.heap.size) xs.reverse A n c := by
  have hl : xs.length = n := by simpa using h.1
  rcases h.2 with ⟨hv, hn⟩ | ⟨g, cap, cur, hv, hg, hh, hnc, hcm, hcs, ht⟩
  · simp only [Value.slice.injEq] at hv
    obtain ⟨rfl, rfl, rfl⟩ := hv
    obtain rfl : xs = [] := List.eq_nil_of_length_eq_zero hl
    refine (reverse_empty none 0 w).mono ?_
    rintro e w' ⟨rfl, rfl⟩
    exact ⟨rfl, ⟨rfl, rfl, rfl, Nat.le_refl _, fun _ _ => rfl⟩, Rds.nil _ _ _⟩
  · simp only [Value.slice.injEq] at hv
    obtain ⟨rfl, _, rfl⟩ := hv
    unfold maxLen at hcm
    have hgs : g < w.heap.size := blk_lt hh
    have hcell : ∀ j, j < xs.length → w.cell? ⟨g, 0 + j, none⟩ = some (.int .i64 (xs.getD j 0)) := by
      intro j hj
      have e1 : (cur.toList.take (n * 1))[j]? = some (.int .i64 xs[j]) := by rw [ht]; simp [hj]
      rw [List.getElem?_take] at e1
      split at e1
      · rw [cell_of_row w g _ cur _ (0, 0) hh]
        simpa [List.getD, hj] using e1
      · cases e1
    refine (reverse_cells g 0 n c xs w (by omega) (by omega) hcell (fun j _ => blk_free hh)).mono ?_
    rintro e w' ⟨rfl, q, rfl⟩
    rw [List.take_of_length_le (by omega)]
    have hB : Below base w ((w.drewN q).setCells g 0 (xs.reverse.map (Value.int .i64))) := below_cells g hg _ _ _ (below_drewN ⟨rfl, rfl, rfl, Nat.le_refl _, fun _ _ => rfl⟩ q)
    refine ⟨rfl, hB, by simp [hl], by omega, by omega, fun hn => ⟨g, 0, rfl, ⟨hg, by have := hB.size; omega⟩, fun i hi => ⟨_, ⟨rfl, hb _ (List.mem_reverse.1 (List.getElem_mem hi))⟩, ?_⟩⟩⟩
    intro j v hj
    match j, hj with
    | 0, hj =>
      simp at hj
      subst hj
      have := World.cell?_setCells_in g (xs.reverse.map (Value.int .i64)) 0 (w.drewN q) (fun j hj => by
        have e := hcell j (by simpa using hj)
        show (w.cell? ⟨g, 0 + j, none⟩).isSome = true
        rw [e]; rfl) i (by simpa using hi)
      simpa [shInt] using this
end Go.Proofs.Ytnnbnjanekibpaa
