/- The laws on coins: their walks. -/
import Derived.Test.YtnnbnjanekibpaaCoin
import Derived.Test.YtnnbnjanekibpaaSlices
namespace Go.Proofs.Ytnnbnjanekibpaa
open Go.RowKit
set_option linter.unusedVariables false
set_option maxRecDepth 100000

theorem coin_table : (List.range 1000).all (fun k => decide (supplyN ((k : Int) + 1) = supplyN k + rewardN ((k : Int) + 1) ∧ rewardN ((k : Int) + 1) = refReward ((k : Int) + 1) ∧ rewardN ((k : Int) + 2) ≤ rewardN ((k : Int) + 1))) = true := by decide +kernel
theorem coin_row (h : Int) (h1 : 1 ≤ h) (h2 : h ≤ 1000) : supplyN h = supplyN (h - 1) + rewardN h ∧ rewardN h = refReward h ∧ rewardN (h + 1) ≤ rewardN h := by
  have := List.all_eq_true.1 coin_table (h - 1).toNat (by simp; omega)
  have e : (((h - 1).toNat : Nat) : Int) = h - 1 := by omega
  rw [decide_eq_true_iff, e] at this
  rw [show h - 1 + 1 = h by omega, show h - 1 + 2 = h + 1 by omega] at this
  exact this
theorem supply_bd (h : Int) : 0 ≤ supplyN h ∧ supplyN h ≤ 1000000 := by
  by_cases hb : h < 0 ∨ 1000 < h
  · simp only [supplyN]; rw [if_pos hb]; omega
  · have key : (List.range 1001).all (fun k => decide (0 ≤ supplyN k ∧ supplyN k ≤ 1000000)) = true := by decide +kernel
    have := List.all_eq_true.1 key h.toNat (by simp; omega)
    rw [decide_eq_true_iff, show ((h.toNat : Nat) : Int) = h by omega] at this
    exact this
theorem reward_bd (h : Int) : 0 ≤ rewardN h ∧ rewardN h ≤ 64 := by
  by_cases hb : h < 1 ∨ 1000 < h
  · simp only [rewardN]; rw [if_pos hb]; omega
  · have key : (List.range 1001).all (fun k => decide (0 ≤ rewardN k ∧ rewardN k ≤ 64)) = true := by decide +kernel
    have := List.all_eq_true.1 key h.toNat (by simp; omega)
    rw [decide_eq_true_iff, show ((h.toNat : Nat) : Int) = h by omega] at this
    exact this


theorem reward_bad (n : Int) (w : World) (h : n < 1 ∨ 1000 < n) : Calls Try.prog 19 #[.int .i64 n] w fun e w' => e = .returned (.tuple #[.int .i64 0, .int .i64 3]) ∧ w = w' :=
  (reward_any n w).mono fun e w' ⟨he, hw⟩ => ⟨by rw [he]; simp only [rewardN, rewardE]; rw [if_pos h, if_pos h], hw⟩
theorem reward_ok (n : Int) (w : World) (h1 : 1 ≤ n) (h2 : n ≤ 1000) : Calls Try.prog 19 #[.int .i64 n] w fun e w' => e = .returned (.tuple #[.int .i64 (rewardN n), .int .i64 0]) ∧ w = w' :=
  (reward_any n w).mono fun e w' ⟨he, hw⟩ => ⟨by rw [he]; simp only [rewardE]; rw [if_neg (by omega)], hw⟩

theorem supply_bad (n : Int) (w : World) (h : n < 0 ∨ 1000 < n) : Calls Try.prog 20 #[.int .i64 n] w fun e w' => e = .returned (.tuple #[.int .i64 0, .int .i64 3]) ∧ w = w' :=
  (supply_any n w).mono fun e w' ⟨he, hw⟩ => ⟨by rw [he]; simp only [supplyN, supplyE]; rw [if_pos h, if_pos h], hw⟩
theorem supply_ok (n : Int) (w : World) (h1 : 0 ≤ n) (h2 : n ≤ 1000) : Calls Try.prog 20 #[.int .i64 n] w fun e w' => e = .returned (.tuple #[.int .i64 (supplyN n), .int .i64 0]) ∧ w = w' :=
  (supply_any n w).mono fun e w' ⟨he, hw⟩ => ⟨by rw [he]; simp only [supplyE]; rw [if_neg (by omega)], hw⟩

theorem coinCheck_ok (n : Int) (w : World) (h1 : 0 ≤ n) (h2 : n ≤ 1000000000) : Calls Try.prog 26 #[.int .i64 n] w fun e w' => e = .returned (.int .i64 0) ∧ w = w' :=
  (coinCheck_any n w).mono fun e w' ⟨he, hw⟩ => ⟨by rw [he]; simp only [coinCheck]; rw [if_pos (by omega)], hw⟩
theorem coinCheck_bad (n : Int) (w : World) (h : n < 0 ∨ 1000000000 < n) : Calls Try.prog 26 #[.int .i64 n] w fun e w' => e = .returned (.int .i64 3) ∧ w = w' :=
  (coinCheck_any n w).mono fun e w' ⟨he, hw⟩ => ⟨by rw [he]; simp only [coinCheck]; rw [if_neg (by omega)], hw⟩


theorem reward_8 (w : World) : Calls Try.prog 19 #[.int .i64 8] w fun e w' => e = .returned (.tuple #[.int .i64 64, .int .i64 0]) ∧ w = w' := reward_ok 8 w (by omega) (by omega)
theorem reward_9 (w : World) : Calls Try.prog 19 #[.int .i64 9] w fun e w' => e = .returned (.tuple #[.int .i64 32, .int .i64 0]) ∧ w = w' := reward_ok 9 w (by omega) (by omega)
theorem supply_10 (w : World) : Calls Try.prog 20 #[.int .i64 10] w fun e w' => e = .returned (.tuple #[.int .i64 576, .int .i64 0]) ∧ w = w' := supply_ok 10 w (by omega) (by omega)
theorem split_73 (w : World) : Calls Try.prog 24 #[.int .i64 7, .int .i64 3] w fun e w' =>
    ∃ A c, e = .returned (.tuple #[.slice A 3 c, .int .i64 0]) ∧ Rds shInt w' (Lt w'.heap.size) [3, 2, 2] A 3 c ∧ Below w.heap.size w w' := split_any 7 3 w

theorem summed_any (w : World) : Calls Try.prog 21 #[] w fun e w' => e = .returned (.bool true) ∧ Below w.heap.size w w' := by
  go_enter Try.func21, Try.ntmps21
  go_wp2_with fail
  refine (reward_8 _).mono ?_; rintro e w' ⟨rfl, rfl⟩
  go_wp2_with fail
  refine (reward_9 _).mono ?_; rintro e w' ⟨rfl, rfl⟩
  go_wp2_with fail
  refine (supply_10 _).mono ?_; rintro e w' ⟨rfl, rfl⟩
  go_wp2_with fail
  refine (split_73 _).mono ?_; rintro e w1 ⟨A, c, rfl, hr, hb⟩
  have hr1 : Rds shInt (w1.alloc (.cells #[.int .i64 3, .int .i64 2, .int .i64 2] 3)) (Lt w1.heap.size) [3, 2, 2] A 3 c := hr.keep fun b h => Below.heap_alloc _ _ _ h
  have hr2 : Rds shInt (w1.alloc (.cells #[.int .i64 3, .int .i64 2, .int .i64 2] 3)) (Lt (w1.heap.size + 1)) [3, 2, 2] (some ⟨w1.heap.size, 0, none⟩) 3 3 := by
    have := Rds.of_block_int (g := w1.heap.size) (e := 3) (z := (0, 0)) (xs := [3, 2, 2]) (cap := 3) (F := Lt (w1.heap.size + 1)) (heap_alloc_new w1 _) rfl (by unfold Lt; omega) (by decide) (by decide) (by decide)
    exact this
  have hbb := hb.alloc hb.size (.cells #[.int .i64 3, .int .i64 2, .int .i64 2] 3)
  have H1 := Lib.hid hr1
  have H2 := Lib.hid hr2
  have HB := Lib.hid hbb
  clear hr1 hr2 hbb hr hb
  go_wp2_with fail
  refine (equal_int _ _ _ _ _ _ _ _ _ _ _ H1.out H2.out).mono ?_; rintro e w' ⟨rfl, m, rfl⟩
  go_wp2_with fail
  go_ret
  exact ⟨rfl, below_drewN HB.out m⟩
end Go.Proofs.Ytnnbnjanekibpaa
