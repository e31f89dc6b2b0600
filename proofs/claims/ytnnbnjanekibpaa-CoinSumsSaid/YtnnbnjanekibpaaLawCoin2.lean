/- The laws on coins: CoinRewards, CoinSupply: their walks. -/
import Derived.Test.YtnnbnjanekibpaaLawCoin
namespace Go.Proofs.Ytnnbnjanekibpaa
open Go.RowKit
set_option linter.unusedVariables false
set_option maxRecDepth 100000


theorem coinSupply_walk (n : Int) (w : World) (b0 : -9223372036854775808 ≤ n) (b1 : n ≤ 9223372036854775807) : Calls Try.prog 5 #[.int .i64 n] w fun e w' => e = .returned (.bool true) ∧ Below w.heap.size w w' := by
  by_cases h : n < 1 ∨ 1000 < n
  · go_enter Try.func5, Try.ntmps5
    go_wp2_with fail
    refine (reward_bad _ _ h).mono ?_; rintro e w' ⟨rfl, rfl⟩
    go_wp2_with fail
    refine (summed_any _).mono ?_; rintro e w1 ⟨rfl, hb1⟩
    go_wp2_with fail
    refine (summed_any _).mono ?_; rintro e w2 ⟨rfl, hb2⟩
    go_wp2_with fail
    go_ret
    exact ⟨rfl, hb1.trans (hb2.mono hb1.size)⟩
  · have h1 : 1 ≤ n := by omega
    have h2 : n ≤ 1000 := by omega
    obtain ⟨r1, r2, r3⟩ := coin_row n h1 h2
    obtain ⟨s0, s1⟩ := supply_bd (n - 1)
    obtain ⟨t0, t1⟩ := supply_bd n
    obtain ⟨p0, p1⟩ := reward_bd n
    obtain ⟨q0, q1⟩ := reward_bd (n + 1)
    have q2 : supplyN n ≤ supplyN (n - 1) + rewardN n := by omega
    have q3 : supplyN (n - 1) + rewardN n ≤ supplyN n := by omega
    clear r1 r2 h
    go_enter Try.func5, Try.ntmps5
    go_wp2_with fail
    refine (reward_ok _ _ h1 h2).mono ?_; rintro e w' ⟨rfl, rfl⟩
    go_wp2_with fail
    refine (summed_any _).mono ?_; rintro e w1 ⟨rfl, hb1⟩
    go_wp2_with fail
    refine (supply_ok _ _ (by omega) (by omega)).mono ?_; rintro e w' ⟨rfl, rfl⟩
    go_wp2_with fail
    refine (supply_ok _ _ (by omega) (by omega)).mono ?_; rintro e w' ⟨rfl, rfl⟩
    go_wp2_with fail
    by_cases h3 : n = 1000
    · subst h3
      refine (reward_bad _ _ (by omega)).mono ?_; rintro e w' ⟨rfl, rfl⟩
      go_wp2_with fail
      go_ret
      exact ⟨rfl, hb1⟩
    · refine (reward_ok _ _ (by omega) (by omega)).mono ?_; rintro e w' ⟨rfl, rfl⟩
      go_wp2_with fail
      go_ret
      exact ⟨ret_bool (by first | rfl | (simp; done) | (simp; omega)), hb1⟩


theorem coinRewards_walk (n : Int) (w : World) (b0 : -9223372036854775808 ≤ n) (b1 : n ≤ 9223372036854775807) : Calls Try.prog 4 #[.int .i64 n] w fun e w' => e = .returned (.bool true) ∧ Below w.heap.size w w' := by
  by_cases h : n < 0 ∨ 1000 < n
  · go_enter Try.func4, Try.ntmps4
    go_wp2_with fail
    refine (reward_bad _ _ (by omega)).mono ?_; rintro e w' ⟨rfl, rfl⟩
    go_wp2_with fail
    refine (supply_bad _ _ (by omega)).mono ?_; rintro e w' ⟨rfl, rfl⟩
    go_wp2_with fail
    refine (summed_any _).mono ?_; rintro e w1 ⟨rfl, hb1⟩
    go_wp2_with fail
    all_goals go_ret
    all_goals exact ⟨rfl, hb1⟩
  · have h1 : 0 ≤ n := by omega
    have h2 : n ≤ 1000 := by omega
    obtain ⟨s0, s1⟩ := supply_bd n
    go_enter Try.func4, Try.ntmps4
    go_wp2_with fail
    refine (reward_any _ _).mono ?_; rintro e w' ⟨rfl, rfl⟩
    go_wp2_with fail
    refine (supply_ok _ _ (by omega) (by omega)).mono ?_; rintro e w' ⟨rfl, rfl⟩
    go_wp2_with fail
    refine (summed_any _).mono ?_; rintro e w1 ⟨rfl, hb1⟩
    go_wp2_with fail
    go_loopw [7, 8] (fun a h wr => ∃ (k : Nat), k ≤ n ∧ h = .int .i64 (k + 1) ∧ a = .int .i64 (supplyN k) ∧ Below w.heap.size w wr) (fun _ h _ => (1001 - intOf h).toNat)
    case atStart => exact ⟨0, by omega, rfl, rfl, hb1⟩
    case round =>
      obtain ⟨k, hk, rfl, rfl, hb⟩ := hrel
      obtain ⟨s2, s3⟩ := supply_bd k
      by_cases hlt : (k : Int) + 1 ≤ n
      · obtain ⟨r1, r2, r3⟩ := coin_row ((k : Int) + 1) (by omega) (by omega)
        rw [show (k : Int) + 1 - 1 = k by omega, r2] at r1
        have R1 := Lib.hid r1
        obtain ⟨q0, q1⟩ := reward_bd ((k : Int) + 1)
        rw [r2] at q0 q1
        clear r1 r2 r3
        go_wp2_with fail
        refine (rewardOf_any _ _ (by omega) (by omega)).mono ?_; rintro e w' ⟨rfl, rfl⟩
        go_wp2_with fail
        go_roundw
        case measure => simp [intOf]; omega
        case rel => exact ⟨k + 1, by omega, by go_num, by rw [← R1.out]; rfl, hb⟩
      · have e : n = (k : Int) := by omega
        subst e
        by_cases h0 : k = 0
        · subst h0
          have e1 : rewardE 0 = 3 := by simp [rewardE]
          have e2 : rewardN 0 = 0 := by simp [rewardN]
          clear hlt
          simp only [Int.cast_ofNat_Int] at *
          go_wp2_with fail
          go_ret
          exact ⟨ret_bool (by first | rfl | (simp [e1, e2]; done)), hb⟩
        · have e1 : rewardE k = 0 := by simp only [rewardE]; rw [if_neg (by omega)]
          obtain ⟨r1, r2, r3⟩ := coin_row (k : Int) (by omega) (by omega)
          have k1 : (0 : Int) < (k : Int) := by omega
          have R2 := Lib.hid r2
          clear r1 r2 r3 h0
          go_wp2_with fail
          refine (rewardOf_any _ _ (by omega) (by omega)).mono ?_; rintro e w' ⟨rfl, rfl⟩
          go_wp2_with fail
          go_ret
          exact ⟨ret_bool (by first | rfl | (simp [R2.out]; done)), hb⟩

def prefixSum (n q : Int) : Nat → Int
  | 0 => 0
  | k + 1 => prefixSum n q k + splitAt n q k
theorem split_facts (n : Int) (q k : Nat) (h0 : 0 ≤ n) (h1 : n ≤ 1000000000) (q1 : 1 ≤ q) (q6 : q ≤ 6) (hk : k < q) :
    0 ≤ splitAt n q k ∧ splitAt n q k ≤ 1000000000 ∧ splitAt n q k ≤ splitAt n q (k - 1) ∧ splitAt n q 0 - 1 ≤ splitAt n q k := by
  unfold splitAt
  rcases (show q = 1 ∨ q = 2 ∨ q = 3 ∨ q = 4 ∨ q = 5 ∨ q = 6 by omega) with rfl | rfl | rfl | rfl | rfl | rfl <;> omega
theorem prefix_all (n : Int) (q : Nat) (q1 : 1 ≤ q) (q6 : q ≤ 6) : prefixSum n q q = n := by
  rcases (show q = 1 ∨ q = 2 ∨ q = 3 ∨ q = 4 ∨ q = 5 ∨ q = 6 by omega) with rfl | rfl | rfl | rfl | rfl | rfl <;> simp only [prefixSum, splitAt] <;> omega
theorem prefix_bd (n : Int) (q k : Nat) (h0 : 0 ≤ n) (h1 : n ≤ 1000000000) (q1 : 1 ≤ q) (q6 : q ≤ 6) (hk : k ≤ q) : 0 ≤ prefixSum n q k ∧ prefixSum n q k ≤ k * 1000000000 := by
  induction k with
  | zero => simp [prefixSum]
  | succ k ih =>
    have := ih (by omega)
    have := split_facts n q k h0 h1 q1 q6 (by omega)
    simp only [prefixSum]
    omega


theorem isAmount_ok (n : Int) (w : World) (h1 : 0 ≤ n) (h2 : n ≤ 1000000000) : Calls Try.prog 27 #[.int .i64 n] w fun e w' => e = .returned (.bool true) ∧ w = w' :=
  (isAmount_any n w).mono fun e w' ⟨he, hw⟩ => ⟨by rw [he]; simp [isAmountB, h1, h2], hw⟩
theorem isAmount_bad (n : Int) (w : World) (h : n < 0 ∨ 1000000000 < n) : Calls Try.prog 27 #[.int .i64 n] w fun e w' => e = .returned (.bool false) ∧ w = w' :=
  (isAmount_any n w).mono fun e w' ⟨he, hw⟩ => ⟨by rw [he]; simp [isAmountB]; omega, hw⟩
set_option maxHeartbeats 1000000 in
theorem coinSums_walk (xs : List Int) (A : Option Addr) (l c : Nat) (n p : Int) (w : World) (h : Rds shInt w (Lt w.heap.size) xs A l c)
    (b0 : -9223372036854775808 ≤ n) (b1 : n ≤ 9223372036854775807) (d0 : -9223372036854775808 ≤ p) (d1 : p ≤ 9223372036854775807) :
    Calls Try.prog 6 #[.slice A l c, .int .i64 n, .int .i64 p] w fun e w' => e = .returned (.bool true) ∧ Below w.heap.size w w' := by
  by_cases hv : n < 0 ∨ 1000000000 < n
  · have eC : coinCheck n = 3 := by simp only [coinCheck]; rw [if_neg (by omega)]
    have eL : splitL n p = [] := by simp only [splitL]; rw [if_pos (by omega)]
    have eE : splitE n p = 3 := by simp only [splitE]; rw [if_pos (by omega)]
    clear eC
    have hs := split_any n p w
    rw [eL, eE] at hs
    have H := Lib.hid hs
    have HR := Lib.hid h
    clear hs eL eE h
    go_enter Try.func6, Try.ntmps6
    go_wp2_with fail
    refine (sum_any _ _ _ _ _ _ HR.out).mono ?_; rintro e w' ⟨rfl, rfl⟩
    go_wp2_with fail
    refine H.out.mono ?_; rintro e w1 ⟨A1, c1, rfl, hr, hb⟩
    have HR1 := Lib.hid (HR.out.keep (Agree.below hb))
    clear hr
    go_wp2_with fail
    refine (sumOf_any _ _ _ _ _ _ HR1.out).mono ?_; rintro e w' ⟨rfl, rfl⟩
    go_wp2_with fail
    refine (summed_any _).mono ?_; rintro e w2 ⟨rfl, hb2⟩
    have hb3 := hb.trans (hb2.mono hb.size)
    go_wp2_with (first | (go_at_call 26; refine (coinCheck_bad _ _ hv).mono ?_; rintro e w' ⟨rfl, rfl⟩) | (go_at_call 27; refine (isAmount_bad _ _ hv).mono ?_; rintro e w' ⟨rfl, rfl⟩))
    all_goals go_ret
    all_goals exact ⟨ret_bool (by first | rfl | (simp; done)), hb3⟩
  · have n0 : 0 ≤ n := by omega
    have n1 : n ≤ 1000000000 := by omega
    have eC : coinCheck n = 0 := by simp only [coinCheck]; rw [if_pos (by omega)]
    by_cases hp : p < 1 ∨ 6 < p
    · have eL : splitL n p = [] := by simp only [splitL]; rw [if_pos (by omega)]
      have eE : splitE n p = 3 := by simp only [splitE]; rw [if_pos (by omega)]
      have hs := split_any n p w
      rw [eL, eE] at hs
      have H := Lib.hid hs
      have HR := Lib.hid h
      clear hs eL eE h eC hv
      go_enter Try.func6, Try.ntmps6
      go_wp2_with fail
      refine (sum_any _ _ _ _ _ _ HR.out).mono ?_; rintro e w' ⟨rfl, rfl⟩
      go_wp2_with fail
      refine H.out.mono ?_; rintro e w1 ⟨A1, c1, rfl, hr, hb⟩
      have HR1 := Lib.hid (HR.out.keep (Agree.below hb))
      clear hr
      go_wp2_with fail
      refine (sumOf_any _ _ _ _ _ _ HR1.out).mono ?_; rintro e w' ⟨rfl, rfl⟩
      go_wp2_with fail
      refine (summed_any _).mono ?_; rintro e w2 ⟨rfl, hb2⟩
      have hb3 := hb.trans (hb2.mono hb.size)
      go_wp2_with (first | (go_at_call 26; refine (coinCheck_ok _ _ n0 n1).mono ?_; rintro e w' ⟨rfl, rfl⟩) | (go_at_call 27; refine (isAmount_ok _ _ n0 n1).mono ?_; rintro e w' ⟨rfl, rfl⟩))
      all_goals go_ret
      all_goals exact ⟨ret_bool (by first | rfl | (simp; done)), hb3⟩
    · obtain ⟨q, rfl⟩ := Int.eq_ofNat_of_zero_le (show 0 ≤ p by omega)
      have q1 : 1 ≤ q := by omega
      have q6 : q ≤ 6 := by omega
      have eL : splitL n q = (List.range q).map (splitAt n q) := by simp only [splitL]; rw [if_neg (by omega)]; simp
      have eE : splitE n q = 0 := by simp only [splitE]; rw [if_neg (by omega)]
      have hs := split_any n q w
      rw [eL, eE] at hs
      simp only [List.length_map, List.length_range] at hs
      have H := Lib.hid hs
      have HR := Lib.hid h
      clear hs eL eE h eC hv hp
      go_enter Try.func6, Try.ntmps6
      go_wp2_with fail
      refine (sum_any _ _ _ _ _ _ HR.out).mono ?_; rintro e w' ⟨rfl, rfl⟩
      go_wp2_with fail
      refine H.out.mono ?_; rintro e w1 ⟨A1, c1, rfl, hr, hb⟩
      have HR1 := Lib.hid (HR.out.keep (Agree.below hb))
      have cc := hr.2.1
      have cm := hr.2.2.1
      obtain ⟨b, off, rfl, hbl, hcs⟩ := hr.ints (by omega)
      have HC := Lib.hid hcs
      clear hr hcs
      go_wp2_with fail
      refine (sumOf_any _ _ _ _ _ _ HR1.out).mono ?_; rintro e w' ⟨rfl, rfl⟩
      go_wp2_with fail
      refine (summed_any _).mono ?_; rintro e w2 ⟨rfl, hb2⟩
      have hb3 := hb.trans (hb2.mono hb.size)
      have HB2 := Lib.hid hb2
      clear hb2
      go_wp2_with (first | (go_at_call 26; refine (coinCheck_ok _ _ n0 n1).mono ?_; rintro e w' ⟨rfl, rfl⟩) | (go_at_call 27; refine (isAmount_ok _ _ n0 n1).mono ?_; rintro e w' ⟨rfl, rfl⟩))
      go_loop [13, 14, 15, 82] (fun a _ _ i => ∃ k : Nat, k ≤ q ∧ i = .int .i64 k ∧ a = .int .i64 (prefixSum n q k)) (fun _ _ _ i => q - (intOf i).toNat)
      case atStart => exact ⟨0, by omega, rfl, rfl⟩
      case round =>
        obtain ⟨k, hk, rfl, rfl⟩ := hrel
        obtain ⟨p0, p1⟩ := prefix_bd n q k n0 n1 q1 q6 hk
        by_cases hlt : k < q
        · obtain ⟨s0, s1, s2, s3⟩ := split_facts n q k n0 n1 q1 q6 hlt
          obtain ⟨u0, u1, -, -⟩ := split_facts n q 0 n0 n1 q1 q6 (by omega)
          have hx := HC.out k (splitAt n q k) (map_range_at _ hlt)
          rw [← HB2.out.cell (p := ⟨b, off + k, none⟩) hbl] at hx
          have hy := HC.out 0 (splitAt n q 0) (map_range_at _ (by omega))
          rw [← HB2.out.cell (p := ⟨b, off + 0, none⟩) hbl, Nat.add_zero] at hy
          have z0 : (0 : Int) < (q : Int) := by omega
          have ep : prefixSum n q k + splitAt n q k = prefixSum n q (k + 1) := rfl
          have EP := Lib.hid ep
          clear ep
          rcases Nat.eq_zero_or_pos k with k0 | k0
          · have z1 : (k : Int) ≤ 0 := by omega
            clear k0
            go_wp2
            go_round
            case measure => simp [intOf]; omega
            case rel => exact ⟨k + 1, by omega, by go_num, by rw [← EP.out]⟩
          · have hz := HC.out (k - 1) (splitAt n q (k - 1)) (map_range_at _ (by omega))
            rw [← HB2.out.cell (p := ⟨b, off + (k - 1), none⟩) hbl] at hz
            have z1 : (0 : Int) < (k : Int) := by omega
            go_wp2
            go_round
            case measure => simp [intOf]; omega
            case rel => exact ⟨k + 1, by omega, by go_num, by rw [← EP.out]⟩
        · obtain rfl : k = q := by omega
          have hp := prefix_all n k q1 q6
          have HP := Lib.hid hp
          clear hp
          go_wp2
          go_ret
          exact ⟨ret_bool (by first | rfl | (simp [HP.out]; done)), hb3⟩
end Go.Proofs.Ytnnbnjanekibpaa
