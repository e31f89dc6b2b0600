/- Package coin and its reference: what each function computes (contracts by walks). -/
import Derived.Test.YtnnbnjanekibpaaProg
import Derived.Test.YtnnbnjanekibpaaBase
namespace Go.Proofs.Ytnnbnjanekibpaa
open Go.RowKit
set_option linter.unusedVariables false
set_option maxRecDepth 100000

def coinCheck (n : Int) : Int := if 0 ≤ n ∧ n ≤ 1000000000 then 0 else 3
def rewardN (h : Int) : Int := if h < 1 ∨ 1000 < h then 0 else 64 / 2 ^ (min ((h - 1) / 8) 30).toNat
def rewardE (h : Int) : Int := if h < 1 ∨ 1000 < h then 3 else 0
def supplyGo : Nat → Int → Int → Int → Int
  | 0, _, _, a => a
  | f + 1, h, r, a => if 0 < h ∧ 0 < r then supplyGo f (h - min h 8) (r / 2) (a + min h 8 * r) else a
def supplyN (h : Int) : Int := if h < 0 ∨ 1000 < h then 0 else supplyGo 8 h 64 0
def supplyE (h : Int) : Int := if h < 0 ∨ 1000 < h then 3 else 0
def rewardGo : Nat → Int → Int → Int → Int
  | 0, _, n, _ => n
  | f + 1, h, n, H => if h < H then rewardGo f (h + 8) (n / 2) H else n
def refReward (H : Int) : Int := rewardGo 130 8 64 H


theorem coinCheck_any (n : Int) (w : World) : Calls Try.prog 26 #[.int .i64 n] w fun e w' => e = .returned (.int .i64 (coinCheck n)) ∧ w = w' := by
  go_enter Try.func26, Try.ntmps26
  go_wp2
  all_goals (go_ret; refine ⟨ret_int ?_, rfl⟩; unfold coinCheck; first | (rw [if_pos (by omega)]) | (rw [if_neg (by omega)]))


theorem reward_any (n : Int) (w : World) : Calls Try.prog 19 #[.int .i64 n] w fun e w' => e = .returned (.tuple #[.int .i64 (rewardN n), .int .i64 (rewardE n)]) ∧ w = w' := by
  by_cases h : n < 1 ∨ 1000 < n
  · go_enter Try.func19, Try.ntmps19
    go_wp2
    all_goals (go_ret2; refine ⟨ret_int2 ?_ ?_, rfl⟩)
    all_goals simp [rewardN, rewardE, h]
  · have h1 : 1 ≤ n := by omega
    have h2 : n ≤ 1000 := by omega
    go_enter Try.func19, Try.ntmps19
    go_wp2
    · go_ret2
      refine ⟨ret_int2 ?_ ?_, rfl⟩
      · simp only [rewardN]
        rw [if_neg (by omega), Int.min_eq_right (by omega)]
        decide
      · simp [rewardE]; omega
    · go_ret2
      refine ⟨ret_int2 ?_ ?_, rfl⟩
      · simp only [rewardN]
        rw [if_neg (by omega), Int.min_eq_left (by omega)]
      · simp [rewardE]; omega


theorem supply_any (n : Int) (w : World) : Calls Try.prog 20 #[.int .i64 n] w fun e w' => e = .returned (.tuple #[.int .i64 (supplyN n), .int .i64 (supplyE n)]) ∧ w = w' := by
  by_cases h : n < 0 ∨ 1000 < n
  · go_enter Try.func20, Try.ntmps20
    go_wp2
    all_goals (go_ret2; refine ⟨ret_int2 ?_ ?_, rfl⟩)
    all_goals simp [supplyN, supplyE, h]
  · have h1 : 0 ≤ n := by omega
    have h2 : n ≤ 1000 := by omega
    clear h
    go_enter Try.func20, Try.ntmps20
    go_wp2
    go_loop [0, 4, 5] (fun h a r => ∃ (j : Nat) (hh rr aa : Int), j ≤ 7 ∧ h = .int .i64 hh ∧ r = .int .i64 rr ∧ a = .int .i64 aa ∧ 0 ≤ hh ∧ hh ≤ 1000 ∧ 0 ≤ aa ∧ aa ≤ j * 512 ∧ 0 ≤ rr ∧ rr * 2 ^ j ≤ 64 ∧ supplyGo (8 - j) hh rr aa = supplyGo 8 n 64 0) (fun _ _ r => (intOf r).toNat)
    case atStart => exact ⟨0, n, 64, 0, by omega, rfl, rfl, rfl, by omega, by omega, by omega, by omega, by omega, by omega, rfl⟩
    case round =>
      obtain ⟨j, hh, rr, aa, hj, rfl, rfl, rfl, a1, a2, a3, a4, a5, a6, hs⟩ := hrel
      have e8 : 8 - j = (7 - j) + 1 := by omega
      rw [e8, supplyGo] at hs
      by_cases hc : 0 < hh ∧ 0 < rr
      · obtain ⟨c1, c2⟩ := hc
        rw [if_pos ⟨c1, c2⟩] at hs
        have hr64 : rr ≤ 64 := by
          have : (0 : Int) < 2 ^ j := Int.pow_pos (by omega)
          have := Int.mul_le_mul_of_nonneg_left (show (1 : Int) ≤ 2 ^ j by omega) a5
          omega
        have hj6 : j ≤ 6 := by
          rcases Nat.lt_or_ge j 7 with h | h
          · omega
          · obtain rfl : j = 7 := by omega
            omega
        have hp : rr / 2 * 2 ^ (j + 1) ≤ 64 := by
          have e : (2 : Int) ^ (j + 1) = 2 * 2 ^ j := by rw [Int.pow_succ]; omega
          rw [e, ← Int.mul_assoc]
          exact Int.le_trans (Int.mul_le_mul_of_nonneg_right (by omega) (by exact Int.le_of_lt (Int.pow_pos (by omega)))) a6
        rcases Int.lt_or_le 8 hh with c3 | c3
        · have em : min hh 8 = 8 := by omega
          rw [em] at hs
          have hm : 0 ≤ 8 * rr ∧ 8 * rr ≤ 512 := by omega
          have H := Lib.hid hs
          have Hp := Lib.hid hp
          clear hs hp a6 e8 em
          go_wp2
          all_goals go_round
          all_goals try (case measure => simp [intOf]; omega)
          all_goals exact ⟨j + 1, _, _, _, by omega, rfl, rfl, rfl, by omega, by omega, by omega, by omega, by omega, Hp.out, by have := H.out; rw [show 8 - (j + 1) = 7 - j by omega]; exact this⟩
        · have em : min hh 8 = hh := by omega
          rw [em] at hs
          have hm : 0 ≤ hh * rr ∧ hh * rr ≤ 512 := ⟨Int.mul_nonneg a1 a5, by have := Int.mul_le_mul (show hh ≤ 8 by omega) hr64 a5 (by omega); omega⟩
          have H := Lib.hid hs
          have Hp := Lib.hid hp
          clear hs hp a6 e8 em
          go_wp2
          all_goals go_round
          all_goals try (case measure => simp [intOf]; omega)
          all_goals exact ⟨j + 1, _, _, _, by omega, rfl, rfl, rfl, by omega, by omega, by omega, by omega, by omega, Hp.out, by have := H.out; rw [show 8 - (j + 1) = 7 - j by omega]; rw [show hh - hh = (0 : Int) by omega] at this; exact this⟩
      · rw [if_neg hc] at hs
        have H := Lib.hid hs
        clear hs e8 a6
        have hc' : hh ≤ 0 ∨ rr ≤ 0 := by omega
        clear hc
        go_wp2
        all_goals (go_ret2; refine ⟨ret_int2 ?_ ?_, rfl⟩)
        all_goals first | (rw [H.out]; simp only [supplyN]; rw [if_neg (by omega)]) | (simp only [supplyE]; rw [if_neg (by omega)])


theorem rewardOf_any (n : Int) (w : World) (h0 : 0 ≤ n) (h1 : n ≤ 1000) : Calls Try.prog 22 #[.int .i64 n] w fun e w' => e = .returned (.int .i64 (refReward n)) ∧ w = w' := by
  go_enter Try.func22, Try.ntmps22
  go_wp2
  go_loop [3, 4] (fun a h => ∃ (j : Nat) (hh aa : Int), j ≤ 129 ∧ h = .int .i64 hh ∧ a = .int .i64 aa ∧ hh = 8 + 8 * (j : Int) ∧ 0 ≤ aa ∧ aa ≤ 64 ∧ (j = 129 → n ≤ hh) ∧ rewardGo (130 - j) hh aa n = refReward n) (fun _ h => (1100 - intOf h).toNat)
  case atStart => exact ⟨0, 8, 64, by omega, rfl, rfl, by omega, by omega, by omega, by omega, rfl⟩
  case round =>
    obtain ⟨j, hh, aa, hj, rfl, rfl, hjh, a1, a2, a3, hs⟩ := hrel
    have hj9 : hh < n → j ≤ 128 := by omega
    have b1 : 8 ≤ hh := by omega
    have b2 : hh ≤ 1040 := by omega
    have Hj := Lib.hid hjh
    clear hjh
    rw [show 130 - j = (129 - j) + 1 by omega, rewardGo] at hs
    by_cases hc : hh < n
    · rw [if_pos hc] at hs
      have H := Lib.hid hs
      clear hs a3
      have hj8 := hj9 hc
      clear hj9
      go_wp2
      go_round
      case measure => simp [intOf]; omega
      case rel => exact ⟨j + 1, _, _, by omega, rfl, rfl, by have := Hj.out; omega, by omega, by omega, by have := Hj.out; omega, by have := H.out; rw [show 130 - (j + 1) = 129 - j by omega]; exact this⟩
    · rw [if_neg hc] at hs
      have H := Lib.hid hs
      clear hs a3 hj9
      go_wp2
      go_ret
      exact ⟨ret_int H.out, rfl⟩

/-- 'coin.Sum' from a number on: what it comes to, and the error. -/
def sumGo : List Int → Int → Int × Int
  | [], a => (a, 0)
  | x :: l, a => if 0 ≤ x ∧ x ≤ 1000000000 then (if 1000000000 < a + x then (0, 12) else sumGo l (a + x)) else (0, 3)
def coinSum (l : List Int) : Int × Int := sumGo l 0


theorem sum_any (xs : List Int) (A : Option Addr) (n c : Nat) (w : World) (F : Nat → Prop) (h : Rds shInt w F xs A n c) :
    Calls Try.prog 23 #[.slice A n c] w fun e w' => e = .returned (.tuple #[.int .i64 (coinSum xs).1, .int .i64 (coinSum xs).2]) ∧ w = w' := by
  have hn := h.2.1
  have hc := h.2.2.1
  go_enter Try.func23, Try.ntmps23
  go_wp2
  go_loop [4, 10] (fun a i => ∃ (k : Nat) (aa : Int), k ≤ n ∧ i = .int .i64 k ∧ a = .int .i64 aa ∧ 0 ≤ aa ∧ aa ≤ 1000000000 ∧ sumGo (xs.drop k) aa = coinSum xs) (fun _ i => n - (intOf i).toNat)
  case atStart => exact ⟨0, 0, by omega, rfl, rfl, by omega, by omega, rfl⟩
  case round =>
    obtain ⟨k, aa, hk, rfl, rfl, a0, a1, hs⟩ := hrel
    by_cases hlt : k < n
    · obtain ⟨b, off, x, rfl, -, hx, hcell, x0, x1⟩ := h.int hlt
      rw [drop_cons hx, sumGo] at hs
      have Hs := Lib.hid hs
      clear hs hx h
      by_cases hv : 0 ≤ x ∧ x ≤ 1000000000
      · obtain ⟨v0, v1⟩ := hv
        have e : coinCheck x = 0 := by unfold coinCheck; rw [if_pos ⟨v0, v1⟩]
        have E := Lib.hid e
        clear e
        by_cases hf : 1000000000 < aa + x
        · go_wp2_with (go_at_call 26; refine (coinCheck_any _ _).mono ?_; rintro e w' ⟨rfl, rfl⟩; rw [E.out])
          go_ret2
          have := Hs.out
          rw [if_pos (by omega), if_pos (by omega)] at this
          exact ⟨ret_int2 (by rw [← this]) (by rw [← this]), rfl⟩
        · go_wp2_with (go_at_call 26; refine (coinCheck_any _ _).mono ?_; rintro e w' ⟨rfl, rfl⟩; rw [E.out])
          go_round
          case measure => simp [intOf]; omega
          case rel =>
            have := Hs.out
            rw [if_pos (by omega), if_neg (by omega)] at this
            exact ⟨k + 1, _, by omega, by go_num, rfl, by omega, by omega, this⟩
      · have e : coinCheck x = 3 := by unfold coinCheck; rw [if_neg hv]
        have E := Lib.hid e
        clear e
        have hv' : x < 0 ∨ 1000000000 < x := by omega
        have Hv := Lib.hid hv
        clear hv
        go_wp2_with (go_at_call 26; refine (coinCheck_any _ _).mono ?_; rintro e w' ⟨rfl, rfl⟩; rw [E.out])
        go_ret2
        have := Hs.out
        rw [if_neg Hv.out] at this
        exact ⟨ret_int2 (by rw [← this]) (by rw [← this]), rfl⟩
    · obtain rfl : k = n := by omega
      have Hs := Lib.hid hs
      clear hs
      go_wp2
      go_ret2
      have := Hs.out
      rw [List.drop_eq_nil_of_le (by have := h.1; omega)] at this
      exact ⟨ret_int2 (by rw [← this]; rfl) (by rw [← this]; rfl), rfl⟩

def isAmountB (n : Int) : Bool := decide (0 ≤ n) && decide (n ≤ 1000000000)

theorem isAmount_any (n : Int) (w : World) : Calls Try.prog 27 #[.int .i64 n] w fun e w' => e = .returned (.bool (isAmountB n)) ∧ w = w' := by
  go_enter Try.func27, Try.ntmps27
  go_wp2
  all_goals (go_ret; refine ⟨ret_bool ?_, rfl⟩; unfold isAmountB; first | rfl | (simp; omega))


theorem sumOf_any (xs : List Int) (A : Option Addr) (n c : Nat) (w : World) (F : Nat → Prop) (h : Rds shInt w F xs A n c) :
    Calls Try.prog 25 #[.slice A n c] w fun e w' => e = .returned (.tuple #[.int .i64 (coinSum xs).1, .int .i64 (coinSum xs).2]) ∧ w = w' := by
  have hn := h.2.1
  have hc := h.2.2.1
  go_enter Try.func25, Try.ntmps25
  go_wp2
  go_loop [4, 9] (fun a i => ∃ (k : Nat) (aa : Int), k ≤ n ∧ i = .int .i64 k ∧ a = .int .i64 aa ∧ 0 ≤ aa ∧ aa ≤ 1000000000 ∧ sumGo (xs.drop k) aa = coinSum xs) (fun _ i => n - (intOf i).toNat)
  case atStart => exact ⟨0, 0, by omega, rfl, rfl, by omega, by omega, rfl⟩
  case round =>
    obtain ⟨k, aa, hk, rfl, rfl, a0, a1, hs⟩ := hrel
    by_cases hlt : k < n
    · obtain ⟨b, off, x, rfl, -, hx, hcell, x0, x1⟩ := h.int hlt
      rw [drop_cons hx, sumGo] at hs
      have Hs := Lib.hid hs
      clear hs hx h
      by_cases hv : 0 ≤ x ∧ x ≤ 1000000000
      · obtain ⟨v0, v1⟩ := hv
        have e : isAmountB x = true := by simp [isAmountB, v0, v1]
        have E := Lib.hid e
        clear e
        by_cases hf : 1000000000 < aa + x
        · go_wp2_with (go_at_call 27; refine (isAmount_any _ _).mono ?_; rintro e w' ⟨rfl, rfl⟩; rw [E.out])
          go_ret2
          have := Hs.out
          rw [if_pos (by omega), if_pos (by omega)] at this
          exact ⟨ret_int2 (by rw [← this]) (by rw [← this]), rfl⟩
        · go_wp2_with (go_at_call 27; refine (isAmount_any _ _).mono ?_; rintro e w' ⟨rfl, rfl⟩; rw [E.out])
          go_round
          case measure => simp [intOf]; omega
          case rel =>
            have := Hs.out
            rw [if_pos (by omega), if_neg (by omega)] at this
            exact ⟨k + 1, _, by omega, by go_num, rfl, by omega, by omega, this⟩
      · have e : isAmountB x = false := by simp [isAmountB]; omega
        have E := Lib.hid e
        clear e
        have Hv := Lib.hid hv
        clear hv
        go_wp2_with (go_at_call 27; refine (isAmount_any _ _).mono ?_; rintro e w' ⟨rfl, rfl⟩; rw [E.out])
        go_ret2
        have := Hs.out
        rw [if_neg Hv.out] at this
        exact ⟨ret_int2 (by rw [← this]) (by rw [← this]), rfl⟩
    · obtain rfl : k = n := by omega
      have Hs := Lib.hid hs
      clear hs
      go_wp2
      go_ret2
      have := Hs.out
      rw [List.drop_eq_nil_of_le (by have := h.1; omega)] at this
      exact ⟨ret_int2 (by rw [← this]; rfl) (by rw [← this]; rfl), rfl⟩

/-- 'coin.Split': the parts. -/
def splitAt (n p : Int) (k : Nat) : Int := (n + p - 1 - k) / p
def splitL (n p : Int) : List Int := if coinCheck n ≠ 0 ∨ p < 1 ∨ 6 < p then [] else (List.range p.toNat).map (splitAt n p)
def splitE (n p : Int) : Int := if coinCheck n ≠ 0 ∨ p < 1 ∨ 6 < p then 3 else 0

theorem int_info : (Try.prog.info? 3).map (fun i => (i.zero, i.size, i.bytes)) = some (some (.int .i64 0), 1, 8) := by kernel_rfl
theorem split_any (n p : Int) (w : World) : Calls Try.prog 24 #[.int .i64 n, .int .i64 p] w fun e w' =>
    ∃ A c, e = .returned (.tuple #[.slice A (splitL n p).length c, .int .i64 (splitE n p)]) ∧ Rds shInt w' (Lt w'.heap.size) (splitL n p) A (splitL n p).length c ∧ Below w.heap.size w w' := by
  by_cases hc : coinCheck n = 0
  · have h01 : 0 ≤ n ∧ n ≤ 1000000000 := by
      unfold coinCheck at hc
      split at hc
      · assumption
      · omega
    by_cases hp : p < 1 ∨ 6 < p
    · have eL : splitL n p = [] := by simp only [splitL]; rw [if_pos (by omega)]
      have eE : splitE n p = 3 := by simp only [splitE]; rw [if_pos (by omega)]
      rw [eL, eE]
      have E := Lib.hid hc
      clear hc eL eE
      go_enter Try.func24, Try.ntmps24
      go_wp2_with (go_at_call 26; refine (coinCheck_any _ _).mono ?_; rintro e w' ⟨rfl, rfl⟩; rw [E.out])
      all_goals (go_ret2; exact ⟨_, _, rfl, Rds.nil _ _ _, Below.refl _ _⟩)
    · obtain ⟨q, rfl⟩ := Int.eq_ofNat_of_zero_le (show 0 ≤ p by omega)
      have q1 : 1 ≤ q := by omega
      have q6 : q ≤ 6 := by omega
      have eL : splitL n q = (List.range q).map (splitAt n q) := by simp only [splitL]; rw [if_neg (by omega)]; simp
      have eE : splitE n q = 0 := by simp only [splitE]; rw [if_neg (by omega)]
      rw [eL, eE]
      have E := Lib.hid hc
      clear hc eL eE hp
      obtain ⟨i0, hi, hz0, hz1, hz2⟩ := info_parts int_info
      obtain ⟨n0, n1⟩ := h01
      go_enter Try.func24, Try.ntmps24
      go_wp2_with (first | (go_at_call 26; refine (coinCheck_any _ _).mono ?_; rintro e w' ⟨rfl, rfl⟩; rw [E.out]) | (at_make; go_loud (refine wpList_make_full _ rfl _ _ 24 rfl w.heap.size 3 i0 (.int .i64 0) 1 Try.underlying24 hi hz0 hz1 .i64 .i64 _ _ q rfl rfl rfl rfl (by rw [hz2]; omega) (by unfold maxLen; omega) (Nat.le_refl _) ?_; intro w1 hown1 hg1)))
      have hown0 : w1.ownsRow w.heap.size 3 1 (.slice (some ⟨w.heap.size, 0, none⟩) q q) q (filled (fun j => .int .i64 (splitAt n q j)) (.int .i64 0) 0 q) := by
        rw [filled_zero, ← madeCells_one]; exact hown1
      have hb0 : Below w.heap.size w w1 := (Below.refl _ _).grown hg1 (Nat.le_refl _) (by simp)
      clear hown1 hg1 hi hz0 hz1 hz2
      go_loopw [8, 23] (fun _ i wr => ∃ k : Nat, k ≤ q ∧ i = .int .i64 k ∧ wr.ownsRow w.heap.size 3 1 (.slice (some ⟨w.heap.size, 0, none⟩) q q) q (filled (fun j => .int .i64 (splitAt n q j)) (.int .i64 0) k q) ∧ Below w.heap.size w wr) (fun _ i _ => q - (intOf i).toNat)
      case atStart => exact ⟨0, Nat.zero_le _, rfl, hown0, hb0⟩
      case round =>
        obtain ⟨k, hk, rfl, hown, hb⟩ := hrel
        by_cases hlt : k < q
        · have hcell : wr.cell? ⟨w.heap.size, k, none⟩ = some (.int .i64 0) := by
            rw [hown.cellAt k (by omega)]; exact filled_at _ _ _ _ hlt
          have hfz : wr.frozen? ⟨w.heap.size, k, none⟩ = false := hown.frozenAt k
          have hst := (hown.stored k (.int .i64 (splitAt n q k))).1
          rw [filled_set (fun j => Value.int .i64 (splitAt n q j))] at hst
          have Hst := Lib.hid hst
          clear hst hown
          have hbs := hb.setCell (p := ⟨w.heap.size, k, none⟩) (Nat.le_refl _) (.int .i64 (splitAt n q k))
          have Hbs := Lib.hid hbs
          clear hbs hb
          go_wp2
          go_roundw
          case measure => simp [intOf]; omega
          case rel => exact ⟨k + 1, by omega, by go_num, Hst.out, Hbs.out⟩
        · obtain rfl : k = q := by omega
          rw [filled_all] at hown
          have Ho := Lib.hid hown
          clear hown
          go_wp2
          go_ret2
          have h2 := Ho.out
          have e2 : (List.range k).map (fun j => Value.int .i64 (splitAt n k j)) = ((List.range k).map (splitAt n k)).map (Value.int .i64) := by rw [List.map_map]; rfl
          rw [e2] at h2
          obtain ⟨A, c, ev, hr⟩ := Rds.of_own_int h2 (fun x hx => by
            obtain ⟨j, hj, rfl⟩ := List.mem_map.1 hx
            simp at hj
            unfold splitAt
            have a1 : 0 ≤ n + k - 1 - j := by omega
            have a2 : (n + k - 1 - j) / k ≤ n + k - 1 - j := Int.ediv_le_self _ a1
            have a3 : 0 ≤ (n + k - 1 - j) / k := Int.ediv_nonneg a1 (by omega)
            omega)
          injection ev with e1 e2 e3
          subst e1 e3
          have hr2 : Rds shInt wr (Lt wr.heap.size) ((List.range k).map (splitAt n k)) (some ⟨w.heap.size, 0, none⟩) k k := hr.more (fun b hb => hb.2)
          exact ⟨_, k, by simp; rfl, by simpa using hr2, hb⟩
  · have hv : n < 0 ∨ 1000000000 < n := by
      unfold coinCheck at hc
      split at hc
      · simp at hc
      · omega
    have e3 : coinCheck n = 3 := by unfold coinCheck; rw [if_neg (by omega)]
    have eL : splitL n p = [] := by simp only [splitL]; rw [if_pos (by omega)]
    have eE : splitE n p = 3 := by simp only [splitE]; rw [if_pos (by omega)]
    rw [eL, eE]
    have E := Lib.hid e3
    clear hc eL eE e3
    go_enter Try.func24, Try.ntmps24
    go_wp2_with (go_at_call 26; refine (coinCheck_any _ _).mono ?_; rintro e w' ⟨rfl, rfl⟩; rw [E.out])
    go_ret2
    exact ⟨_, _, rfl, Rds.nil _ _ _, Below.refl _ _⟩
end Go.Proofs.Ytnnbnjanekibpaa
