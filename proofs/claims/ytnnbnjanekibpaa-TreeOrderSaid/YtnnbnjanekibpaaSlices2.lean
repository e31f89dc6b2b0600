/- Instances of Go's package slices: Equal at strings and orders, Index, Contains (printed by gen_slices.py). -/
import Derived.Test.YtnnbnjanekibpaaSlices
import Derived.Test.YtnnbnjanekibpaaOwn
namespace Go.Proofs.Ytnnbnjanekibpaa
open Go.RowKit
set_option linter.unusedVariables false
set_option maxRecDepth 100000

theorem Rds.op {w : World} {F : Nat → Prop} {xs : List Op} {A : Option Addr} {n c k : Nat} (h : Rds shOp w F xs A n c) (hk : k < n) :
    ∃ b off x, A = some ⟨b, off, none⟩ ∧ F b ∧ xs[k]? = some x ∧ (w.cell? ⟨b, off + k * 2, none⟩ = some (.int .i64 x.kind) ∧ w.cell? ⟨b, off + k * 2 + 1, none⟩ = some (.int .i64 x.n)) ∧ I64 x.kind ∧ I64 x.n := by
  obtain ⟨b, off, x, cs, e, hF, hx, hr, hc⟩ := h.at_ hk
  obtain ⟨rfl, h1, h2⟩ := rep_op hr
  exact ⟨b, off, x, e, hF, hx, ⟨by simpa [shOp, shS2, shInt] using hc 0 _ rfl, by simpa [shOp, shS2, shInt] using hc 1 _ rfl⟩, h1, h2⟩
theorem Rds.point {w : World} {F : Nat → Prop} {xs : List Point} {A : Option Addr} {n c k : Nat} (h : Rds shPoint w F xs A n c) (hk : k < n) :
    ∃ b off x, A = some ⟨b, off, none⟩ ∧ F b ∧ xs[k]? = some x ∧ (w.cell? ⟨b, off + k * 2, none⟩ = some (.int .i64 x.tx) ∧ w.cell? ⟨b, off + k * 2 + 1, none⟩ = some (.int .i64 x.at_)) ∧ I64 x.tx ∧ I64 x.at_ := by
  obtain ⟨b, off, x, cs, e, hF, hx, hr, hc⟩ := h.at_ hk
  obtain ⟨rfl, h1, h2⟩ := rep_point hr
  exact ⟨b, off, x, e, hF, hx, ⟨by simpa [shPoint, shS2, shInt] using hc 0 _ rfl, by simpa [shPoint, shS2, shInt] using hc 1 _ rfl⟩, h1, h2⟩


theorem equal_str (xs ys : List (List UInt8)) (A A' : Option Addr) (n c n' c' : Nat) (w : World) (F F' : Nat → Prop) (h : Rds shStr w F xs A n c) (h' : Rds shStr w F' ys A' n' c') :
    Calls Try.prog 32 #[.slice A n c, .slice A' n' c'] w fun e w' => e = .returned (.bool (eqB xs ys)) ∧ ∃ m, w' = w.drewN m := by
  have hn := h.2.1
  have hc := h.2.2.1
  have hn' := h'.2.1
  have hc' := h'.2.2.1
  by_cases hl : n = n'
  · obtain rfl := hl
    go_enter Try.func32, Try.ntmps32
    go_wp2
    go_loopw [5, 13] (fun _ i wr => ∃ (k m : Nat), k ≤ n ∧ i = .int .i64 k ∧ wr = w.drewN m ∧ xs.take k = ys.take k) (fun _ i _ => n - (intOf i).toNat)
    case atStart => exact ⟨0, 0, by omega, rfl, rfl, rfl⟩
    case round =>
      obtain ⟨k, m, hk, rfl, rfl, hs⟩ := hrel
      by_cases hlt : k < n
      · obtain ⟨b, off, x, rfl, -, hx, hcell, x0⟩ := h.str hlt
        obtain ⟨b', off', y, rfl, -, hy, hcell', y0⟩ := h'.str hlt
        have Hs := Lib.hid hs
        have Hx := Lib.hid hx
        have Hy := Lib.hid hy
        have i1 : (0 : Int) ≤ (k : Int) := by omega
        have i2 : (k : Int) < (n : Int) := by omega
        clear hs hx hy h h' x0 y0
        by_cases hxy : x = y
        · subst hxy
          go_wp2
          go_quiet (fail)
          go_wp2
          go_roundw
          case measure => simp [intOf]; omega
          case rel => exact ⟨k + 1, _, by omega, by go_num, rfl, by rw [take_snoc Hx.out, take_snoc Hy.out, Hs.out]⟩
        · have hne : eqB xs ys = false := by
            have : xs ≠ ys := fun e => hxy (by have := Hx.out; rw [e, Hy.out] at this; injection this with this; exact this.symm)
            simp [eqB, this]
          have hd : (x == y) = false := by simpa using hxy
          go_wp2
          go_quiet (fail)
          go_wp2
          all_goals (go_ret; refine ⟨ret_bool ?_, _, World.drewN_drewN _ _ _⟩; exact hne.symm)
      · obtain rfl : k = n := by omega
        have Hs := Lib.hid hs
        clear hs
        go_wp2
        go_ret
        refine ⟨ret_bool ?_, _, rfl⟩
        have := Hs.out
        rw [List.take_of_length_le (by have := h.1; omega), List.take_of_length_le (by have := h'.1; omega)] at this
        simp [eqB, this]
  · have hd : ((n : Int) == (n' : Int)) = false := by simp; omega
    have e : eqB xs ys = false := by
      have : xs ≠ ys := fun e => hl (by rw [← h.1, ← h'.1, e])
      simp [eqB, this]
    rw [e]
    clear hl e
    go_enter Try.func32, Try.ntmps32
    go_wp2
    go_ret
    exact ⟨rfl, 0, rfl⟩


theorem equal_op (xs ys : List (Op)) (A A' : Option Addr) (n c n' c' : Nat) (w : World) (F F' : Nat → Prop) (h : Rds shOp w F xs A n c) (h' : Rds shOp w F' ys A' n' c') :
    Calls Try.prog 65 #[.slice A n c, .slice A' n' c'] w fun e w' => e = .returned (.bool (eqB xs ys)) ∧ ∃ m, w' = w.drewN m := by
  have hn := h.2.1
  have hc := h.2.2.1
  have hn' := h'.2.1
  have hc' := h'.2.2.1
  by_cases hl : n = n'
  · obtain rfl := hl
    go_enter Try.func65, Try.ntmps65
    go_wp2
    go_loopw [5, 13] (fun _ i wr => ∃ (k m : Nat), k ≤ n ∧ i = .int .i64 k ∧ wr = w.drewN m ∧ xs.take k = ys.take k) (fun _ i _ => n - (intOf i).toNat)
    case atStart => exact ⟨0, 0, by omega, rfl, rfl, rfl⟩
    case round =>
      obtain ⟨k, m, hk, rfl, rfl, hs⟩ := hrel
      by_cases hlt : k < n
      · obtain ⟨b, off, x, rfl, -, hx, hcell, x0⟩ := h.op hlt
        obtain ⟨b', off', y, rfl, -, hy, hcell', y0⟩ := h'.op hlt
        have Hs := Lib.hid hs
        have Hx := Lib.hid hx
        have Hy := Lib.hid hy
        have i1 : (0 : Int) ≤ (k : Int) := by omega
        have i2 : (k : Int) < (n : Int) := by omega
        clear hs hx hy h h' x0 y0
        by_cases hxy : x = y
        · subst hxy
          go_wp2
          go_quiet (fail)
          go_wp2
          go_roundw
          case measure => simp [intOf]; omega
          case rel => exact ⟨k + 1, _, by omega, by go_num, rfl, by rw [take_snoc Hx.out, take_snoc Hy.out, Hs.out]⟩
        · have hne : eqB xs ys = false := by
            have : xs ≠ ys := fun e => hxy (by have := Hx.out; rw [e, Hy.out] at this; injection this with this; exact this.symm)
            simp [eqB, this]
          obtain ⟨xk, xn⟩ := x
          obtain ⟨yk, yn⟩ := y
          by_cases h1 : xk = yk
          · subst h1
            have h2 : (xn == yn) = false := by simpa using hxy
            clear hxy
            go_wp2
            go_quiet (fail)
            go_wp2
            all_goals (go_ret; refine ⟨ret_bool ?_, _, World.drewN_drewN _ _ _⟩; exact hne.symm)
          · have h2 : (xk == yk) = false := by simpa using h1
            clear hxy h1
            go_wp2
            go_quiet (fail)
            go_wp2
            all_goals (go_ret; refine ⟨ret_bool ?_, _, World.drewN_drewN _ _ _⟩; exact hne.symm)
      · obtain rfl : k = n := by omega
        have Hs := Lib.hid hs
        clear hs
        go_wp2
        go_ret
        refine ⟨ret_bool ?_, _, rfl⟩
        have := Hs.out
        rw [List.take_of_length_le (by have := h.1; omega), List.take_of_length_le (by have := h'.1; omega)] at this
        simp [eqB, this]
  · have hd : ((n : Int) == (n' : Int)) = false := by simp; omega
    have e : eqB xs ys = false := by
      have : xs ≠ ys := fun e => hl (by rw [← h.1, ← h'.1, e])
      simp [eqB, this]
    rw [e]
    clear hl e
    go_enter Try.func65, Try.ntmps65
    go_wp2
    go_ret
    exact ⟨rfl, 0, rfl⟩


/-- The first place of a thing in a list, from a number on; -1: it is not there. -/
def idxGo {α : Type} [DecidableEq α] (x : α) : List α → Nat → Int
  | [], _ => -1
  | y :: l, k => if x = y then k else idxGo x l (k + 1)
def idx {α : Type} [DecidableEq α] (xs : List α) (x : α) : Int := idxGo x xs 0
def memB {α : Type} [DecidableEq α] (xs : List α) (x : α) : Bool := decide (x ∈ xs)
theorem idxGo_mem {α : Type} [DecidableEq α] (x : α) (l : List α) (k : Nat) : (0 ≤ idxGo x l k ↔ x ∈ l) := by
  induction l generalizing k with
  | nil => simp [idxGo]
  | cons y l ih =>
    by_cases h : x = y
    · subst h; simp [idxGo]
    · rw [idxGo, if_neg h, ih (k + 1)]; simp [h]
theorem idx_mem {α : Type} [DecidableEq α] (xs : List α) (x : α) : (0 ≤ idx xs x ↔ x ∈ xs) := idxGo_mem x xs 0
theorem idxGo_ge {α : Type} [DecidableEq α] (x : α) (l : List α) (k : Nat) : -1 ≤ idxGo x l k ∧ idxGo x l k < k + l.length ∨ idxGo x l k = -1 := by
  induction l generalizing k with
  | nil => simp [idxGo]
  | cons y l ih =>
    by_cases h : x = y
    · subst h; simp [idxGo]; omega
    · simp only [idxGo, if_neg h, List.length_cons]
      rcases ih (k + 1) with h | h
      · left; omega
      · right; exact h
theorem idx_bd {α : Type} [DecidableEq α] (xs : List α) (x : α) : -1 ≤ idx xs x ∧ idx xs x ≤ xs.length := by
  rcases idxGo_ge x xs 0 with h | h <;> unfold idx <;> omega


theorem index_int (xs : List (Int)) (y : Int) (A : Option Addr) (n c : Nat) (w : World) (F : Nat → Prop) (h : Rds shInt w F xs A n c) :
    Calls Try.prog 50 #[.slice A n c, .int .i64 y] w fun e w' => e = .returned (.int .i64 (idx xs y)) ∧ w = w' := by
  have hn := h.2.1
  have hc := h.2.2.1
  go_enter Try.func50, Try.ntmps50
  go_wp2
  go_loop [5, 8] (fun _ i => ∃ (k : Nat), k ≤ n ∧ i = .int .i64 k ∧ idxGo y (xs.drop k) k = idx xs y) (fun _ i => n - (intOf i).toNat)
  case atStart => exact ⟨0, by omega, rfl, rfl⟩
  case round =>
    obtain ⟨k, hk, rfl, hs⟩ := hrel
    by_cases hlt : k < n
    · obtain ⟨b, off, x, rfl, -, hx, hcell, x0⟩ := h.int hlt
      rw [drop_cons hx, idxGo] at hs
      clear hx h x0
      by_cases hxy : y = x
      · subst hxy
        rw [if_pos rfl] at hs
        have Hs := Lib.hid hs
        clear hs
        go_wp2
        go_ret
        exact ⟨ret_int Hs.out, rfl⟩
      · rw [if_neg hxy] at hs
        have Hs := Lib.hid hs
        clear hs
        have hd : (y == x) = false := by simpa using hxy
        clear hxy
        go_wp2
        go_round
        case measure => simp [intOf]; omega
        case rel => exact ⟨k + 1, by omega, by go_num, Hs.out⟩
    · obtain rfl : k = n := by omega
      have Hs := Lib.hid hs
      clear hs
      go_wp2
      go_ret
      have := Hs.out
      rw [List.drop_eq_nil_of_le (by have := h.1; omega), idxGo] at this
      exact ⟨ret_int this, rfl⟩

theorem contains_int (xs : List (Int)) (y : Int) (A : Option Addr) (n c : Nat) (w : World) (F : Nat → Prop) (h : Rds shInt w F xs A n c) :
    Calls Try.prog 71 #[.slice A n c, .int .i64 y] w fun e w' => e = .returned (.bool (memB xs y)) ∧ w = w' := by
  go_enter Try.func71, Try.ntmps71
  go_wp2_with fail
  refine (index_int _ _ _ _ _ _ _ h).mono ?_; rintro e w' ⟨rfl, rfl⟩
  have hm := idx_mem xs y
  have e : decide (0 ≤ idx xs y) = memB xs y := by unfold memB; rw [decide_eq_decide]; exact hm
  have E := Lib.hid e
  clear e hm
  go_wp2_with fail
  go_ret
  exact ⟨ret_bool E.out, rfl⟩


theorem index_str (xs : List (List UInt8)) (y : List UInt8) (A : Option Addr) (n c : Nat) (w : World) (F : Nat → Prop) (h : Rds shStr w F xs A n c) :
    Calls Try.prog 74 #[.slice A n c, .string ⟨y.toArray⟩] w fun e w' => e = .returned (.int .i64 (idx xs y)) ∧ w = w' := by
  have hn := h.2.1
  have hc := h.2.2.1
  go_enter Try.func74, Try.ntmps74
  go_wp2
  go_loop [5, 8] (fun _ i => ∃ (k : Nat), k ≤ n ∧ i = .int .i64 k ∧ idxGo y (xs.drop k) k = idx xs y) (fun _ i => n - (intOf i).toNat)
  case atStart => exact ⟨0, by omega, rfl, rfl⟩
  case round =>
    obtain ⟨k, hk, rfl, hs⟩ := hrel
    by_cases hlt : k < n
    · obtain ⟨b, off, x, rfl, -, hx, hcell, x0⟩ := h.str hlt
      rw [drop_cons hx, idxGo] at hs
      clear hx h x0
      by_cases hxy : y = x
      · subst hxy
        rw [if_pos rfl] at hs
        have Hs := Lib.hid hs
        clear hs
        go_wp2
        go_ret
        exact ⟨ret_int Hs.out, rfl⟩
      · rw [if_neg hxy] at hs
        have Hs := Lib.hid hs
        clear hs
        have hd : (y == x) = false := by simpa using hxy
        clear hxy
        go_wp2
        go_round
        case measure => simp [intOf]; omega
        case rel => exact ⟨k + 1, by omega, by go_num, Hs.out⟩
    · obtain rfl : k = n := by omega
      have Hs := Lib.hid hs
      clear hs
      go_wp2
      go_ret
      have := Hs.out
      rw [List.drop_eq_nil_of_le (by have := h.1; omega), idxGo] at this
      exact ⟨ret_int this, rfl⟩















end Go.Proofs.Ytnnbnjanekibpaa
