/- Instances of Go's package slices: contracts by walks. -/
import Derived.Test.YtnnbnjanekibpaaProg
import Derived.Test.YtnnbnjanekibpaaBase
namespace Go.Proofs.Ytnnbnjanekibpaa
open Go.RowKit
set_option linter.unusedVariables false
set_option maxRecDepth 100000

def eqB {α : Type} [DecidableEq α] (xs ys : List α) : Bool := decide (xs = ys)


theorem equal_int (xs ys : List Int) (A A' : Option Addr) (n c n' c' : Nat) (w : World) (F F' : Nat → Prop) (h : Rds shInt w F xs A n c) (h' : Rds shInt w F' ys A' n' c') :
    Calls Try.prog 18 #[.slice A n c, .slice A' n' c'] w fun e w' => e = .returned (.bool (eqB xs ys)) ∧ ∃ m, w' = w.drewN m := by
  have hn := h.2.1
  have hc := h.2.2.1
  have hn' := h'.2.1
  have hc' := h'.2.2.1
  by_cases hl : n = n'
  · obtain rfl := hl
    go_enter Try.func18, Try.ntmps18
    go_wp2
    go_loopw [5, 13] (fun _ i wr => ∃ (k m : Nat), k ≤ n ∧ i = .int .i64 k ∧ wr = w.drewN m ∧ xs.take k = ys.take k) (fun _ i _ => n - (intOf i).toNat)
    case atStart => exact ⟨0, 0, by omega, rfl, rfl, rfl⟩
    case round =>
      obtain ⟨k, m, hk, rfl, rfl, hs⟩ := hrel
      by_cases hlt : k < n
      · obtain ⟨b, off, x, rfl, -, hx, hcell, x0, x1⟩ := h.int hlt
        obtain ⟨b', off', y, rfl, -, hy, hcell', y0, y1⟩ := h'.int hlt
        have Hs := Lib.hid hs
        have Hx := Lib.hid hx
        have Hy := Lib.hid hy
        have i1 : (0 : Int) ≤ (k : Int) := by omega
        have i2 : (k : Int) < (n : Int) := by omega
        clear hs hx hy h h'
        by_cases hxy : x = y
        · subst hxy
          go_wp2
          go_quiet (fail)
          go_wp2
          go_roundw
          case measure => simp [intOf]; omega
          case rel => exact ⟨k + 1, _, by omega, by go_num, rfl, by rw [take_snoc Hx.out, take_snoc Hy.out, Hs.out]⟩
        · have hd : (x == y) = false := by simpa using hxy
          go_wp2
          go_quiet (fail)
          go_wp2
          go_ret
          refine ⟨ret_bool ?_, _, World.drewN_drewN _ _ _⟩
          have : xs ≠ ys := fun e => hxy (by have := Hx.out; rw [e, Hy.out] at this; injection this with this; exact this.symm)
          simp [eqB, this]
      · obtain rfl : k = n := by omega
        have Hs := Lib.hid hs
        clear hs
        go_wp2
        go_ret
        refine ⟨ret_bool ?_, _, rfl⟩
        have := Hs.out
        rw [List.take_of_length_le (by have := h.1; omega), List.take_of_length_le (by have := h'.1; omega)] at this
        simp [eqB, this]
  · have hd : ((n : Int) == (n' : Int)) = false := by simp; omega
    have e : eqB xs ys = false := by
      have : xs ≠ ys := fun e => hl (by rw [← h.1, ← h'.1, e])
      simp [eqB, this]
    rw [e]
    clear hl e
    go_enter Try.func18, Try.ntmps18
    go_wp2
    go_ret
    exact ⟨rfl, 0, rfl⟩
end Go.Proofs.Ytnnbnjanekibpaa
