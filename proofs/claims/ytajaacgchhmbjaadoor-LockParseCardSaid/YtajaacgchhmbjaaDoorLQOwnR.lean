/- Own texts, put together by wip/bundle.py: RefOps. -/
import Derived.Test.YtajaacgchhmbjaaDoorLQOwnB
namespace Go.Proofs.YtajaacgchhmbjaaDoor
open Go.RowKit
set_option linter.unusedVariables false
set_option maxRecDepth 100000
theorem refOps_any (xs : List Op) (A : Option Addr) (n c : Nat) (w : World) (F : Nat → Prop) (h : Rds shOp w F xs A n c) (hF : ∀ b, F b → b < w.heap.size) :
    Calls Tryd.prog 12 #[.slice A n c] w fun e w' => e = .returned (.int .i64 (opsCheck xs)) ∧ Below w.heap.size w w' := by
  have hn := h.2.1
  have hc := h.2.2.1
  have hl := h.1
  by_cases h16 : 16 < n
  · have e : opsCheck xs = 2 := by simp only [opsCheck]; rw [if_pos (by omega)]
    rw [e]
    clear e hl
    go_enter Tryd.func12, Tryd.ntmps12
    go_wp2
    go_ret
    exact ⟨rfl, Below.refl _ _⟩
  · have e : opsCheck xs = opsGo xs := by simp only [opsCheck]; rw [if_neg (by omega)]
    rw [e]
    have HR := Lib.hid h
    have HLN := Lib.hid hl
    clear e hl h
    go_enter Tryd.func12, Tryd.ntmps12
    go_wp2
    go_loopw [4, 10] (fun _ i wr => ∃ k : Nat, k ≤ n ∧ i = .int .i64 k ∧ Below w.heap.size w wr ∧ opsGo (xs.drop k) = opsGo xs) (fun _ i _ => n - (intOf i).toNat)
    case atStart => exact ⟨0, by omega, rfl, Below.refl _ _, rfl⟩
    case round =>
      obtain ⟨k, hk, rfl, hb, hs⟩ := hrel
      by_cases hlt : k < n
      · obtain ⟨b, off, x, rfl, hFb, hx, ⟨hc1, hc2⟩, -, -⟩ := HR.out.op hlt
        rw [drop_cons hx, opsGo] at hs
        rw [← hb.cell (p := ⟨b, off + k * 2, none⟩) (hF b hFb)] at hc1
        rw [← hb.cell (p := ⟨b, off + k * 2 + 1, none⟩) (hF b hFb)] at hc2
        have HB := Lib.hid (hb.alloc hb.size (.cells #[.int .i64 x.kind, .int .i64 x.n] 40))
        clear hx hb
        have i1 : (0 : Int) ≤ (k : Int) := by omega
        have i2 : (k : Int) < (n : Int) := by omega
        obtain ⟨xk, xn⟩ := x
        simp only at hc1 hc2 HB
        rcases Classical.em (xk < 1 ∨ 13 < xk) with hk1 | hk1
        · have e : opBad ⟨xk, xn⟩ = 4 := by simp only [opBad]; rw [if_pos hk1]
          rw [e, if_pos (by decide)] at hs
          have HS := Lib.hid hs
          clear hs e
          rcases Classical.em (xk < 1) with hk2 | hk2
          · clear hk1
            go_wp2
            go_ret
            exact ⟨ret_int HS.out, HB.out⟩
          · have hk3 : 13 < xk := by omega
            clear hk1
            go_wp2
            go_ret
            exact ⟨ret_int HS.out, HB.out⟩
        · have g1 : ¬ xk < 1 := by omega
          have g2 : ¬ 13 < xk := by omega
          have e0 : opBad ⟨xk, xn⟩ = if (xk ≠ 1 ∧ xn ≠ 0) ∨ xn < -1000000 ∨ 1000000 < xn then 3 else 0 := by simp only [opBad]; rw [if_neg hk1]
          rw [e0] at hs
          clear hk1 e0
          rcases Classical.em ((xk ≠ 1 ∧ xn ≠ 0) ∨ xn < -1000000 ∨ 1000000 < xn) with h3 | h3
          · rw [if_pos h3, if_pos (by decide)] at hs
            have HS := Lib.hid hs
            clear hs
            rcases Classical.em (xn < -1000000) with h6 | h6
            · clear h3
              go_wp2
              go_ret
              exact ⟨ret_int HS.out, HB.out⟩
            · rcases Classical.em (1000000 < xn) with h7 | h7
              · clear h3
                go_wp2
                go_ret
                exact ⟨ret_int HS.out, HB.out⟩
              · have h4 : xk ≠ 1 ∧ xn ≠ 0 := by omega
                have k1 : (xk != 1) = true := by simpa using h4.1
                have k2 : (xn != 0) = true := by simpa using h4.2
                clear h3 h4
                go_wp2
                go_ret
                exact ⟨ret_int HS.out, HB.out⟩
          · rw [if_neg h3, if_neg (by decide)] at hs
            have HS := Lib.hid hs
            clear hs
            have h6 : ¬ xn < -1000000 := by omega
            have h7 : ¬ 1000000 < xn := by omega
            by_cases h5 : xk = 1
            · subst h5
              clear h3
              go_wp2
              go_roundw
              case measure => simp [intOf]; omega
              case rel => exact ⟨k + 1, by omega, by go_num, HB.out, HS.out⟩
            · obtain rfl : xn = 0 := by omega
              have k1 : (xk != 1) = true := by simpa using h5
              clear h3 h5
              go_wp2
              go_roundw
              case measure => simp [intOf]; omega
              case rel => exact ⟨k + 1, by omega, by go_num, HB.out, HS.out⟩
      · obtain rfl : k = n := by omega
        rw [List.drop_eq_nil_of_le (by rw [HLN.out]; omega), opsGo] at hs
        have HS := Lib.hid hs
        clear hs
        go_wp2
        go_ret
        exact ⟨ret_int HS.out, hb⟩
end Go.Proofs.YtajaacgchhmbjaaDoor
