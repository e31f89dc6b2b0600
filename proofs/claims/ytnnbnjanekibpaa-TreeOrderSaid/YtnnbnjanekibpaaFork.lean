/- Trees: Fork. -/
import Derived.Test.YtnnbnjanekibpaaPath2
namespace Go.Proofs.Ytnnbnjanekibpaa
open Go.RowKit
set_option linter.unusedVariables false
set_option maxRecDepth 100000

def forkL : List Int → List Int → Int → Int
  | x :: xs, y :: ys, l => forkL xs ys (if x = y then x else l)
  | [], _, l => l
  | _ :: _, [], l => l
theorem forkL_nil (xs : List Int) (l : Int) : forkL xs [] l = l := by cases xs <;> rfl
def pFork (t : Tree) (a b : Int) : Int × Int := if (pPath t a).2 ≠ 0 then (0, (pPath t a).2) else if (pPath t b).2 ≠ 0 then (0, (pPath t b).2) else (forkL (pPath t a).1 (pPath t b).1 0, 0)


set_option maxHeartbeats 1000000 in
theorem Fork_any (t : Tree) (cs : List Value) (a b : Int) (w : World) (F : Nat → Prop) (h : shTree.rep w F t cs) (hF : ∀ b, F b → b < w.heap.size) :
    Calls Try.prog 37 #[.agg cs.toArray, .int .i64 a, .int .i64 b] w fun e w' => e = .returned (.tuple #[.int .i64 (pFork t a b).1, .int .i64 (pFork t a b).2]) ∧ Below w.heap.size w w' := by
  have hck := fun (x : Int) (W : World) (hW : Agree F w W) (hs : ∀ b, F b → b < W.heap.size) => Path_any t cs x W F (shTree.keep hW h) hs
  obtain ⟨A1, n, c1, A2, n2, c2, rfl, h1, h2⟩ := rep_tree h
  have hB := (Below.refl w.heap.size w).alloc (Nat.le_refl _) (.cells #[.slice A1 n c1, .slice A2 n2 c2] 56)
  have HC := Lib.hid hck
  have HB := Lib.hid hB
  have HK := Lib.hid (heap_alloc_new w (.cells #[.slice A1 n c1, .slice A2 n2 c2] 56))
  clear hck hB h h1 h2
  by_cases ha : (pPath t a).2 = 0
  · have HA := Lib.hid ha
    by_cases hb' : (pPath t b).2 = 0
    · have e : pFork t a b = (forkL (pPath t a).1 (pPath t b).1 0, 0) := by simp only [pFork]; rw [if_neg (by simp [ha]), if_neg (by simp [hb'])]
      obtain ⟨R, hR⟩ : ∃ R, R = forkL (pPath t a).1 (pPath t b).1 0 := ⟨_, rfl⟩
      rw [e, ← hR]
      have HRR := Lib.hid hR
      have HBB := Lib.hid hb'
      clear e ha hb' hR
      go_enter Try.func37, Try.ntmps37
      go_wp2_with fail
      refine (HC.out a _ ((Agree.below HB.out).mono hF) (fun b hb => by have := hF b hb; simp; omega)).mono ?_
      rintro e w1 ⟨A5, n5, c5, rfl, hr1, hb1⟩
      rw [HA.out]
      have HB1 := Lib.hid (HB.out.trans (hb1.mono (by simp)))
      have z := blk_below HK.out hb1 (by simp)
      have HZ := Lib.hid z
      have z0 := blk_cell (i := 0) z
      have z1 := blk_cell (i := 1) z
      have HR1 := Lib.hid hr1
      have hs1 := hb1.size
      clear hb1 hr1 z
      go_wp2_with fail
      refine (HC.out b w1 ((Agree.below HB1.out).mono hF) (fun b hb => by have := hF b hb; have := HB1.out.size; omega)).mono ?_
      rintro e w2 ⟨A7, n7, c7, rfl, hr2, hb2⟩
      rw [HBB.out]
      have HB2 := Lib.hid (HB1.out.trans (hb2.mono HB1.out.size))
      have HR2 := Lib.hid hr2
      have HR1' := Lib.hid (HR1.out.keep (w' := w2) fun b hb => hb2.block b hb.2)
      have l1 := hr2.2.1
      have l2 := hr2.2.2.1
      have l3 := HR1.out.2.1
      have l4 := HR1.out.2.2.1
      have L5 := Lib.hid HR1.out.1
      have L7 := Lib.hid hr2.1
      clear hb2 hr2 HR1 z0 z1 HZ
      generalize (pPath t a).1 = xs at *
      generalize (pPath t b).1 = ys at *
      obtain ⟨p, hp⟩ : ∃ p : Nat, min (n5 : Int) (n7 : Int) = (p : Int) := ⟨min n5 n7, by omega⟩
      have p5 : p ≤ n5 := by omega
      have p7 : p ≤ n7 := by omega
      have pe : p = n5 ∨ p = n7 := by omega
      have HP := Lib.hid hp
      have PE := Lib.hid pe
      clear hp pe
      go_wp2_with fail
      rw [HP.out]
      go_loopw [11, 12, 36] (fun last _ i wr => ∃ (k q : Nat) (la : Int), k ≤ p ∧ i = .int .i64 k ∧ last = .int .i64 la ∧ wr = w2.drewN q ∧ forkL (xs.drop k) (ys.drop k) la = forkL xs ys 0) (fun _ _ i _ => p - (intOf i).toNat)
      case atStart => exact ⟨0, 0, 0, by omega, rfl, rfl, rfl, rfl⟩
      case round =>
        obtain ⟨k, q, la, hk, rfl, rfl, rfl, hs⟩ := hrel
        rcases Classical.em (k < p) with hlt | hlt
        · obtain ⟨b1, o1, x, rfl, -, hx, hcx, -, -⟩ := HR1'.out.int (show k < n5 by omega)
          obtain ⟨b2, o2, y, rfl, -, hy, hcy, -, -⟩ := HR2.out.int (show k < n7 by omega)
          rw [drop_cons hx, drop_cons hy, forkL] at hs
          have HS := Lib.hid hs
          have i1 : (0 : Int) ≤ (k : Int) := by omega
          have i2 : (k : Int) < (p : Int) := by omega
          have i3 : (k : Int) < (n5 : Int) := by omega
          have i4 : (k : Int) < (n7 : Int) := by omega
          clear hs hx hy
          by_cases hxy : x = y
          · subst hxy
            go_wp2_with fail
            go_quiet (fail)
            go_wp2_with fail
            go_roundw
            case measure => simp [intOf]; omega
            case rel => exact ⟨k + 1, _, x, by omega, by go_num, rfl, rfl, by simpa using HS.out⟩
          · have q1 : (x == y) = false := by simpa using hxy
            have HS' := Lib.hid (by have := HS.out; rw [if_neg hxy] at this; exact this)
            clear hxy HS
            go_wp2_with fail
            go_quiet (fail)
            go_wp2_with fail
            go_roundw
            case measure => simp [intOf]; omega
            case rel => exact ⟨k + 1, _, la, by omega, by go_num, rfl, rfl, HS'.out⟩
        · obtain rfl : p = k := by omega
          have hs' : la = forkL xs ys 0 := by
            rw [← hs]
            rcases PE.out with h | h
            · rw [show xs.drop p = [] from List.drop_eq_nil_of_le (by rw [L5.out]; omega)]; rfl
            · rw [show ys.drop p = [] from List.drop_eq_nil_of_le (by rw [L7.out]; omega), forkL_nil]
          have HS := Lib.hid hs'
          clear hs hs'
          go_wp2_with fail
          refine bodyPost_ret (v := .tuple #[.int .i64 la, .int .i64 0]) (by simp [results, Try.results37, go_sem]) rfl ?_
          rw [HRR.out, ← HS.out]
          exact ⟨rfl, below_drewN HB2.out _⟩
    · have e : pFork t a b = (0, (pPath t b).2) := by simp only [pFork]; rw [if_neg (by simp [ha]), if_pos hb']
      rw [e]
      have hd : ((pPath t b).2 != 0) = true := by simpa using hb'
      clear e ha hb'
      go_enter Try.func37, Try.ntmps37
      go_wp2_with fail
      refine (HC.out a _ ((Agree.below HB.out).mono hF) (fun b hb => by have := hF b hb; simp; omega)).mono ?_
      rintro e w1 ⟨A5, n5, c5, rfl, hr1, hb1⟩
      rw [HA.out]
      have HB1 := Lib.hid (HB.out.trans (hb1.mono (by simp)))
      have z := blk_below HK.out hb1 (by simp)
      have z0 := blk_cell (i := 0) z
      have z1 := blk_cell (i := 1) z
      clear hb1 hr1 z
      go_wp2_with fail
      refine (HC.out b w1 ((Agree.below HB1.out).mono hF) (fun b hb => by have := hF b hb; have := HB1.out.size; omega)).mono ?_
      rintro e w2 ⟨A7, n7, c7, rfl, hr2, hb2⟩
      have HB2 := Lib.hid (HB1.out.trans (hb2.mono HB1.out.size))
      clear hb2 hr2 z0 z1
      go_wp2_with fail
      refine bodyPost_ret (v := .tuple #[.int .i64 0, .int .i64 (pPath t b).2]) (by simp [results, Try.results37, go_sem]) rfl ?_
      exact ⟨rfl, HB2.out⟩
  · have e : pFork t a b = (0, (pPath t a).2) := by simp only [pFork]; rw [if_pos ha]
    rw [e]
    have hd : ((pPath t a).2 != 0) = true := by simpa using ha
    clear e ha
    go_enter Try.func37, Try.ntmps37
    go_wp2_with fail
    refine (HC.out a _ ((Agree.below HB.out).mono hF) (fun b hb => by have := hF b hb; simp; omega)).mono ?_
    rintro e w1 ⟨A5, n5, c5, rfl, hr1, hb1⟩
    have HB1 := Lib.hid (HB.out.trans (hb1.mono (by simp)))
    clear hb1 hr1
    go_wp2_with fail
    refine bodyPost_ret (v := .tuple #[.int .i64 0, .int .i64 (pPath t a).2]) (by simp [results, Try.results37, go_sem]) rfl ?_
    exact ⟨rfl, HB1.out⟩
end Go.Proofs.Ytnnbnjanekibpaa
