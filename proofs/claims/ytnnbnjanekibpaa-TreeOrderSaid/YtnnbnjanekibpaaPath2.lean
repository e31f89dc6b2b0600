/- Trees: Path, Fork. -/
import Derived.Test.YtnnbnjanekibpaaPath
namespace Go.Proofs.Ytnnbnjanekibpaa
open Go.RowKit
set_option linter.unusedVariables false
set_option maxRecDepth 100000

/-- Two results, the first a slice of numbers. -/
def RetInts (w : World) (r : List Int × Int) (e : Ending) (w' : World) : Prop :=
  ∃ A n c, e = .returned (.tuple #[.slice A n c, .int .i64 r.2]) ∧ Rds shInt w' (Mid w w') r.1 A n c ∧ Below w.heap.size w w'
def pPath (t : Tree) (m : Int) : List Int × Int :=
  if treeCheck t ≠ 0 then ([], treeCheck t) else if m ≠ 0 ∧ idx t.names m < 0 then ([], 5) else (pathL t.names t.blocks m, 0)

theorem memB_iff (ns : List Int) (m : Int) : memB ns m = true ↔ 0 ≤ idx ns m := by
  unfold memB idx
  rw [decide_eq_true_iff, idxGo_mem]


set_option maxHeartbeats 1000000 in
theorem Path_any (t : Tree) (cs : List Value) (m : Int) (w : World) (F : Nat → Prop) (h : shTree.rep w F t cs) (hF : ∀ b, F b → b < w.heap.size) :
    Calls Try.prog 39 #[.agg cs.toArray, .int .i64 m] w (RetInts w (pPath t m)) := by
  have hck := fun (W : World) (hW : Agree F w W) (hs : ∀ b, F b → b < W.heap.size) => treeCheck_any t cs W F (shTree.keep hW h) hs
  obtain ⟨A1, n, c1, A2, n2, c2, rfl, h1, h2⟩ := rep_tree h
  obtain ⟨ns, bs⟩ := t
  simp only at h1 h2
  have hB := (Below.refl w.heap.size w).alloc (Nat.le_refl _) (.cells #[.slice A1 n c1, .slice A2 n2 c2] 56)
  have HC := Lib.hid (hck _ ((Agree.below hB).mono hF) (fun b hb => by have := hF b hb; simp; omega))
  have HB := Lib.hid hB
  have HK := Lib.hid (heap_alloc_new w (.cells #[.slice A1 n c1, .slice A2 n2 c2] 56))
  have H1 := Lib.hid h1
  have H2 := Lib.hid h2
  clear hck hB h h1 h2
  by_cases h0 : treeCheck ⟨ns, bs⟩ = 0
  · have ok := (treeCheck_iff ns bs).1 h0
    have en : n2 = n := by have a := H1.out.1; have b := H2.out.1; have c := ok.len; omega
    have OK := Lib.hid ok
    have E0 := Lib.hid h0
    subst en
    clear ok
    by_cases hm0 : m = 0
    · have e : pPath ⟨ns, bs⟩ m = (pathL ns bs m, 0) := by simp only [pPath]; rw [if_neg (by simp [h0]), if_neg (by simp [hm0])]
      rw [e]
      have q : (m != 0) = false := by simp [hm0]
      have HM := Lib.hid hm0
      clear e h0 hm0
      go_enter Try.func39, Try.ntmps39
      go_wp2_with fail
      refine HC.out.mono ?_
      rintro e w1 ⟨rfl, hb1⟩
      rw [E0.out]
      have hb := HB.out.trans (hb1.mono (by simp))
      have HB1 := Lib.hid hb
      have z := blk_below HK.out hb1 (by simp)
      have z0 := blk_cell (i := 0) z
      have z1 := blk_cell (i := 1) z
      have hs1 := hb.size
      clear hb hb1 z
      go_wp2_with fail
      refine (path_any ns bs m A1 n2 c1 A2 c2 w1 (Lt w.heap.size) ((H1.out.keep ((Agree.below HB1.out).mono hF)).more hF) ((H2.out.keep ((Agree.below HB1.out).mono hF)).more hF) (fun b hb => Nat.lt_of_lt_of_le hb hs1) OK.out (.inl HM.out)).mono ?_
      rintro e w2 ⟨A5, n5, c5, rfl, hr, hb2⟩
      have HR := Lib.hid hr
      have HB2 := Lib.hid (HB1.out.trans (hb2.mono hs1))
      clear hr hb2
      go_wp2_with fail
      refine bodyPost_ret (v := .tuple #[.slice A5 n5 c5, .int .i64 0]) (by simp [results, Try.results39, go_sem]) rfl ?_
      exact ⟨_, _, _, rfl, HR.out.more (fun b hb => ⟨Nat.le_trans hs1 hb.1, hb.2⟩), HB2.out⟩
    · have q : (m != 0) = true := by simp [hm0]
      rcases Classical.em (0 ≤ idx ns m) with hi | hi
      · have e : pPath ⟨ns, bs⟩ m = (pathL ns bs m, 0) := by simp only [pPath]; rw [if_neg (by simp [h0]), if_neg (by omega)]
        rw [e]
        have HM := Lib.hid hi
        have hmm : memB ns m = true := (memB_iff ns m).2 hi
        have HMM := Lib.hid hmm
        clear e h0 hm0 hi hmm
        go_enter Try.func39, Try.ntmps39
        go_wp2_with fail
        refine HC.out.mono ?_
        rintro e w1 ⟨rfl, hb1⟩
        rw [E0.out]
        have hb := HB.out.trans (hb1.mono (by simp))
        have HB1 := Lib.hid hb
        have z := blk_below HK.out hb1 (by simp)
        have z0 := blk_cell (i := 0) z
        have z1 := blk_cell (i := 1) z
        have hs1 := hb.size
        have T := Lib.hid (H1.out.keep ((Agree.below hb).mono hF))
        clear hb hb1 z
        go_wp2_with fail
        refine (contains_int ns m _ _ _ _ _ T.out).mono ?_
        rintro e w1' ⟨rfl, rfl⟩
        rw [HMM.out]
        go_wp2_with fail
        refine (path_any ns bs m A1 n2 c1 A2 c2 w1 (Lt w.heap.size) ((H1.out.keep ((Agree.below HB1.out).mono hF)).more hF) ((H2.out.keep ((Agree.below HB1.out).mono hF)).more hF) (fun b hb => Nat.lt_of_lt_of_le hb hs1) OK.out (.inr HM.out)).mono ?_
        rintro e w2 ⟨A5, n5, c5, rfl, hr, hb2⟩
        have HR := Lib.hid hr
        have HB2 := Lib.hid (HB1.out.trans (hb2.mono hs1))
        clear hr hb2
        go_wp2_with fail
        refine bodyPost_ret (v := .tuple #[.slice A5 n5 c5, .int .i64 0]) (by simp [results, Try.results39, go_sem]) rfl ?_
        exact ⟨_, _, _, rfl, HR.out.more (fun b hb => ⟨Nat.le_trans hs1 hb.1, hb.2⟩), HB2.out⟩
      · have e : pPath ⟨ns, bs⟩ m = ([], 5) := by simp only [pPath]; rw [if_neg (by simp [h0]), if_pos ⟨hm0, by omega⟩]
        rw [e]
        have hmm : memB ns m = false := by
          cases hb : memB ns m with
          | false => rfl
          | true => exact absurd ((memB_iff ns m).1 hb) hi
        have HMM := Lib.hid hmm
        clear e h0 hm0 hi hmm
        go_enter Try.func39, Try.ntmps39
        go_wp2_with fail
        refine HC.out.mono ?_
        rintro e w1 ⟨rfl, hb1⟩
        rw [E0.out]
        have hb := HB.out.trans (hb1.mono (by simp))
        have HB1 := Lib.hid hb
        have z := blk_below HK.out hb1 (by simp)
        have z0 := blk_cell (i := 0) z
        have T := Lib.hid (H1.out.keep ((Agree.below hb).mono hF))
        clear hb hb1 z
        go_wp2_with fail
        refine (contains_int ns m _ _ _ _ _ T.out).mono ?_
        rintro e w1' ⟨rfl, rfl⟩
        rw [HMM.out]
        go_wp2_with fail
        refine bodyPost_ret (v := .tuple #[.slice none 0 0, .int .i64 5]) (by simp [results, Try.results39, go_sem]) rfl ?_
        exact ⟨_, _, _, rfl, Rds.nil _ _ _, HB1.out⟩
  · have e : pPath ⟨ns, bs⟩ m = ([], treeCheck ⟨ns, bs⟩) := by simp only [pPath]; rw [if_pos h0]
    rw [e]
    have hd : (treeCheck ⟨ns, bs⟩ != 0) = true := by simpa using h0
    clear e h0
    go_enter Try.func39, Try.ntmps39
    go_wp2_with fail
    refine HC.out.mono ?_
    rintro e w1 ⟨rfl, hb1⟩
    have HB1 := Lib.hid (HB.out.trans (hb1.mono (by simp)))
    clear hb1
    go_wp2_with fail
    refine bodyPost_ret (v := .tuple #[.slice none 0 0, .int .i64 (treeCheck ⟨ns, bs⟩)]) (by simp [results, Try.results39, go_sem]) rfl ?_
    exact ⟨_, _, _, rfl, Rds.nil _ _ _, HB1.out⟩
end Go.Proofs.Ytnnbnjanekibpaa
