/- Trees: stands, their check. -/
import Derived.Test.YtnnbnjanekibpaaBlock
import Derived.Test.YtnnbnjanekibpaaBookLaw
namespace Go.Proofs.Ytnnbnjanekibpaa
open Go.RowKit
set_option linter.unusedVariables false
set_option maxRecDepth 100000

theorem Rds.blk {w : World} {F : Nat → Prop} {xs : List Block} {A : Option Addr} {n c k : Nat} (h : Rds shBlock w F xs A n c) (hk : k < n) :
    ∃ b off x A1 n1 c1, A = some ⟨b, off, none⟩ ∧ F b ∧ xs[k]? = some x ∧ (w.cell? ⟨b, off + k * 5, none⟩ = some (.int .i64 x.parent) ∧ w.cell? ⟨b, off + k * 5 + 1, none⟩ = some (.int .i64 x.height) ∧ w.cell? ⟨b, off + k * 5 + 2, none⟩ = some (.int .i64 x.work) ∧ w.cell? ⟨b, off + k * 5 + 3, none⟩ = some (.int .i64 x.nonce) ∧ w.cell? ⟨b, off + k * 5 + 4, none⟩ = some (.slice A1 n1 c1)) ∧ shBlock.rep w F x [.int .i64 x.parent, .int .i64 x.height, .int .i64 x.work, .int .i64 x.nonce, .slice A1 n1 c1] := by
  obtain ⟨b, off, x, cs, e, hF, hx, hr, hc⟩ := h.at_ hk
  have hr' := hr
  obtain ⟨A1, n1, c1, rfl, h1, h2, h3, h4, h5⟩ := rep_block hr
  exact ⟨b, off, x, A1, n1, c1, e, hF, hx, ⟨by simpa [shBlock, shS5, shS4, shS3, shS2, shInt, shSlice] using hc 0 _ rfl, by simpa [shBlock, shS5, shS4, shS3, shS2, shInt, shSlice] using hc 1 _ rfl, by simpa [shBlock, shS5, shS4, shS3, shS2, shInt, shSlice] using hc 2 _ rfl, by simpa [shBlock, shS5, shS4, shS3, shS2, shInt, shSlice] using hc 3 _ rfl, by simpa [shBlock, shS5, shS4, shS3, shS2, shInt, shSlice] using hc 4 _ rfl⟩, hr'⟩

def blkAt (bs : List Block) (i : Int) : Block := (bs[i.toNat]?).getD ⟨0, 0, 0, 0, []⟩
/-- On one of the first m, or on nothing. -/
def standsE (ns : List Int) (bs : List Block) (b : Block) (m : Nat) : Int :=
  if b.parent = 0 then (if b.height ≠ 1 then 4 else 0)
  else if idx (ns.take m) b.parent < 0 then 5 else if b.height ≠ (blkAt bs (idx (ns.take m) b.parent)).height + 1 then 4 else 0


theorem index_int_q (xs : List Int) (y : Int) (A : Option Addr) (n c : Nat) (w : World) (F : Nat → Prop) (h : Rds shInt w F xs A n c) :
    Calls Try.prog 50 #[.slice A n c, .int .i64 y] w fun e w' => e = .returned (.int .i64 (idx xs y)) ∧ ∃ m, w' = w.drewN m :=
  (index_int xs y A n c w F h).mono fun e w' ⟨h1, h2⟩ => ⟨h1, 0, h2 ▸ rfl⟩


set_option maxHeartbeats 1000000 in
theorem stands_any (ns : List Int) (bs : List Block) (b : Block) (cs : List Value) (A1 : Option Addr) (n1 c1 : Nat) (A2 : Option Addr) (c2 m : Nat) (w : World) (F : Nat → Prop) (h1 : Rds shInt w F ns A1 n1 c1) (h2 : Rds shBlock w F bs A2 n1 c2) (h : shBlock.rep w F b cs)
    (hF : ∀ b, F b → b < w.heap.size) (hm : m ≤ n1) (hbd : ∀ x ∈ bs.take m, 0 ≤ x.height ∧ x.height ≤ 1000) :
    Calls Try.prog 79 #[.agg #[.slice A1 n1 c1, .slice A2 n1 c2], .agg cs.toArray, .int .i64 m] w fun e w' => e = .returned (.int .i64 (standsE ns bs b m)) ∧ Below w.heap.size w w' := by
  obtain ⟨A, n, c, rfl, i1, i2, i3, i4, hr⟩ := rep_block h
  obtain ⟨bp, bh, bw, bn, txs⟩ := b
  simp only at hr i1 i2 i3 i4 ⊢
  have hB := ((Below.refl w.heap.size w).alloc (Nat.le_refl _) (.cells #[.slice A1 n1 c1, .slice A2 n1 c2] 56)).alloc (by simp) (.cells #[.int .i64 bp, .int .i64 bh, .int .i64 bw, .int .i64 bn, .slice A n c] 66)
  have HR1 := Lib.hid (h1.keep ((Agree.below hB).mono hF))
  have HB := Lib.hid hB
  have hn1 := h1.2.1
  have hc1 := h1.2.2.1
  have hn2 := h2.2.1
  have hc2 := h2.2.2.1
  have hl1 := h1.1
  have hl2 := h2.1
  have T := Lib.hid (HR1.out.take hm)
  have H2 := Lib.hid h2
  clear hr h h1 hB
  by_cases hp : bp = 0
  · have e : standsE ns bs ⟨bp, bh, bw, bn, txs⟩ m = if bh ≠ 1 then 4 else 0 := by simp only [standsE]; rw [if_pos hp]
    rw [e]
    have q : (bp != 0) = false := by simp [hp]
    clear e hp hl1 hl2 h2
    by_cases hh : bh = 1
    · have q2 : (bh != 1) = false := by simp [hh]
      rw [if_neg (by simp [hh])]
      clear hh
      go_enter Try.func79, Try.ntmps79
      go_wp2_with fail
      go_ret
      exact ⟨rfl, HB.out⟩
    · have q2 : (bh != 1) = true := by simp [hh]
      rw [if_pos hh]
      clear hh
      go_enter Try.func79, Try.ntmps79
      go_wp2_with fail
      go_ret
      exact ⟨rfl, HB.out⟩
  · have e : standsE ns bs ⟨bp, bh, bw, bn, txs⟩ m = if idx (ns.take m) bp < 0 then 5 else if bh ≠ (blkAt bs (idx (ns.take m) bp)).height + 1 then 4 else 0 := by simp only [standsE]; rw [if_neg hp]
    rw [e]
    have q : (bp != 0) = true := by simp [hp]
    have bd := idx_bd (ns.take m) bp
    rcases Classical.em (idx (ns.take m) bp < 0) with hi | hi
    · rw [if_pos hi]
      clear e hp hl1 hl2 bd h2
      go_enter Try.func79, Try.ntmps79
      go_wp2_with fail
      go_quiet ((go_at_call 50; exact Calls.quiet_of (index_int_q _ _ _ _ _ _ _ T.out)))
      go_wp2_with fail
      go_ret
      exact ⟨rfl, below_drewN HB.out _⟩
    · rw [if_neg hi]
      obtain ⟨j, hj, hjs⟩ := idx_at (show 0 ≤ idx (ns.take m) bp by omega)
      have hjm : j < m := by have := (List.getElem?_eq_some_iff.1 hjs).1; simp at this; omega
      obtain ⟨b, off, x, A5, n5, c5, rfl, hFb, hx, ⟨hc1', hc2', hc3', hc4', hc5'⟩, hrx⟩ := H2.out.blk (show j < n1 by omega)
      have hxh := hbd x (by rw [List.mem_take_iff_getElem]; exact ⟨j, by have := (List.getElem?_eq_some_iff.1 hx).1; omega, by have := (List.getElem?_eq_some_iff.1 hx).2; exact this⟩)
      have hat : blkAt bs (idx (ns.take m) bp) = x := by rw [hj]; simp [blkAt, hx]
      have hFw := hF b hFb
      rw [← HB.out.cell (p := ⟨b, off + j * 5 + 1, none⟩) hFw] at hc2'
      rw [hat]
      have x1 := hxh.1
      have x2 := hxh.2
      have HJ := Lib.hid hj
      have j1 : (0 : Int) ≤ (j : Int) := by omega
      have j2 : (j : Int) < (n1 : Int) := by omega
      clear e hp hl1 hl2 bd hi hj hjs hx hrx hxh hat hc1' hc3' hc4' hc5' hbd h2
      by_cases hh : bh = x.height + 1
      · have q2 : (bh != x.height + 1) = false := by simp [hh]
        rw [if_neg (by simp [hh])]
        clear hh
        go_enter Try.func79, Try.ntmps79
        go_wp2_with fail
        go_quiet ((go_at_call 50; exact Calls.quiet_of (index_int_q _ _ _ _ _ _ _ T.out)))
        rw [HJ.out]
        go_wp2_with fail
        go_ret
        exact ⟨rfl, below_drewN HB.out _⟩
      · have q2 : (bh != x.height + 1) = true := by simp [hh]
        rw [if_pos hh]
        clear hh
        go_enter Try.func79, Try.ntmps79
        go_wp2_with fail
        go_quiet ((go_at_call 50; exact Calls.quiet_of (index_int_q _ _ _ _ _ _ _ T.out)))
        rw [HJ.out]
        go_wp2_with fail
        go_ret
        exact ⟨rfl, below_drewN HB.out _⟩
end Go.Proofs.Ytnnbnjanekibpaa
