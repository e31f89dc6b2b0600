/- Blocks: their check. -/
import Derived.Test.YtnnbnjanekibpaaTx
namespace Go.Proofs.Ytnnbnjanekibpaa
open Go.RowKit
set_option linter.unusedVariables false
set_option maxRecDepth 100000

theorem Rds.tx {w : World} {F : Nat → Prop} {xs : List Tx} {A : Option Addr} {n c k : Nat} (h : Rds shTx w F xs A n c) (hk : k < n) :
    ∃ b off x A1 n1 c1 A2 n2 c2, A = some ⟨b, off, none⟩ ∧ F b ∧ xs[k]? = some x ∧ (w.cell? ⟨b, off + k * 3, none⟩ = some (.int .i64 x.height) ∧ w.cell? ⟨b, off + k * 3 + 1, none⟩ = some (.slice A1 n1 c1) ∧ w.cell? ⟨b, off + k * 3 + 2, none⟩ = some (.slice A2 n2 c2)) ∧ shTx.rep w F x [.int .i64 x.height, .slice A1 n1 c1, .slice A2 n2 c2] ∧ I64 x.height ∧ x.ins.length = n1 := by
  obtain ⟨b, off, x, cs, e, hF, hx, hr, hc⟩ := h.at_ hk
  have hr' := hr
  obtain ⟨A1, n1, c1, A2, n2, c2, rfl, h1, h2, h3⟩ := rep_tx hr
  exact ⟨b, off, x, A1, n1, c1, A2, n2, c2, e, hF, hx, ⟨by simpa [shTx, shS3, shS2, shInt, shSlice] using hc 0 _ rfl, by simpa [shTx, shS3, shS2, shInt, shSlice] using hc 1 _ rfl, by simpa [shTx, shS3, shS2, shInt, shSlice] using hc 2 _ rfl⟩, hr', h1, h2.1⟩

def blkRange (b : Block) : Prop := b.parent < 0 ∨ 120 < b.parent ∨ b.height < 1 ∨ 1000 < b.height ∨ b.work < 1 ∨ 1000 < b.work ∨ b.nonce < 0 ∨ 1000000000 < b.nonce
instance (b : Block) : Decidable (blkRange b) := by unfold blkRange; infer_instance
def blkHead (b : Block) : Int := if blkRange b then 3 else if 4 < b.txs.length then 2 else if b.txs.length = 0 then 4 else 0
def txOff (h : Int) (t : Tx) (i : Nat) : Prop := ¬ (t.ins.length = 0 ↔ i = 0) ∨ (i = 0 ∧ t.height ≠ h)
instance (h : Int) (t : Tx) (i : Nat) : Decidable (txOff h t i) := by unfold txOff; infer_instance
def txsGo (h : Int) : List Tx → Nat → Int
  | [], _ => 0
  | t :: l, i => if txCheck t ≠ 0 then txCheck t else if txOff h t i then 4 else txsGo h l (i + 1)
def blkCheck (b : Block) : Int := if blkHead b ≠ 0 then blkHead b else txsGo b.height b.txs 0


set_option maxHeartbeats 1000000 in
theorem blockCheck_any (x : Block) (cs : List Value) (w : World) (F : Nat → Prop) (h : shBlock.rep w F x cs) (hF : ∀ b, F b → b < w.heap.size) :
    Calls Try.prog 78 #[.agg cs.toArray] w fun e w' => e = .returned (.int .i64 (blkCheck x)) ∧ Below w.heap.size w w' := by
  obtain ⟨A, n, c, rfl, i1, i2, i3, i4, hr⟩ := rep_block h
  obtain ⟨bp, bh, bw, bn, txs⟩ := x
  simp only at hr i1 i2 i3 i4 ⊢
  have hl := hr.1
  have hn := hr.2.1
  have hc := hr.2.2.1
  have HR := Lib.hid hr
  have HB := Lib.hid ((Below.refl w.heap.size w).alloc (Nat.le_refl _) (.cells #[.int .i64 bp, .int .i64 bh, .int .i64 bw, .int .i64 bn, .slice A n c] 66))
  have HK := Lib.hid (heap_alloc_new w (.cells #[.int .i64 bp, .int .i64 bh, .int .i64 bw, .int .i64 bn, .slice A n c] 66))
  clear hr h
  by_cases h0 : blkRange ⟨bp, bh, bw, bn, txs⟩
  · have e : blkCheck ⟨bp, bh, bw, bn, txs⟩ = 3 := by simp only [blkCheck, blkHead]; rw [if_pos h0]; rfl
    rw [e]
    unfold blkRange at h0
    simp only at h0
    clear e hl
    rcases Classical.em (bp < 0) with p1 | p1
    · clear h0
      go_enter Try.func78, Try.ntmps78
      go_wp2
      go_ret
      exact ⟨rfl, HB.out⟩
    rcases Classical.em (120 < bp) with p2 | p2
    · clear h0
      go_enter Try.func78, Try.ntmps78
      go_wp2
      go_ret
      exact ⟨rfl, HB.out⟩
    rcases Classical.em (bh < 1) with p3 | p3
    · clear h0
      go_enter Try.func78, Try.ntmps78
      go_wp2
      go_ret
      exact ⟨rfl, HB.out⟩
    rcases Classical.em (1000 < bh) with p4 | p4
    · clear h0
      go_enter Try.func78, Try.ntmps78
      go_wp2
      go_ret
      exact ⟨rfl, HB.out⟩
    rcases Classical.em (bw < 1) with p5 | p5
    · clear h0
      go_enter Try.func78, Try.ntmps78
      go_wp2
      go_ret
      exact ⟨rfl, HB.out⟩
    rcases Classical.em (1000 < bw) with p6 | p6
    · clear h0
      go_enter Try.func78, Try.ntmps78
      go_wp2
      go_ret
      exact ⟨rfl, HB.out⟩
    rcases Classical.em (bn < 0) with p7 | p7
    · clear h0
      go_enter Try.func78, Try.ntmps78
      go_wp2
      go_ret
      exact ⟨rfl, HB.out⟩
    · have p8 : 1000000000 < bn := by omega
      clear h0
      go_enter Try.func78, Try.ntmps78
      go_wp2
      go_ret
      exact ⟨rfl, HB.out⟩
  · have p := h0
    unfold blkRange at p
    simp only at p
    have p1 : ¬ bp < 0 := by omega
    have p2 : ¬ 120 < bp := by omega
    have p3 : ¬ bh < 1 := by omega
    have p4 : ¬ 1000 < bh := by omega
    have p5 : ¬ bw < 1 := by omega
    have p6 : ¬ 1000 < bw := by omega
    have p7 : ¬ bn < 0 := by omega
    have p8 : ¬ 1000000000 < bn := by omega
    clear p
    by_cases a1 : 4 < n
    · have e : blkCheck ⟨bp, bh, bw, bn, txs⟩ = 2 := by simp only [blkCheck, blkHead]; rw [if_neg h0, hl, if_pos a1]; rfl
      rw [e]
      clear e h0 hl
      go_enter Try.func78, Try.ntmps78
      go_wp2
      go_ret
      exact ⟨rfl, HB.out⟩
    · by_cases a2 : n = 0
      · have e : blkCheck ⟨bp, bh, bw, bn, txs⟩ = 4 := by simp only [blkCheck, blkHead]; rw [if_neg h0, hl, if_neg a1, if_pos a2]; rfl
        rw [e]
        subst a2
        clear e h0 hl a1
        go_enter Try.func78, Try.ntmps78
        go_wp2
        go_ret
        exact ⟨rfl, HB.out⟩
      · have e : blkCheck ⟨bp, bh, bw, bn, txs⟩ = txsGo bh txs 0 := by simp only [blkCheck, blkHead]; rw [if_neg h0, hl, if_neg a1, if_neg a2]; rfl
        rw [e]
        have m1 : n ≤ 4 := by omega
        have m2 : 0 < n := by omega
        have HLN := Lib.hid hl
        clear e h0 hl a1 a2
        go_enter Try.func78, Try.ntmps78
        go_wp2
        go_loopw [3, 4, 5, 55] (fun _ _ _ i wr => ∃ k : Nat, k ≤ n ∧ i = .int .i64 k ∧ Below w.heap.size w wr ∧ wr.heap[w.heap.size]? = some (.cells #[.int .i64 bp, .int .i64 bh, .int .i64 bw, .int .i64 bn, .slice A n c] 66 (0, 0)) ∧ txsGo bh (txs.drop k) k = txsGo bh txs 0) (fun _ _ _ i _ => n - (intOf i).toNat)
        case atStart => exact ⟨0, by omega, rfl, HB.out, HK.out, rfl⟩
        case round =>
          obtain ⟨k, hk, rfl, hb, hbox, hs⟩ := hrel
          have hwz := blk_lt hbox
          rcases Classical.em (k < n) with hlt | hlt
          · obtain ⟨b, off, x, A1, n1, c1, A2, n2, c2, rfl, hFb, hx, ⟨hc1, hc2, hc3⟩, hrk, xi, xl⟩ := HR.out.tx hlt
            have hFw := hF b hFb
            rw [← hb.cell (p := ⟨b, off + k * 3, none⟩) hFw] at hc1
            rw [← hb.cell (p := ⟨b, off + k * 3 + 1, none⟩) hFw] at hc2
            rw [← hb.cell (p := ⟨b, off + k * 3 + 2, none⟩) hFw] at hc3
            rw [drop_cons hx, txsGo] at hs
            have hW := hb.alloc hb.size (.cells #[.int .i64 x.height, .slice A1 n1 c1, .slice A2 n2 c2] 81)
            have HW := Lib.hid hW
            have HRK := Lib.hid (shTx.more (F' := Lt (wr.alloc (.cells #[.int .i64 x.height, .slice A1 n1 c1, .slice A2 n2 c2] 81)).heap.size) (fun b hb => by have := hF b hb; show b < _; simp; omega) (shTx.keep ((Agree.below hW).mono hF) hrk))
            have HBX := Lib.hid (blk_below (g := w.heap.size) hbox ((Below.refl wr.heap.size wr).alloc (Nat.le_refl _) (.cells #[.int .i64 x.height, .slice A1 n1 c1, .slice A2 n2 c2] 81)) hwz)
            have HNW := Lib.hid (heap_alloc_new wr (.cells #[.int .i64 x.height, .slice A1 n1 c1, .slice A2 n2 c2] 81))
            have i1' : (0 : Int) ≤ (k : Int) := by omega
            have i2' : (k : Int) < (n : Int) := by omega
            have HS := Lib.hid hs
            clear hx hrk hFb hb hbox hs hW
            go_wp2_with fail
            generalize hW1 : wr.alloc (.cells #[.int .i64 x.height, .slice A1 n1 c1, .slice A2 n2 c2] 81) = W1 at HW HRK HBX HNW ⊢
            have hsW : wr.heap.size < W1.heap.size := by rw [← hW1]; simp
            clear hW1
            refine (txCheck_any _ [_, _, _] _ _ HRK.out (fun b hb => hb)).mono ?_
            rintro e w2 ⟨rfl, hb2⟩
            have HW2 := Lib.hid (HW.out.trans (hb2.mono HW.out.size))
            have HBX2 := Lib.hid (blk_below HBX.out hb2 (by omega))
            have HNW2 := Lib.hid (blk_below HNW.out hb2 hsW)
            clear hb2 HW HRK HBX HNW
            by_cases he : txCheck x = 0
            · rw [he]
              have hs := HS.out
              rw [he, if_neg (by decide)] at hs
              clear HS he
              have b0 := blk_cell (i := 0) HNW2.out
              have b1 := blk_cell (i := 1) HNW2.out
              have b2 := blk_cell (i := 1) HBX2.out
              rcases Classical.em (k = 0) with hk0 | hk0
              · have q1 : ((k : Int) == 0) = true := by simp [hk0]
                rcases Classical.em (n1 = 0) with hn0 | hn0
                · have q2 : ((n1 : Int) == 0) = true := by simp [hn0]
                  rcases Classical.em (x.height = bh) with hh | hh
                  · have q3 : (x.height != bh) = false := by simp [hh]
                    rw [if_neg (by unfold txOff; rw [xl]; simp [hk0, hn0, hh])] at hs
                    have HS := Lib.hid hs
                    clear hs hk0 hn0 hh
                    go_wp2_with fail
                    go_roundw
                    case measure => simp [intOf]; omega
                    case rel => exact ⟨k + 1, by omega, by go_num, HW2.out, HBX2.out, HS.out⟩
                  · have q3 : (x.height != bh) = true := by simp [hh]
                    rw [if_pos (by unfold txOff; exact .inr ⟨hk0, hh⟩)] at hs
                    have HS := Lib.hid hs
                    clear hs hk0 hn0 hh
                    go_wp2_with fail
                    go_ret
                    exact ⟨ret_int HS.out, HW2.out⟩
                · have q2 : ((n1 : Int) == 0) = false := by simp; omega
                  rw [if_pos (by unfold txOff; rw [xl]; simp [hk0, hn0])] at hs
                  have HS := Lib.hid hs
                  clear hs hk0 hn0
                  go_wp2_with fail
                  go_ret
                  exact ⟨ret_int HS.out, HW2.out⟩
              · have q1 : ((k : Int) == 0) = false := by simp; omega
                rcases Classical.em (n1 = 0) with hn0 | hn0
                · have q2 : ((n1 : Int) == 0) = true := by simp [hn0]
                  rw [if_pos (by unfold txOff; rw [xl]; simp [hk0, hn0])] at hs
                  have HS := Lib.hid hs
                  clear hs hk0 hn0
                  go_wp2_with fail
                  go_ret
                  exact ⟨ret_int HS.out, HW2.out⟩
                · have q2 : ((n1 : Int) == 0) = false := by simp; omega
                  rw [if_neg (by unfold txOff; rw [xl]; simp [hk0, hn0])] at hs
                  have HS := Lib.hid hs
                  clear hs hk0 hn0
                  go_wp2_with fail
                  go_roundw
                  case measure => simp [intOf]; omega
                  case rel => exact ⟨k + 1, by omega, by go_num, HW2.out, HBX2.out, HS.out⟩
            · have hs := HS.out
              rw [if_pos he] at hs
              have hd : (txCheck x != 0) = true := by simpa using he
              have HS' := Lib.hid hs
              clear HS he hs
              go_wp2_with fail
              go_ret
              exact ⟨ret_int HS'.out, HW2.out⟩
          · obtain rfl : n = k := by omega
            rw [List.drop_eq_nil_of_le (by rw [HLN.out]; omega), txsGo] at hs
            have HS := Lib.hid hs
            clear hs
            go_wp2
            go_ret
            exact ⟨ret_int HS.out, hb⟩
end Go.Proofs.Ytnnbnjanekibpaa
