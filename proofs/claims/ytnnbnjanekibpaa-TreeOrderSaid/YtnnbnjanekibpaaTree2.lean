/- Trees: their check. -/
import Derived.Test.YtnnbnjanekibpaaTree
namespace Go.Proofs.Ytnnbnjanekibpaa
open Go.RowKit
set_option linter.unusedVariables false
set_option maxRecDepth 100000

def nameAt (ns : List Int) (k : Nat) : Int := (ns[k]?).getD 0
def treeStep (ns : List Int) (bs : List Block) (k : Nat) (n : Int) (b : Block) : Int :=
  if n < 1 ∨ 120 < n then 3 else if blkCheck b ≠ 0 then blkCheck b else if memB (ns.take k) n = true then 6 else standsE ns bs b k
def treeGo (ns : List Int) (bs : List Block) : Nat → Nat → Int
  | _, 0 => 0
  | k, f + 1 => if treeStep ns bs k (nameAt ns k) (blkAt bs k) ≠ 0 then treeStep ns bs k (nameAt ns k) (blkAt bs k) else treeGo ns bs (k + 1) f
def treeCheck (t : Tree) : Int := if t.names.length ≠ t.blocks.length then 4 else if 24 < t.names.length then 2 else treeGo t.names t.blocks 0 t.names.length

theorem blkCheck_bd {b : Block} (h : blkCheck b = 0) : ¬ blkRange b ∧ b.txs.length ≤ 4 := by
  unfold blkCheck at h
  by_cases h0 : blkHead b = 0
  · unfold blkHead at h0
    by_cases h1 : blkRange b
    · rw [if_pos h1] at h0; cases h0
    · rw [if_neg h1] at h0
      by_cases h2 : 4 < b.txs.length
      · rw [if_pos h2] at h0; cases h0
      · exact ⟨h1, by omega⟩
  · rw [if_pos h0] at h; exact absurd h h0
theorem blkCheck_height {b : Block} (h : blkCheck b = 0) : 0 ≤ b.height ∧ b.height ≤ 1000 := by
  have := (blkCheck_bd h).1
  unfold blkRange at this
  omega


set_option maxHeartbeats 1000000 in
theorem treeCheck_any (t : Tree) (cs : List Value) (w : World) (F : Nat → Prop) (h : shTree.rep w F t cs) (hF : ∀ b, F b → b < w.heap.size) :
    Calls Try.prog 40 #[.agg cs.toArray] w fun e w' => e = .returned (.int .i64 (treeCheck t)) ∧ Below w.heap.size w w' := by
  obtain ⟨A1, n, c1, A2, n2, c2, rfl, h1, h2⟩ := rep_tree h
  obtain ⟨ns, bs⟩ := t
  simp only at h1 h2 ⊢
  have hl1 := h1.1
  have hl2 := h2.1
  have hn1 := h1.2.1
  have hc1 := h1.2.2.1
  have hn2 := h2.2.1
  have hc2 := h2.2.2.1
  have H1 := Lib.hid h1
  have H2 := Lib.hid h2
  have HB := Lib.hid ((Below.refl w.heap.size w).alloc (Nat.le_refl _) (.cells #[.slice A1 n c1, .slice A2 n2 c2] 56))
  have HK := Lib.hid (heap_alloc_new w (.cells #[.slice A1 n c1, .slice A2 n2 c2] 56))
  clear h h1 h2
  by_cases e1 : n = n2
  · subst e1
    by_cases e2 : 24 < n
    · have e : treeCheck ⟨ns, bs⟩ = 2 := by simp only [treeCheck]; rw [if_neg (by omega), if_pos (by omega)]
      rw [e]
      clear e hl1 hl2
      go_enter Try.func40, Try.ntmps40
      go_wp2
      go_ret
      exact ⟨rfl, HB.out⟩
    · have e : treeCheck ⟨ns, bs⟩ = treeGo ns bs 0 n := by simp only [treeCheck]; rw [if_neg (by omega), if_neg (by omega), hl1]
      rw [e]
      have L1 := Lib.hid hl1
      have L2 := Lib.hid hl2
      have m1 : n ≤ 24 := by omega
      clear e hl1 hl2 e2
      go_enter Try.func40, Try.ntmps40
      go_wp2
      go_loopw [3, 4, 5, 6, 7, 22] (fun _ _ _ _ _ i wr => ∃ k : Nat, k ≤ n ∧ i = .int .i64 k ∧ Below w.heap.size w wr ∧ wr.heap[w.heap.size]? = some (.cells #[.slice A1 n c1, .slice A2 n c2] 56 (0, 0)) ∧ (∀ x ∈ bs.take k, 0 ≤ x.height ∧ x.height ≤ 1000) ∧ treeGo ns bs k (n - k) = treeGo ns bs 0 n) (fun _ _ _ _ _ i _ => n - (intOf i).toNat)
      case atStart => exact ⟨0, by omega, rfl, HB.out, HK.out, by simp, rfl⟩
      case round =>
        obtain ⟨k, hk, rfl, hb, hbox, hbd, hs⟩ := hrel
        have hwz := blk_lt hbox
        rcases Classical.em (k < n) with hlt | hlt
        · obtain ⟨b, off, x, A3, n3, c3, rfl, hFb, hx, ⟨hc1', hc2', hc3', hc4', hc5'⟩, hrk⟩ := H2.out.blk hlt
          obtain ⟨b', off', y, rfl, hFb', hy, hcy, hy1, hy2⟩ := H1.out.int hlt
          have hFw := hF b hFb
          have hFw' := hF b' hFb'
          rw [← hb.cell (p := ⟨b, off + k * 5, none⟩) hFw] at hc1'
          rw [← hb.cell (p := ⟨b, off + k * 5 + 1, none⟩) hFw] at hc2'
          rw [← hb.cell (p := ⟨b, off + k * 5 + 2, none⟩) hFw] at hc3'
          rw [← hb.cell (p := ⟨b, off + k * 5 + 3, none⟩) hFw] at hc4'
          rw [← hb.cell (p := ⟨b, off + k * 5 + 4, none⟩) hFw] at hc5'
          rw [← hb.cell (p := ⟨b', off' + k, none⟩) hFw'] at hcy
          have ea : nameAt ns k = y := by simp [nameAt, hy]
          have eb : blkAt bs k = x := by simp [blkAt, hx]
          rw [show n - k = (n - (k + 1)) + 1 by omega, treeGo, ea, eb] at hs
          have hbxn : ∀ o, (wr.alloc o).heap[w.heap.size]? = some (.cells #[.slice (some ⟨b', off', none⟩) n c1, .slice (some ⟨b, off, none⟩) n c2] 56 (0, 0)) := fun o => by rw [Below.heap_alloc _ _ _ hwz]; exact hbox
          have hW := hb.alloc hb.size (.cells #[.int .i64 x.parent, .int .i64 x.height, .int .i64 x.work, .int .i64 x.nonce, .slice A3 n3 c3] 66)
          have HW := Lib.hid hW
          have HRK := Lib.hid (shBlock.more (F' := Lt (wr.alloc (.cells #[.int .i64 x.parent, .int .i64 x.height, .int .i64 x.work, .int .i64 x.nonce, .slice A3 n3 c3] 66)).heap.size) (fun b hb => by have := hF b hb; show b < _; simp; omega) (shBlock.keep ((Agree.below hW).mono hF) hrk))
          have HBX := Lib.hid (hbxn (.cells #[.int .i64 x.parent, .int .i64 x.height, .int .i64 x.work, .int .i64 x.nonce, .slice A3 n3 c3] 66))
          have HNW := Lib.hid (heap_alloc_new wr (.cells #[.int .i64 x.parent, .int .i64 x.height, .int .i64 x.work, .int .i64 x.nonce, .slice A3 n3 c3] 66))
          have i1' : (0 : Int) ≤ (k : Int) := by omega
          have i2' : (k : Int) < (n : Int) := by omega
          have HT := Lib.hid (take_snoc hx)
          have HBD := Lib.hid hbd
          have HS := Lib.hid hs
          have cb0 : (wr.alloc (.cells #[.int .i64 x.parent, .int .i64 x.height, .int .i64 x.work, .int .i64 x.nonce, .slice A3 n3 c3] 66)).cell? ⟨w.heap.size, 0, none⟩ = some (.slice (some ⟨b', off', none⟩) n c1) := by rw [blk_cell HBX.out]; rfl
          have cby : (wr.alloc (.cells #[.int .i64 x.parent, .int .i64 x.height, .int .i64 x.work, .int .i64 x.nonce, .slice A3 n3 c3] 66)).cell? ⟨b', off' + k, none⟩ = some (.int .i64 y) := by rw [World.cell?_alloc_lt wr _ _ (by have := hb.size; show b' < _; omega)]; exact hcy
          clear hx hrk hFb hb hbox hs hW hbxn hbd hy ea eb hcy
          by_cases hp : y < 1 ∨ 120 < y
          · have hs := HS.out
            rw [show treeStep ns bs k y x = 3 by simp only [treeStep]; rw [if_pos hp], if_pos (by decide)] at hs
            have HS' := Lib.hid hs
            clear HS hs
            rcases Classical.em (y < 1) with p1 | p1
            · clear hp
              go_wp2_with fail
              go_ret
              exact ⟨ret_int HS'.out, HW.out⟩
            · have p2 : 120 < y := by omega
              clear hp
              go_wp2_with fail
              go_ret
              exact ⟨ret_int HS'.out, HW.out⟩
          · have p1 : ¬ y < 1 := by omega
            have p2 : ¬ 120 < y := by omega
            have hs := HS.out
            rw [show treeStep ns bs k y x = (if blkCheck x ≠ 0 then blkCheck x else if memB (ns.take k) y = true then 6 else standsE ns bs x k) by simp only [treeStep]; rw [if_neg hp]] at hs
            have HS' := Lib.hid hs
            clear HS hs hp
            go_wp2_with fail
            generalize hW1 : wr.alloc (.cells #[.int .i64 x.parent, .int .i64 x.height, .int .i64 x.work, .int .i64 x.nonce, .slice A3 n3 c3] 66) = W1 at HW HRK HBX HNW cb0 cby ⊢
            have hsW : wr.heap.size < W1.heap.size := by rw [← hW1]; simp
            clear hW1 hc1' hc2' hc3' hc4' hc5' cb0 cby
            refine (blockCheck_any _ [_, _, _, _, _] _ _ HRK.out (fun b hb => hb)).mono ?_
            rintro e w2 ⟨rfl, hb2⟩
            have HW2 := Lib.hid (HW.out.trans (hb2.mono HW.out.size))
            have HBX2 := Lib.hid (blk_below HBX.out hb2 (by omega))
            have HNW2 := Lib.hid (blk_below HNW.out hb2 hsW)
            have HRK2 := Lib.hid (shBlock.more (F' := Lt w2.heap.size) (fun b hb => Nat.lt_of_lt_of_le hb hb2.size) (shBlock.keep (Agree.below hb2) HRK.out))
            clear hb2 HW HRK HBX HNW
            by_cases he : blkCheck x = 0
            · have hbx := blkCheck_height he
              have HBX' := Lib.hid hbx
              have hs := HS'.out
              rw [he, if_neg (show ¬ ((0 : Int) ≠ 0) by decide)] at hs
              rw [he]
              have HS := Lib.hid hs
              have b0 := blk_cell (i := 0) HBX2.out
              clear HS' he hs hbx
              go_wp2_with fail
              refine (contains_int (ns.take k) y _ k c1 w2 (Lt w2.heap.size) (((H1.out.take hk).keep ((Agree.below HW2.out).mono hF)).more fun b hb => Nat.lt_of_lt_of_le (hF b hb) HW2.out.size)).mono ?_
              rintro e w3 ⟨rfl, rfl⟩
              by_cases hm : memB (ns.take k) y = true
              · have hs := HS.out
                rw [if_pos hm, if_pos (by decide)] at hs
                rw [hm]
                have HS' := Lib.hid hs
                clear HS hs hm b0
                go_wp2_with fail
                go_ret
                exact ⟨ret_int HS'.out, HW2.out⟩
              · have hs := HS.out
                rw [if_neg hm] at hs
                have hm' : memB (ns.take k) y = false := by simpa using hm
                rw [hm']
                have HS' := Lib.hid hs
                have b1 := blk_cell (i := 1) HBX2.out
                have d0 := blk_cell (i := 0) HNW2.out
                have d1 := blk_cell (i := 1) HNW2.out
                have d2 := blk_cell (i := 2) HNW2.out
                have d3 := blk_cell (i := 3) HNW2.out
                have d4 := blk_cell (i := 4) HNW2.out
                clear HS hs hm hm'
                go_wp2_with fail
                refine (stands_any ns bs x [_, _, _, _, _] _ n c1 _ c2 k w2 (Lt w2.heap.size) ((H1.out.keep ((Agree.below HW2.out).mono hF)).more fun b hb => Nat.lt_of_lt_of_le (hF b hb) HW2.out.size) ((H2.out.keep ((Agree.below HW2.out).mono hF)).more fun b hb => Nat.lt_of_lt_of_le (hF b hb) HW2.out.size) HRK2.out (fun b hb => hb) hk HBD.out).mono ?_
                rintro e w4 ⟨rfl, hb4⟩
                have HW4 := Lib.hid (HW2.out.trans (hb4.mono HW2.out.size))
                have HBX4 := Lib.hid (blk_below HBX2.out hb4 (by have := blk_lt HBX2.out; exact this))
                clear hb4 HW2 HBX2 HNW2 HRK2 b0 b1 d0 d1 d2 d3 d4
                by_cases hst : standsE ns bs x k = 0
                · have hs := HS'.out
                  rw [hst, if_neg (by decide)] at hs
                  rw [hst]
                  have HS := Lib.hid hs
                  clear HS' hs hst
                  go_wp2_with fail
                  go_roundw
                  case measure => simp [intOf]; omega
                  case rel =>
                    refine ⟨k + 1, by omega, by go_num, HW4.out, HBX4.out, ?_, HS.out⟩
                    intro z hz
                    rw [HT.out] at hz
                    rcases List.mem_append.1 hz with h | h
                    · exact HBD.out z h
                    · simp at h; subst h; exact HBX'.out
                · have hs := HS'.out
                  rw [if_pos hst] at hs
                  have hd : (standsE ns bs x k != 0) = true := by simpa using hst
                  have HS := Lib.hid hs
                  clear HS' hs hst
                  go_wp2_with fail
                  go_ret
                  exact ⟨ret_int HS.out, HW4.out⟩
            · have hs := HS'.out
              rw [if_pos he, if_pos he] at hs
              have hd : (blkCheck x != 0) = true := by simpa using he
              have HS := Lib.hid hs
              clear HS' he hs
              go_wp2_with fail
              go_ret
              exact ⟨ret_int HS.out, HW2.out⟩
        · obtain rfl : n = k := by omega
          rw [Nat.sub_self, treeGo] at hs
          have HS := Lib.hid hs
          clear hs
          go_wp2
          go_ret
          exact ⟨ret_int HS.out, hb⟩
  · have e : treeCheck ⟨ns, bs⟩ = 4 := by simp only [treeCheck]; rw [if_pos (by omega)]
    rw [e]
    have q : ((n : Int) != (n2 : Int)) = true := by simp; omega
    clear e hl1 hl2 e1
    go_enter Try.func40, Try.ntmps40
    go_wp2
    go_ret
    exact ⟨rfl, HB.out⟩
end Go.Proofs.Ytnnbnjanekibpaa
