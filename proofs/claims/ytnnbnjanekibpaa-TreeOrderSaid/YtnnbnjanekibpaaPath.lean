/- Trees: the path up. -/
import Derived.Test.YtnnbnjanekibpaaTreeLaw
import Derived.Test.YtnnbnjanekibpaaReverse
namespace Go.Proofs.Ytnnbnjanekibpaa
open Go.RowKit
set_option linter.unusedVariables false
set_option maxRecDepth 100000


set_option maxHeartbeats 1000000 in
theorem path_any (ns : List Int) (bs : List Block) (m0 : Int) (A1 : Option Addr) (n c1 : Nat) (A2 : Option Addr) (c2 : Nat) (w : World) (F : Nat → Prop) (h1 : Rds shInt w F ns A1 n c1) (h2 : Rds shBlock w F bs A2 n c2)
    (hF : ∀ b, F b → b < w.heap.size) (ok : TreeOK ns bs) (hm0 : m0 = 0 ∨ 0 ≤ idx ns m0) :
    Calls Try.prog 77 #[.agg #[.slice A1 n c1, .slice A2 n c2], .int .i64 m0] w fun e w' => ∃ A n' c, e = .returned (.slice A n' c) ∧ Rds shInt w' (Mid w w') (pathL ns bs m0) A n' c ∧ Below w.heap.size w w' := by
  have hl1 := h1.1
  have hn1 := h1.2.1
  have hc1 := h1.2.2.1
  have hn2 := h2.2.1
  have hc2 := h2.2.2.1
  have hle : n ≤ 24 := by have := ok.le; omega
  have L1 := Lib.hid hl1
  have H1 := Lib.hid h1
  have H2 := Lib.hid h2
  have OK := Lib.hid ok
  have HM := Lib.hid hm0
  have HB := Lib.hid ((Below.refl w.heap.size w).alloc (Nat.le_refl _) (.cells #[.slice A1 n c1, .slice A2 n c2] 56))
  have HK := Lib.hid (heap_alloc_new w (.cells #[.slice A1 n c1, .slice A2 n c2] 56))
  obtain ⟨i0, zv, hi, hz0, hz1, hz2, hz3⟩ := int_info2
  clear h1 h2 ok hm0 hl1
  go_enter Try.func77, Try.ntmps77
  go_wp2
  go_loopw [1, 5] (fun nm o wr => ∃ (m : Int) (oo : List Int) (k f : Nat), nm = .int .i64 m ∧ k + f = n ∧ remN ns m ≤ f ∧ oo.length = k ∧ (m = 0 ∨ 0 ≤ idx ns m) ∧ (∀ x ∈ oo, I64 x) ∧ wr.ownsRow (w.heap.size + 1) 3 1 o k (oo.map (Value.int .i64)) ∧
    wr.heap[w.heap.size]? = some (.cells #[.slice A1 n c1, .slice A2 n c2] 56 (0, 0)) ∧ Below w.heap.size w wr ∧ oo ++ up ns bs f m = up ns bs n m0) (fun nm _ _ => remN ns (intOf nm))
  case atStart =>
    refine ⟨m0, [], 0, n, rfl, by omega, ?_, rfl, HM.out, by simp, World.ownsRow_nil _ _ _ _, HK.out, HB.out, rfl⟩
    unfold remN
    rcases HM.out with h | h
    · rw [if_pos h]; omega
    · obtain ⟨_, _, j, hj, he, _⟩ := OK.out.name h
      have := L1.out
      split <;> omega
  case round =>
    obtain ⟨m, oo, k, f, rfl, hkf, hrem, hok, hm, hob, hown, hbox, hb, hs⟩ := hrel
    have HOWN := Lib.hid hown
    have HBOX := Lib.hid hbox
    have Hb := Lib.hid hb
    have HS := Lib.hid hs
    have HOB := Lib.hid hob
    have HOK := Lib.hid hok
    have HREM := Lib.hid hrem
    have hwz := blk_lt hbox
    by_cases h0 : m = 0
    · have q : (m != 0) = false := by simp [h0]
      have e : oo = up ns bs n m0 := by
        rw [← hs, h0]
        cases f with
        | zero => simp [up]
        | succ f => simp [up]
      have HE := Lib.hid (show oo.reverse = pathL ns bs m0 by rw [e, pathL, L1.out])
      obtain ⟨A5, c5, ev, -⟩ := Rds.of_own_int hown hob
      subst ev
      clear hm h0 hs e hrem hok hob hown hbox hb
      go_wp2_with fail
      refine (reverse_own oo A5 k c5 (w.heap.size + 1) wr HOWN.out HOB.out (by omega)).mono ?_
      rintro e w2 ⟨rfl, hb2, hr2⟩
      rw [HE.out] at hr2
      have HR2 := Lib.hid hr2
      have HB2 := Lib.hid (Hb.out.trans (hb2.mono (by omega)))
      clear hb2 hr2
      go_wp2_with fail
      go_ret
      exact ⟨_, _, _, rfl, HR2.out.more (fun b hb => ⟨by have := hb.1; omega, hb.2⟩), HB2.out⟩
    · have q : (m != 0) = true := by simp [h0]
      have hm' : 0 ≤ idx ns m := by rcases hm with h | h; exact absurd h h0; exact h
      obtain ⟨b1, b2, j, hj, hjx, -, hp⟩ := OK.out.name hm'
      have hpos : 0 < remN ns m := by unfold remN; rw [if_neg h0]; omega
      obtain ⟨f, rfl⟩ : ∃ f', f = f' + 1 := ⟨f - 1, by omega⟩
      have hdec := OK.out.rem h0 hm'
      rw [up, if_neg h0] at hs
      obtain ⟨b, off, x, A5, n5, c5, rfl, hFb, hx, ⟨hc1', -, -, -, -⟩, -⟩ := H2.out.blk (show j < n by have := L1.out; omega)
      have hpx : parentOf ns bs m = x.parent := by unfold parentOf; rw [hjx]; simp [blkAt, hx]
      rw [hpx] at hs hdec hp
      have HS' := Lib.hid hs
      have HDEC := Lib.hid hdec
      have HP := Lib.hid hp
      have HJ := Lib.hid hjx
      have j1 : (0 : Int) ≤ (j : Int) := by omega
      have j2 : (j : Int) < (n : Int) := by have := L1.out; omega
      clear hm hm' hp hpos hdec hs HS hx hpx hjx h0 hrem hok hob hown hbox
      have hFw := hF b hFb
      go_wp2_with (at_builtin; refine wpList_append_own_at _ rfl _ _ 24 rfl (w.heap.size + 1) 3 i0 zv 1 8 Try.underlying24 hi hz0 hz1 hz2 hz3 (by omega) _ k (oo.map (Value.int .i64)) rfl (HOWN.out.alloc _) ⟨wr.heap.size, 0, none⟩ 1 1 [.int .i64 m] rfl rfl (cell_one_new _ _ _) (by intro u hu; simp at hu; subst hu; rfl) (by unfold maxLen; omega) (by omega) (by simp; omega) ?_; intro v5 w5 hown5 hgr5 _ hob5)
      have hgr : (wr.alloc (.cells #[.int .i64 m] 3)).grownBy w5 u5.ownBlock := hgr5
      have hge := fun k hk => own_ge HOWN.out (k := k) hk
      have hs5 := hgr.size
      simp only [World.size_alloc] at hs5
      have hb5 := (Hb.out.alloc Hb.out.size (.cells #[.int .i64 m] 3)).grown hgr (by have := Hb.out.size; simp; omega) (fun k hk => by have := hge _ hk; omega)
      have hbx5 := (block_append hgr hwz (fun e => by have := hge _ e; omega)).trans HBOX.out
      have T := Lib.hid (H1.out.keep ((Agree.below hb5).mono hF))
      have HB5 := Lib.hid hb5
      have HX5 := Lib.hid hbx5
      have HO5 := Lib.hid hown5
      rw [← hb5.cell (p := ⟨b, off + j * 5, none⟩) hFw] at hc1'
      have z0 := blk_cell (i := 0) hbx5
      have z1 := blk_cell (i := 1) hbx5
      clear hgr5 hob5 hgr hb5 hbx5 hown5
      have hidx := fun q => index_int_q ns m A1 n c1 (w5.drewN q) F T.out
      simp only [HJ.out] at hidx
      have HIDX := Lib.hid hidx
      clear hidx
      go_quiet ((go_at_call 50; exact Calls.quiet_of (HIDX.out _)))
      go_wp2_with fail
      go_roundw
      case measure => simpa [intOf] using HDEC.out
      case rel =>
        refine ⟨x.parent, oo ++ [m], k + 1, f, rfl, by omega, by have := HDEC.out; have := HREM.out; omega, by simp [HOK.out], ?_, ?_, ?_, ?_, ?_, ?_⟩
        · rcases HP.out with h | h
          · exact .inl h
          · exact .inr h.2.1
        · intro y hy
          rcases List.mem_append.1 hy with h | h
          · exact HOB.out y h
          · simp at h; subst h; exact ⟨by omega, by omega⟩
        · rw [List.map_append]; exact HO5.out
        · exact HX5.out
        · exact below_drewN HB5.out _
        · rw [List.append_assoc]; exact HS'.out
end Go.Proofs.Ytnnbnjanekibpaa
