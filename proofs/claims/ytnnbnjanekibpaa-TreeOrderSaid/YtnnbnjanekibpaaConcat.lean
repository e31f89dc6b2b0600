/- Go's slices.Grow of nil and slices.Concat at each element type: contracts by walks (printed by gen_slices.py). -/
import Derived.Test.YtnnbnjanekibpaaAppend
namespace Go.Proofs.Ytnnbnjanekibpaa
open Go.RowKit
set_option linter.unusedVariables false
set_option maxRecDepth 100000


theorem grow_str (k : Nat) (w : World) (hk : k ≤ 1000000) :
    Calls Try.prog 109 #[.slice none 0 0, .int .i64 k] w fun e w' => ∃ v, e = .returned v ∧ w'.ownsRow w.heap.size 9 1 v 0 [] ∧ Below w.heap.size w w' := by
  obtain ⟨i0, zv, hi, hz0, hz1, hz2, hz3⟩ : ∃ i z, Try.prog.info? 9 = some i ∧ i.zero = some z ∧ i.size = 1 ∧ i.bytes = 16 ∧ z.cells.size = 1 := by
    have h1 : (Try.prog.info? 9).map (fun i => (i.zero.map (·.cells.size), i.size, i.bytes)) = some (some 1, 1, 16) := by kernel_rfl
    match hh : Try.prog.info? 9, h1 with
    | some i, h1 =>
      simp only [Option.map_some, Option.some.injEq, Prod.mk.injEq] at h1
      match hz : i.zero, h1 with
      | some z, h1 => exact ⟨i, z, rfl, hz, h1.2.1, h1.2.2, by simpa using h1.1⟩
  rcases Nat.eq_zero_or_pos k with h0 | h0
  · have h0' : (k : Int) ≤ 0 := by omega
    clear h0
    go_enter Try.func109, Try.ntmps109
    go_wp2
    go_ret
    exact ⟨_, rfl, World.ownsRow_nil _ _ _ _, Below.refl _ _⟩
  · have h0' : (0 : Int) < (k : Int) := by omega
    have hrun := Lib.run_append_grow_zeros (P := Try.prog) w 37 3 37 9 i0 zv .i64 .i64 Try.underlying37 Try.underlying3 hi hz0 none 0 0 [] (by simp [Builtin.firstCells]) k h0 (by omega) (by omega) (by omega) (by rw [hz2]; omega) (by
      have : Builtin.nextslicecap (0 + k) 0 = k := by unfold Builtin.nextslicecap; rw [if_pos (by omega)]; omega
      rw [this, hz2]; omega)
    have hg := grownCap_ge w (0 + k) 0 9
    have hg2 := grownCap_le_maxLen w (0 + k) 0 9 (by unfold maxLen; omega)
    simp only [Nat.zero_add] at hrun hg hg2
    generalize hG : grownCap w k 0 9 = G at hrun hg hg2
    clear hG
    generalize hC : (List.toArray (α := Value) [] ++ Builtin.zeroCells zv.cells k ++ Builtin.zeroCells zv.cells (G - k)) = C at hrun
    have hCs : C.size = G * 1 := by
      rw [← hC]
      simp only [Array.size_append, List.size_toArray, List.length_nil, size_zeroCells, hz3]
      rw [Nat.zero_add, ← Nat.add_mul]; congr 1; omega
    clear hC hi hz0 hz1 hz2 hz3
    have hgI : (0 : Int) ≤ (G : Int) := by omega
    have HRUN := Lib.hid hrun
    clear hrun
    go_enter Try.func109, Try.ntmps109
    go_wp2_with (at_builtin; refine wpList_append_run rfl _ _ _ _ rfl _ _ rfl rfl HRUN.out ?_)
    go_ret
    refine ⟨_, rfl, ⟨by simp, .inr ⟨w.heap.size, G, C, rfl, Nat.le_refl _, heap_alloc_new w.drew _, by omega, hg2, hCs, by simp⟩⟩, ?_⟩
    exact (Below.refl _ _).drew.alloc (Nat.le_refl _) _
theorem concat_str (xss : List (List (List UInt8))) (A : Option Addr) (n c : Nat) (w : World) (F : Nat → Prop) (h : Rds (shSlice shStr) w F xss A n c) (hF : ∀ b, F b → b < w.heap.size) (hn : total xss ≤ 1000000) :
    Calls Try.prog 75 #[.slice A n c] w (Cloned shStr 9 w F xss.flatten (total xss)) := by
  have hnc := h.2.1
  have hcc := h.2.2.1
  have hxl := h.1
  obtain ⟨i0, zv, hi, hz0, hz1, hz2, hz3⟩ : ∃ i z, Try.prog.info? 9 = some i ∧ i.zero = some z ∧ i.size = 1 ∧ i.bytes = 16 ∧ z.cells.size = 1 := by
    have h1 : (Try.prog.info? 9).map (fun i => (i.zero.map (·.cells.size), i.size, i.bytes)) = some (some 1, 1, 16) := by kernel_rfl
    match hh : Try.prog.info? 9, h1 with
    | some i, h1 =>
      simp only [Option.map_some, Option.some.injEq, Prod.mk.injEq] at h1
      match hz : i.zero, h1 with
      | some z, h1 => exact ⟨i, z, rfl, hz, h1.2.1, h1.2.2, by simpa using h1.1⟩
  have H := Lib.hid h
  clear h
  go_enter Try.func75, Try.ntmps75
  go_wp2
  go_loop [3, 5, 11] (fun s _ i => ∃ k : Nat, k ≤ n ∧ i = .int .i64 k ∧ s = .int .i64 (total (xss.take k) : Nat)) (fun _ _ i => n - (intOf i).toNat)
  case atStart => exact ⟨0, by omega, rfl, by simp [total]⟩
  case round =>
    obtain ⟨k, hk, rfl, rfl⟩ := hrel
    have ht := total_take_le xss k
    by_cases hlt : k < n
    · obtain ⟨b, off, xs, A', n', c', rfl, hFb, hx, hcell, hr'⟩ := rds_at H.out hlt
      have htt := total_take hx
      have ht2 := total_take_le xss (k + 1)
      have hl' := hr'.1
      have HL := Lib.hid hl'
      have HT := Lib.hid htt
      have hb1 : total (xss.take k) + n' ≤ 1000000 := by omega
      clear htt hx ht2 hr' hl'
      have hl2 := hlt
      go_wp2
      go_round
      case measure => simp [intOf]; omega
      case rel => exact ⟨k + 1, by omega, by go_num, by rw [HT.out, ← HL.out]; rfl⟩
    · obtain rfl : k = n := by omega
      have e : xss.take k = xss := List.take_of_length_le (by omega)
      rw [e] at ht ⊢
      have HX := Lib.hid hxl
      clear e hlt hxl ht
      have h00 : (0 : Int) ≤ (total xss : Int) := by omega
      go_wp2_with fail
      refine (grow_str _ _ hn).mono ?_; rintro e w1 ⟨v1, rfl, hown1, hb1⟩
      have HO1 := Lib.hid hown1
      have HB1 := Lib.hid hb1
      clear hown1 hb1
      go_wp2_with fail
      go_loopw [6, 8, 27] (fun s _ i wr => ∃ (k' : Nat) (zs : List ((List UInt8) × List Value)), k' ≤ k ∧ i = .int .i64 k' ∧ zs.map (·.1) = (xss.take k').flatten ∧ (∀ z ∈ zs, (shStr).rep w F z.1 z.2) ∧ wr.ownsRow w.heap.size 9 (shStr).size s (total (xss.take k')) (flat zs) ∧ Below w.heap.size w wr) (fun _ _ i _ => k - (intOf i).toNat)
      case atStart => exact ⟨0, [], by omega, rfl, rfl, by simp, HO1.out, HB1.out⟩
      case round =>
        obtain ⟨k', zs, hk', rfl, z1, z2, hown, hb⟩ := hrel
        by_cases hlt : k' < k
        · obtain ⟨b, off, xs, A', n', c', rfl, hFb, hx, hcell, hr'⟩ := rds_at H.out hlt
          rw [← hb.cell (p := ⟨b, off + k', none⟩) (hF b hFb)] at hcell
          have htt := total_take hx
          have ht2 := total_take_le xss (k' + 1)
          have hb1 : total (xss.take k') + n' ≤ 1000000 := by have := hr'.1; omega
          have HR := Lib.hid (hr'.keep ((Agree.below hb).mono hF))
          have HT := Lib.hid htt
          have HX2 := Lib.hid hx
          have HO := Lib.hid hown
          have HB := Lib.hid hb
          have Z1 := Lib.hid z1
          have Z2 := Lib.hid z2
          clear hr' htt hx hown hb z1 z2 ht2
          go_wp2_with (at_builtin; refine wpList_append_rds _ rfl _ _ 37 rfl ones_str w.heap.size 9 i0 zv 16 Try.underlying37 hi hz0 hz1 hz2 hz3 (by decide) _ (total (xss.take k')) (flat zs) rfl HO.out rfl HR.out (by unfold maxLen; omega) (by omega) HB.out.size ?_; intro v2 w2 ys y1 y2 hown2 hgr2 _)
          go_roundw
          case measure => simp [intOf]; omega
          case rel =>
            have hl2 := HR.out.1
            refine ⟨k' + 1, zs ++ ys, by omega, by go_num, ?_, ?_, ?_, HB.out.grown hgr2 HB.out.size (fun j hj => own_ge HO.out hj)⟩
            · rw [List.map_append, Z1.out, y1, take_snoc HX2.out, List.flatten_append]; simp
            · intro z hz
              rcases List.mem_append.1 hz with h | h
              · exact Z2.out z h
              · exact (shStr).keep (fun b hb => (HB.out.block b (hF b hb)).symm) (y2 z h)
            · rw [HT.out, hl2, flat_append]; exact hown2
        · obtain rfl : k' = k := by omega
          rw [List.take_of_length_le (by rw [HX.out]; omega)] at z1 hown
          have HO := Lib.hid hown
          have Z1 := Lib.hid z1
          have Z2 := Lib.hid z2
          clear hown z1 z2
          go_wp2
          go_ret
          exact ⟨_, zs, rfl, Z1.out, Z2.out, HO.out, hb⟩































































































































































































































































































































































































end Go.Proofs.Ytnnbnjanekibpaa
