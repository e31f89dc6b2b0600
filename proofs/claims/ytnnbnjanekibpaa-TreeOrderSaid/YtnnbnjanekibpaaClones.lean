/- Go's slices.Clone at each element type: contracts by walks (printed by gen_slices.py). -/
import Derived.Test.YtnnbnjanekibpaaProg
import Derived.Test.YtnnbnjanekibpaaOwn
import Derived.Maps.AppendAt
import Derived.Lib.SliceRun
namespace Go.Proofs.Ytnnbnjanekibpaa
open Go.RowKit
set_option linter.unusedVariables false
set_option maxRecDepth 100000

theorem add_mk (b off k : Nat) : (Addr.mk b off none).add k = ⟨b, off + k, none⟩ := by unfold Addr.add; split <;> simp_all
theorem ownsRow_empty (w : World) (e s : Nat) : (w.alloc (.cells #[] e)).ownsRow w.heap.size e s (.slice (some ⟨w.heap.size, 0, none⟩) 0 0) 0 [] :=
  ⟨by simp, .inr ⟨w.heap.size, 0, #[], rfl, Nat.le_refl _, heap_alloc_new w _, Nat.le_refl _, by unfold maxLen; omega, by simp, by simp⟩⟩
/-- What a copy of a slice is. -/
def Cloned {α : Type} (S : Sh α) (e : Nat) (w : World) (F : Nat → Prop) (xs : List α) (n : Nat) (r : Ending) (w' : World) : Prop :=
  ∃ (v : Value) (zs : List (α × List Value)), r = .returned v ∧ zs.map (·.1) = xs ∧ (∀ z ∈ zs, S.rep w F z.1 z.2) ∧ w'.ownsRow w.heap.size e S.size v n (flat zs) ∧ Below w.heap.size w w'


theorem clone_int (xs : List (Int)) (A : Option Addr) (n c : Nat) (w : World) (F : Nat → Prop) (h : Rds shInt w F xs A n c) (hF : ∀ b, F b → b < w.heap.size) (hn : n * 8 ≤ 140737488355328) :
    Calls Try.prog 87 #[.slice A n c] w (Cloned shInt 3 w F xs n) := by
  have hq := fun (W : World) => Lib.run_eql_slice_nil (P := Try.prog) W 24 3 A n c 0 0 Try.underlying24
  cases A with
  | none =>
    have h0 : n = 0 := by
      rcases Nat.eq_zero_or_pos n with h0 | h0
      · exact h0
      · obtain ⟨b, off, e, _⟩ := h.2.2.2 h0; cases e
    subst h0
    have hx : xs = [] := List.eq_nil_of_length_eq_zero h.1
    subst hx
    go_enter Try.func87, Try.ntmps87
    go_wp2
    go_ret
    exact ⟨_, [], rfl, rfl, by simp, World.ownsRow_nil _ _ _ _, Below.refl _ _⟩
  | some ad =>
    obtain ⟨zs, z1, z2, z3⟩ := h.pairs
    have hl : zs.length = n := by have := congrArg List.length z1; simp at this; have := h.1; omega
    have hfl : (flat zs).length = n * 1 := by rw [flat_length (fun z hz => shInt.len (z2 z hz)), hl]; rfl
    have hnews : ∀ j u, (flat zs)[j]? = some u → (w.alloc (.cells #[] 3)).cell? (ad.add j) = some u := by
      intro j u hj
      have hj' := (List.getElem?_eq_some_iff.1 hj).1
      obtain ⟨b, off, e, hFb, hc⟩ := z3 (by omega)
      injection e with e
      subst e
      rw [add_mk, World.cell?_alloc_lt w _ _ (hF b hFb)]
      exact hc j u hj
    have H1 := Lib.hid (ones_flat ones_int z2)
    have HN := Lib.hid hnews
    have HL := Lib.hid hfl
    have Z1 := Lib.hid z1
    have HZ := Lib.hid hl
    obtain ⟨i0, zv, hi, hz0, hz1, hz2, hz3⟩ : ∃ i z, Try.prog.info? 3 = some i ∧ i.zero = some z ∧ i.size = 1 ∧ i.bytes = 8 ∧ z.cells.size = 1 := by
      have h1 : (Try.prog.info? 3).map (fun i => (i.zero.map (·.cells.size), i.size, i.bytes)) = some (some 1, 1, 8) := by kernel_rfl
      match hh : Try.prog.info? 3, h1 with
      | some i, h1 =>
        simp only [Option.map_some, Option.some.injEq, Prod.mk.injEq] at h1
        match hz : i.zero, h1 with
        | some z, h1 => exact ⟨i, z, rfl, hz, h1.2.1, h1.2.2, by simpa using h1.1⟩
    clear hnews hfl h z1 hl z3
    go_enter Try.func87, Try.ntmps87
    go_wp2_with (at_builtin; refine wpList_append_own_at _ rfl _ _ 24 rfl w.heap.size 3 i0 zv 1 8 Try.underlying24 hi hz0 hz1 hz2 hz3 (by omega) _ 0 [] rfl (ownsRow_empty w _ _) ad n c (flat zs) rfl HL.out HN.out H1.out (by unfold maxLen; omega) (by rw [Nat.zero_add]; exact hn) (by simp) ?_; intro v' w1 hown hgr _ _)
    go_ret
    rw [Nat.zero_add, List.nil_append] at hown
    refine ⟨v', zs, rfl, Z1.out, z2, hown, ?_⟩
    exact ((Below.refl _ _).alloc (Nat.le_refl _) _).grown hgr (by simp) (fun k hk => by injection hk with hk; exact Nat.le_of_eq hk)


theorem clone_str (xs : List (List UInt8)) (A : Option Addr) (n c : Nat) (w : World) (F : Nat → Prop) (h : Rds shStr w F xs A n c) (hF : ∀ b, F b → b < w.heap.size) (hn : n * 16 ≤ 140737488355328) :
    Calls Try.prog 73 #[.slice A n c] w (Cloned shStr 9 w F xs n) := by
  have hq := fun (W : World) => Lib.run_eql_slice_nil (P := Try.prog) W 37 9 A n c 0 0 Try.underlying37
  cases A with
  | none =>
    have h0 : n = 0 := by
      rcases Nat.eq_zero_or_pos n with h0 | h0
      · exact h0
      · obtain ⟨b, off, e, _⟩ := h.2.2.2 h0; cases e
    subst h0
    have hx : xs = [] := List.eq_nil_of_length_eq_zero h.1
    subst hx
    go_enter Try.func73, Try.ntmps73
    go_wp2
    go_ret
    exact ⟨_, [], rfl, rfl, by simp, World.ownsRow_nil _ _ _ _, Below.refl _ _⟩
  | some ad =>
    obtain ⟨zs, z1, z2, z3⟩ := h.pairs
    have hl : zs.length = n := by have := congrArg List.length z1; simp at this; have := h.1; omega
    have hfl : (flat zs).length = n * 1 := by rw [flat_length (fun z hz => shStr.len (z2 z hz)), hl]; rfl
    have hnews : ∀ j u, (flat zs)[j]? = some u → (w.alloc (.cells #[] 9)).cell? (ad.add j) = some u := by
      intro j u hj
      have hj' := (List.getElem?_eq_some_iff.1 hj).1
      obtain ⟨b, off, e, hFb, hc⟩ := z3 (by omega)
      injection e with e
      subst e
      rw [add_mk, World.cell?_alloc_lt w _ _ (hF b hFb)]
      exact hc j u hj
    have H1 := Lib.hid (ones_flat ones_str z2)
    have HN := Lib.hid hnews
    have HL := Lib.hid hfl
    have Z1 := Lib.hid z1
    have HZ := Lib.hid hl
    obtain ⟨i0, zv, hi, hz0, hz1, hz2, hz3⟩ : ∃ i z, Try.prog.info? 9 = some i ∧ i.zero = some z ∧ i.size = 1 ∧ i.bytes = 16 ∧ z.cells.size = 1 := by
      have h1 : (Try.prog.info? 9).map (fun i => (i.zero.map (·.cells.size), i.size, i.bytes)) = some (some 1, 1, 16) := by kernel_rfl
      match hh : Try.prog.info? 9, h1 with
      | some i, h1 =>
        simp only [Option.map_some, Option.some.injEq, Prod.mk.injEq] at h1
        match hz : i.zero, h1 with
        | some z, h1 => exact ⟨i, z, rfl, hz, h1.2.1, h1.2.2, by simpa using h1.1⟩
    clear hnews hfl h z1 hl z3
    go_enter Try.func73, Try.ntmps73
    go_wp2_with (at_builtin; refine wpList_append_own_at _ rfl _ _ 37 rfl w.heap.size 9 i0 zv 1 16 Try.underlying37 hi hz0 hz1 hz2 hz3 (by omega) _ 0 [] rfl (ownsRow_empty w _ _) ad n c (flat zs) rfl HL.out HN.out H1.out (by unfold maxLen; omega) (by rw [Nat.zero_add]; exact hn) (by simp) ?_; intro v' w1 hown hgr _ _)
    go_ret
    rw [Nat.zero_add, List.nil_append] at hown
    refine ⟨v', zs, rfl, Z1.out, z2, hown, ?_⟩
    exact ((Below.refl _ _).alloc (Nat.le_refl _) _).grown hgr (by simp) (fun k hk => by injection hk with hk; exact Nat.le_of_eq hk)


theorem clone_op (xs : List (Op)) (A : Option Addr) (n c : Nat) (w : World) (F : Nat → Prop) (h : Rds shOp w F xs A n c) (hF : ∀ b, F b → b < w.heap.size) (hn : n * 16 ≤ 140737488355328) :
    Calls Try.prog 95 #[.slice A n c] w (Cloned shOp 108 w F xs n) := by
  have hq := fun (W : World) => Lib.run_eql_slice_nil (P := Try.prog) W 89 108 A n c 0 0 Try.underlying89
  cases A with
  | none =>
    have h0 : n = 0 := by
      rcases Nat.eq_zero_or_pos n with h0 | h0
      · exact h0
      · obtain ⟨b, off, e, _⟩ := h.2.2.2 h0; cases e
    subst h0
    have hx : xs = [] := List.eq_nil_of_length_eq_zero h.1
    subst hx
    go_enter Try.func95, Try.ntmps95
    go_wp2
    go_ret
    exact ⟨_, [], rfl, rfl, by simp, World.ownsRow_nil _ _ _ _, Below.refl _ _⟩
  | some ad =>
    obtain ⟨zs, z1, z2, z3⟩ := h.pairs
    have hl : zs.length = n := by have := congrArg List.length z1; simp at this; have := h.1; omega
    have hfl : (flat zs).length = n * 2 := by rw [flat_length (fun z hz => shOp.len (z2 z hz)), hl]; rfl
    have hnews : ∀ j u, (flat zs)[j]? = some u → (w.alloc (.cells #[] 108)).cell? (ad.add j) = some u := by
      intro j u hj
      have hj' := (List.getElem?_eq_some_iff.1 hj).1
      obtain ⟨b, off, e, hFb, hc⟩ := z3 (by omega)
      injection e with e
      subst e
      rw [add_mk, World.cell?_alloc_lt w _ _ (hF b hFb)]
      exact hc j u hj
    have H1 := Lib.hid (ones_flat ones_op z2)
    have HN := Lib.hid hnews
    have HL := Lib.hid hfl
    have Z1 := Lib.hid z1
    have HZ := Lib.hid hl
    obtain ⟨i0, zv, hi, hz0, hz1, hz2, hz3⟩ : ∃ i z, Try.prog.info? 108 = some i ∧ i.zero = some z ∧ i.size = 2 ∧ i.bytes = 16 ∧ z.cells.size = 2 := by
      have h1 : (Try.prog.info? 108).map (fun i => (i.zero.map (·.cells.size), i.size, i.bytes)) = some (some 2, 2, 16) := by kernel_rfl
      match hh : Try.prog.info? 108, h1 with
      | some i, h1 =>
        simp only [Option.map_some, Option.some.injEq, Prod.mk.injEq] at h1
        match hz : i.zero, h1 with
        | some z, h1 => exact ⟨i, z, rfl, hz, h1.2.1, h1.2.2, by simpa using h1.1⟩
    clear hnews hfl h z1 hl z3
    go_enter Try.func95, Try.ntmps95
    go_wp2_with (at_builtin; refine wpList_append_own_at _ rfl _ _ 89 rfl w.heap.size 108 i0 zv 2 16 Try.underlying89 hi hz0 hz1 hz2 hz3 (by omega) _ 0 [] rfl (ownsRow_empty w _ _) ad n c (flat zs) rfl HL.out HN.out H1.out (by unfold maxLen; omega) (by rw [Nat.zero_add]; exact hn) (by simp) ?_; intro v' w1 hown hgr _ _)
    go_ret
    rw [Nat.zero_add, List.nil_append] at hown
    refine ⟨v', zs, rfl, Z1.out, z2, hown, ?_⟩
    exact ((Below.refl _ _).alloc (Nat.le_refl _) _).grown hgr (by simp) (fun k hk => by injection hk with hk; exact Nat.le_of_eq hk)


theorem clone_in (xs : List (In)) (A : Option Addr) (n c : Nat) (w : World) (F : Nat → Prop) (h : Rds shIn w F xs A n c) (hF : ∀ b, F b → b < w.heap.size) (hn : n * 40 ≤ 140737488355328) :
    Calls Try.prog 125 #[.slice A n c] w (Cloned shIn 91 w F xs n) := by
  have hq := fun (W : World) => Lib.run_eql_slice_nil (P := Try.prog) W 78 91 A n c 0 0 Try.underlying78
  cases A with
  | none =>
    have h0 : n = 0 := by
      rcases Nat.eq_zero_or_pos n with h0 | h0
      · exact h0
      · obtain ⟨b, off, e, _⟩ := h.2.2.2 h0; cases e
    subst h0
    have hx : xs = [] := List.eq_nil_of_length_eq_zero h.1
    subst hx
    go_enter Try.func125, Try.ntmps125
    go_wp2
    go_ret
    exact ⟨_, [], rfl, rfl, by simp, World.ownsRow_nil _ _ _ _, Below.refl _ _⟩
  | some ad =>
    obtain ⟨zs, z1, z2, z3⟩ := h.pairs
    have hl : zs.length = n := by have := congrArg List.length z1; simp at this; have := h.1; omega
    have hfl : (flat zs).length = n * 3 := by rw [flat_length (fun z hz => shIn.len (z2 z hz)), hl]; rfl
    have hnews : ∀ j u, (flat zs)[j]? = some u → (w.alloc (.cells #[] 91)).cell? (ad.add j) = some u := by
      intro j u hj
      have hj' := (List.getElem?_eq_some_iff.1 hj).1
      obtain ⟨b, off, e, hFb, hc⟩ := z3 (by omega)
      injection e with e
      subst e
      rw [add_mk, World.cell?_alloc_lt w _ _ (hF b hFb)]
      exact hc j u hj
    have H1 := Lib.hid (ones_flat ones_in z2)
    have HN := Lib.hid hnews
    have HL := Lib.hid hfl
    have Z1 := Lib.hid z1
    have HZ := Lib.hid hl
    obtain ⟨i0, zv, hi, hz0, hz1, hz2, hz3⟩ : ∃ i z, Try.prog.info? 91 = some i ∧ i.zero = some z ∧ i.size = 3 ∧ i.bytes = 40 ∧ z.cells.size = 3 := by
      have h1 : (Try.prog.info? 91).map (fun i => (i.zero.map (·.cells.size), i.size, i.bytes)) = some (some 3, 3, 40) := by kernel_rfl
      match hh : Try.prog.info? 91, h1 with
      | some i, h1 =>
        simp only [Option.map_some, Option.some.injEq, Prod.mk.injEq] at h1
        match hz : i.zero, h1 with
        | some z, h1 => exact ⟨i, z, rfl, hz, h1.2.1, h1.2.2, by simpa using h1.1⟩
    clear hnews hfl h z1 hl z3
    go_enter Try.func125, Try.ntmps125
    go_wp2_with (at_builtin; refine wpList_append_own_at _ rfl _ _ 78 rfl w.heap.size 91 i0 zv 3 40 Try.underlying78 hi hz0 hz1 hz2 hz3 (by omega) _ 0 [] rfl (ownsRow_empty w _ _) ad n c (flat zs) rfl HL.out HN.out H1.out (by unfold maxLen; omega) (by rw [Nat.zero_add]; exact hn) (by simp) ?_; intro v' w1 hown hgr _ _)
    go_ret
    rw [Nat.zero_add, List.nil_append] at hown
    refine ⟨v', zs, rfl, Z1.out, z2, hown, ?_⟩
    exact ((Below.refl _ _).alloc (Nat.le_refl _) _).grown hgr (by simp) (fun k hk => by injection hk with hk; exact Nat.le_of_eq hk)


theorem clone_out (xs : List (Out)) (A : Option Addr) (n c : Nat) (w : World) (F : Nat → Prop) (h : Rds shOut w F xs A n c) (hF : ∀ b, F b → b < w.heap.size) (hn : n * 32 ≤ 140737488355328) :
    Calls Try.prog 126 #[.slice A n c] w (Cloned shOut 98 w F xs n) := by
  have hq := fun (W : World) => Lib.run_eql_slice_nil (P := Try.prog) W 79 98 A n c 0 0 Try.underlying79
  cases A with
  | none =>
    have h0 : n = 0 := by
      rcases Nat.eq_zero_or_pos n with h0 | h0
      · exact h0
      · obtain ⟨b, off, e, _⟩ := h.2.2.2 h0; cases e
    subst h0
    have hx : xs = [] := List.eq_nil_of_length_eq_zero h.1
    subst hx
    go_enter Try.func126, Try.ntmps126
    go_wp2
    go_ret
    exact ⟨_, [], rfl, rfl, by simp, World.ownsRow_nil _ _ _ _, Below.refl _ _⟩
  | some ad =>
    obtain ⟨zs, z1, z2, z3⟩ := h.pairs
    have hl : zs.length = n := by have := congrArg List.length z1; simp at this; have := h.1; omega
    have hfl : (flat zs).length = n * 2 := by rw [flat_length (fun z hz => shOut.len (z2 z hz)), hl]; rfl
    have hnews : ∀ j u, (flat zs)[j]? = some u → (w.alloc (.cells #[] 98)).cell? (ad.add j) = some u := by
      intro j u hj
      have hj' := (List.getElem?_eq_some_iff.1 hj).1
      obtain ⟨b, off, e, hFb, hc⟩ := z3 (by omega)
      injection e with e
      subst e
      rw [add_mk, World.cell?_alloc_lt w _ _ (hF b hFb)]
      exact hc j u hj
    have H1 := Lib.hid (ones_flat ones_out z2)
    have HN := Lib.hid hnews
    have HL := Lib.hid hfl
    have Z1 := Lib.hid z1
    have HZ := Lib.hid hl
    obtain ⟨i0, zv, hi, hz0, hz1, hz2, hz3⟩ : ∃ i z, Try.prog.info? 98 = some i ∧ i.zero = some z ∧ i.size = 2 ∧ i.bytes = 32 ∧ z.cells.size = 2 := by
      have h1 : (Try.prog.info? 98).map (fun i => (i.zero.map (·.cells.size), i.size, i.bytes)) = some (some 2, 2, 32) := by kernel_rfl
      match hh : Try.prog.info? 98, h1 with
      | some i, h1 =>
        simp only [Option.map_some, Option.some.injEq, Prod.mk.injEq] at h1
        match hz : i.zero, h1 with
        | some z, h1 => exact ⟨i, z, rfl, hz, h1.2.1, h1.2.2, by simpa using h1.1⟩
    clear hnews hfl h z1 hl z3
    go_enter Try.func126, Try.ntmps126
    go_wp2_with (at_builtin; refine wpList_append_own_at _ rfl _ _ 79 rfl w.heap.size 98 i0 zv 2 32 Try.underlying79 hi hz0 hz1 hz2 hz3 (by omega) _ 0 [] rfl (ownsRow_empty w _ _) ad n c (flat zs) rfl HL.out HN.out H1.out (by unfold maxLen; omega) (by rw [Nat.zero_add]; exact hn) (by simp) ?_; intro v' w1 hown hgr _ _)
    go_ret
    rw [Nat.zero_add, List.nil_append] at hown
    refine ⟨v', zs, rfl, Z1.out, z2, hown, ?_⟩
    exact ((Below.refl _ _).alloc (Nat.le_refl _) _).grown hgr (by simp) (fun k hk => by injection hk with hk; exact Nat.le_of_eq hk)


theorem clone_tx (xs : List (Tx)) (A : Option Addr) (n c : Nat) (w : World) (F : Nat → Prop) (h : Rds shTx w F xs A n c) (hF : ∀ b, F b → b < w.heap.size) (hn : n * 56 ≤ 140737488355328) :
    Calls Try.prog 111 #[.slice A n c] w (Cloned shTx 81 w F xs n) := by
  have hq := fun (W : World) => Lib.run_eql_slice_nil (P := Try.prog) W 64 81 A n c 0 0 Try.underlying64
  cases A with
  | none =>
    have h0 : n = 0 := by
      rcases Nat.eq_zero_or_pos n with h0 | h0
      · exact h0
      · obtain ⟨b, off, e, _⟩ := h.2.2.2 h0; cases e
    subst h0
    have hx : xs = [] := List.eq_nil_of_length_eq_zero h.1
    subst hx
    go_enter Try.func111, Try.ntmps111
    go_wp2
    go_ret
    exact ⟨_, [], rfl, rfl, by simp, World.ownsRow_nil _ _ _ _, Below.refl _ _⟩
  | some ad =>
    obtain ⟨zs, z1, z2, z3⟩ := h.pairs
    have hl : zs.length = n := by have := congrArg List.length z1; simp at this; have := h.1; omega
    have hfl : (flat zs).length = n * 3 := by rw [flat_length (fun z hz => shTx.len (z2 z hz)), hl]; rfl
    have hnews : ∀ j u, (flat zs)[j]? = some u → (w.alloc (.cells #[] 81)).cell? (ad.add j) = some u := by
      intro j u hj
      have hj' := (List.getElem?_eq_some_iff.1 hj).1
      obtain ⟨b, off, e, hFb, hc⟩ := z3 (by omega)
      injection e with e
      subst e
      rw [add_mk, World.cell?_alloc_lt w _ _ (hF b hFb)]
      exact hc j u hj
    have H1 := Lib.hid (ones_flat ones_tx z2)
    have HN := Lib.hid hnews
    have HL := Lib.hid hfl
    have Z1 := Lib.hid z1
    have HZ := Lib.hid hl
    obtain ⟨i0, zv, hi, hz0, hz1, hz2, hz3⟩ : ∃ i z, Try.prog.info? 81 = some i ∧ i.zero = some z ∧ i.size = 3 ∧ i.bytes = 56 ∧ z.cells.size = 3 := by
      have h1 : (Try.prog.info? 81).map (fun i => (i.zero.map (·.cells.size), i.size, i.bytes)) = some (some 3, 3, 56) := by kernel_rfl
      match hh : Try.prog.info? 81, h1 with
      | some i, h1 =>
        simp only [Option.map_some, Option.some.injEq, Prod.mk.injEq] at h1
        match hz : i.zero, h1 with
        | some z, h1 => exact ⟨i, z, rfl, hz, h1.2.1, h1.2.2, by simpa using h1.1⟩
    clear hnews hfl h z1 hl z3
    go_enter Try.func111, Try.ntmps111
    go_wp2_with (at_builtin; refine wpList_append_own_at _ rfl _ _ 64 rfl w.heap.size 81 i0 zv 3 56 Try.underlying64 hi hz0 hz1 hz2 hz3 (by omega) _ 0 [] rfl (ownsRow_empty w _ _) ad n c (flat zs) rfl HL.out HN.out H1.out (by unfold maxLen; omega) (by rw [Nat.zero_add]; exact hn) (by simp) ?_; intro v' w1 hown hgr _ _)
    go_ret
    rw [Nat.zero_add, List.nil_append] at hown
    refine ⟨v', zs, rfl, Z1.out, z2, hown, ?_⟩
    exact ((Below.refl _ _).alloc (Nat.le_refl _) _).grown hgr (by simp) (fun k hk => by injection hk with hk; exact Nat.le_of_eq hk)


theorem clone_block (xs : List (Block)) (A : Option Addr) (n c : Nat) (w : World) (F : Nat → Prop) (h : Rds shBlock w F xs A n c) (hF : ∀ b, F b → b < w.heap.size) (hn : n * 56 ≤ 140737488355328) :
    Calls Try.prog 88 #[.slice A n c] w (Cloned shBlock 66 w F xs n) := by
  have hq := fun (W : World) => Lib.run_eql_slice_nil (P := Try.prog) W 54 66 A n c 0 0 Try.underlying54
  cases A with
  | none =>
    have h0 : n = 0 := by
      rcases Nat.eq_zero_or_pos n with h0 | h0
      · exact h0
      · obtain ⟨b, off, e, _⟩ := h.2.2.2 h0; cases e
    subst h0
    have hx : xs = [] := List.eq_nil_of_length_eq_zero h.1
    subst hx
    go_enter Try.func88, Try.ntmps88
    go_wp2
    go_ret
    exact ⟨_, [], rfl, rfl, by simp, World.ownsRow_nil _ _ _ _, Below.refl _ _⟩
  | some ad =>
    obtain ⟨zs, z1, z2, z3⟩ := h.pairs
    have hl : zs.length = n := by have := congrArg List.length z1; simp at this; have := h.1; omega
    have hfl : (flat zs).length = n * 5 := by rw [flat_length (fun z hz => shBlock.len (z2 z hz)), hl]; rfl
    have hnews : ∀ j u, (flat zs)[j]? = some u → (w.alloc (.cells #[] 66)).cell? (ad.add j) = some u := by
      intro j u hj
      have hj' := (List.getElem?_eq_some_iff.1 hj).1
      obtain ⟨b, off, e, hFb, hc⟩ := z3 (by omega)
      injection e with e
      subst e
      rw [add_mk, World.cell?_alloc_lt w _ _ (hF b hFb)]
      exact hc j u hj
    have H1 := Lib.hid (ones_flat ones_block z2)
    have HN := Lib.hid hnews
    have HL := Lib.hid hfl
    have Z1 := Lib.hid z1
    have HZ := Lib.hid hl
    obtain ⟨i0, zv, hi, hz0, hz1, hz2, hz3⟩ : ∃ i z, Try.prog.info? 66 = some i ∧ i.zero = some z ∧ i.size = 5 ∧ i.bytes = 56 ∧ z.cells.size = 5 := by
      have h1 : (Try.prog.info? 66).map (fun i => (i.zero.map (·.cells.size), i.size, i.bytes)) = some (some 5, 5, 56) := by kernel_rfl
      match hh : Try.prog.info? 66, h1 with
      | some i, h1 =>
        simp only [Option.map_some, Option.some.injEq, Prod.mk.injEq] at h1
        match hz : i.zero, h1 with
        | some z, h1 => exact ⟨i, z, rfl, hz, h1.2.1, h1.2.2, by simpa using h1.1⟩
    clear hnews hfl h z1 hl z3
    go_enter Try.func88, Try.ntmps88
    go_wp2_with (at_builtin; refine wpList_append_own_at _ rfl _ _ 54 rfl w.heap.size 66 i0 zv 5 56 Try.underlying54 hi hz0 hz1 hz2 hz3 (by omega) _ 0 [] rfl (ownsRow_empty w _ _) ad n c (flat zs) rfl HL.out HN.out H1.out (by unfold maxLen; omega) (by rw [Nat.zero_add]; exact hn) (by simp) ?_; intro v' w1 hown hgr _ _)
    go_ret
    rw [Nat.zero_add, List.nil_append] at hown
    refine ⟨v', zs, rfl, Z1.out, z2, hown, ?_⟩
    exact ((Below.refl _ _).alloc (Nat.le_refl _) _).grown hgr (by simp) (fun k hk => by injection hk with hk; exact Nat.le_of_eq hk)


theorem clone_coin (xs : List (Coin)) (A : Option Addr) (n c : Nat) (w : World) (F : Nat → Prop) (h : Rds shCoin w F xs A n c) (hF : ∀ b, F b → b < w.heap.size) (hn : n * 64 ≤ 140737488355328) :
    Calls Try.prog 117 #[.slice A n c] w (Cloned shCoin 100 w F xs n) := by
  have hq := fun (W : World) => Lib.run_eql_slice_nil (P := Try.prog) W 77 100 A n c 0 0 Try.underlying77
  cases A with
  | none =>
    have h0 : n = 0 := by
      rcases Nat.eq_zero_or_pos n with h0 | h0
      · exact h0
      · obtain ⟨b, off, e, _⟩ := h.2.2.2 h0; cases e
    subst h0
    have hx : xs = [] := List.eq_nil_of_length_eq_zero h.1
    subst hx
    go_enter Try.func117, Try.ntmps117
    go_wp2
    go_ret
    exact ⟨_, [], rfl, rfl, by simp, World.ownsRow_nil _ _ _ _, Below.refl _ _⟩
  | some ad =>
    obtain ⟨zs, z1, z2, z3⟩ := h.pairs
    have hl : zs.length = n := by have := congrArg List.length z1; simp at this; have := h.1; omega
    have hfl : (flat zs).length = n * 6 := by rw [flat_length (fun z hz => shCoin.len (z2 z hz)), hl]; rfl
    have hnews : ∀ j u, (flat zs)[j]? = some u → (w.alloc (.cells #[] 100)).cell? (ad.add j) = some u := by
      intro j u hj
      have hj' := (List.getElem?_eq_some_iff.1 hj).1
      obtain ⟨b, off, e, hFb, hc⟩ := z3 (by omega)
      injection e with e
      subst e
      rw [add_mk, World.cell?_alloc_lt w _ _ (hF b hFb)]
      exact hc j u hj
    have H1 := Lib.hid (ones_flat ones_coin z2)
    have HN := Lib.hid hnews
    have HL := Lib.hid hfl
    have Z1 := Lib.hid z1
    have HZ := Lib.hid hl
    obtain ⟨i0, zv, hi, hz0, hz1, hz2, hz3⟩ : ∃ i z, Try.prog.info? 100 = some i ∧ i.zero = some z ∧ i.size = 6 ∧ i.bytes = 64 ∧ z.cells.size = 6 := by
      have h1 : (Try.prog.info? 100).map (fun i => (i.zero.map (·.cells.size), i.size, i.bytes)) = some (some 6, 6, 64) := by kernel_rfl
      match hh : Try.prog.info? 100, h1 with
      | some i, h1 =>
        simp only [Option.map_some, Option.some.injEq, Prod.mk.injEq] at h1
        match hz : i.zero, h1 with
        | some z, h1 => exact ⟨i, z, rfl, hz, h1.2.1, h1.2.2, by simpa using h1.1⟩
    clear hnews hfl h z1 hl z3
    go_enter Try.func117, Try.ntmps117
    go_wp2_with (at_builtin; refine wpList_append_own_at _ rfl _ _ 77 rfl w.heap.size 100 i0 zv 6 64 Try.underlying77 hi hz0 hz1 hz2 hz3 (by omega) _ 0 [] rfl (ownsRow_empty w _ _) ad n c (flat zs) rfl HL.out HN.out H1.out (by unfold maxLen; omega) (by rw [Nat.zero_add]; exact hn) (by simp) ?_; intro v' w1 hown hgr _ _)
    go_ret
    rw [Nat.zero_add, List.nil_append] at hown
    refine ⟨v', zs, rfl, Z1.out, z2, hown, ?_⟩
    exact ((Below.refl _ _).alloc (Nat.le_refl _) _).grown hgr (by simp) (fun k hk => by injection hk with hk; exact Nat.le_of_eq hk)


end Go.Proofs.Ytnnbnjanekibpaa
