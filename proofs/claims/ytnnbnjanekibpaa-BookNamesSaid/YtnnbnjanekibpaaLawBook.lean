/- The laws on books: their walks. -/
import Derived.Test.YtnnbnjanekibpaaBookLaw
import Derived.Test.YtnnbnjanekibpaaSlices
namespace Go.Proofs.Ytnnbnjanekibpaa
open Go.RowKit
set_option linter.unusedVariables false
set_option maxRecDepth 100000

theorem emptyBook_rep (w : World) (F : Nat → Prop) : shBook.rep w F ⟨[]⟩ [.slice none 0 0] := ⟨[], rfl, none, 0, 0, rfl, Rds.nil _ _ _⟩
theorem book_rep {w : World} {F : Nat → Prop} {t : List Text} {A : Option Addr} {n c : Nat} (h : Rds shStr w F t A n c) : shBook.rep w F ⟨t⟩ [.slice A n c] := ⟨t, rfl, A, n, c, rfl, h⟩


theorem booked_any (w : World) : Calls Try.prog 29 #[] w fun e w' => e = .returned (.bool true) ∧ Below w.heap.size w w' := by
  have hB : Below w.heap.size w (w.alloc (.cells #[.string ⟨#[97]⟩, .string ⟨#[98]⟩, .string ⟨#[97]⟩] 9)) := (Below.refl _ _).alloc (Nat.le_refl _) _
  have hr : Rds shStr (w.alloc (.cells #[.string ⟨#[97]⟩, .string ⟨#[98]⟩, .string ⟨#[97]⟩] 9)) (Lt (w.heap.size + 1)) [[97], [98], [97]] (some ⟨w.heap.size, 0, none⟩) 3 3 :=
    Rds.of_block (zs := [([97], [.string ⟨#[97]⟩]), ([98], [.string ⟨#[98]⟩]), ([97], [.string ⟨#[97]⟩])]) (heap_alloc_new w _) rfl (by
      intro z hz
      simp at hz
      rcases hz with rfl | rfl | rfl <;> exact ⟨rfl, by decide⟩) (by unfold Lt; omega) (by decide) (by decide)
  have e1 : bookAll ⟨[]⟩ [[97], [98], [97]] = ([[97], [98]], [1, 2, 1], 0) := by decide +kernel
  have e2 : lookS ⟨[[97], [98]]⟩ 2 = [98] := by decide +kernel
  have e3 : lookE ⟨[[97], [98]]⟩ 2 = 0 := by decide +kernel
  have e4 : eqB (α := Int) [1, 2, 1] [1, 2, 1] = true := by decide
  have HR := Lib.hid hr
  have HB := Lib.hid hB
  have E1 := Lib.hid e1
  have E2 := Lib.hid e2
  have E3 := Lib.hid e3
  have E4 := Lib.hid e4
  clear hr hB e1 e2 e3 e4
  go_enter Try.func29, Try.ntmps29
  go_wp2_with fail
  refine (all_any _ [.slice none 0 0] _ _ _ _ _ _ (emptyBook_rep _ _) HR.out (fun b hb => by simpa [Lt] using hb) (by omega)).mono ?_
  rintro e w1 ⟨A, n, c, A', n', c', rfl, hr1, hr2, hb1⟩
  rw [E1.out] at hr1 hr2 ⊢
  have hb2 := HB.out.trans (hb1.mono HB.out.size)
  have HB2 := Lib.hid hb2
  have HR1 := Lib.hid hr1
  have HR2 := Lib.hid hr2
  have hx : Below w1.heap.size w1 (w1.alloc (.cells #[.slice A n c] 39)) := (Below.refl _ _).alloc (Nat.le_refl _) _
  have HX := Lib.hid hx
  clear hr1 hr2 hb1 hb2 hx
  go_wp2_with fail
  refine (look_any _ [.slice A n c] _ _ _ (book_rep ((HR1.out.more (F' := Lt w1.heap.size) fun b hb => hb.2).keep (Agree.below HX.out))) (fun b hb => by have : b < w1.heap.size := hb; simp; omega)).mono ?_
  rintro e w2 ⟨rfl, hb3⟩
  rw [E2.out, E3.out]
  have hb4 := HB2.out.trans ((HX.out.trans (hb3.mono HX.out.size)).mono HB2.out.size)
  have HB4 := Lib.hid hb4
  have hr3 : Rds shInt w2 (Mid (w.alloc (.cells #[.string ⟨#[97]⟩, .string ⟨#[98]⟩, .string ⟨#[97]⟩] 9)) w1) [1, 2, 1] A' n' c' := HR2.out.keep fun b hb => (HX.out.trans (hb3.mono HX.out.size)).block b hb.2
  have hs2 := (HX.out.trans (hb3.mono HX.out.size)).size
  have HR3 := Lib.hid hr3
  clear hb3 hb4 hr3
  have hr5 : Rds shInt (w2.alloc (.cells #[.int .i64 1, .int .i64 2, .int .i64 1] 3)) (Lt (w2.heap.size + 1)) [1, 2, 1] (some ⟨w2.heap.size, 0, none⟩) 3 3 :=
    Rds.of_block_int (xs := [1, 2, 1]) (heap_alloc_new w2 _) rfl (by unfold Lt; omega) (by decide) (by decide) (by decide)
  have hr6 := HR3.out.keep (w' := w2.alloc (.cells #[.int .i64 1, .int .i64 2, .int .i64 1] 3)) (fun b hb => Below.heap_alloc _ _ _ (by have := hb.2; omega))
  have H5 := Lib.hid hr5
  have H6 := Lib.hid hr6
  clear hr5 hr6
  go_wp2_with fail
  refine (equal_int _ _ _ _ _ _ _ _ _ _ _ H6.out H5.out).mono ?_; rintro e w' ⟨rfl, m, rfl⟩
  rw [E4.out]
  go_wp2_with fail
  go_ret
  exact ⟨rfl, below_drewN (HB4.out.alloc HB4.out.size _) m⟩

/-- A box of a book: its block, and what it reads as (its texts lie below B). -/
structure Bx (w : World) (g ty B : Nat) (t : List Text) (A : Option Addr) (n c : Nat) : Prop where
  blk : w.heap[g]? = some (.cells #[.slice A n c] ty (0, 0))
  le : B ≤ w.heap.size
  rds : Rds shStr w (Lt B) t A n c
section
variable {w w' : World} {g g' ty B : Nat} {t t' : List Text} {A A' : Option Addr} {n c n' c' : Nat}
theorem Bx.cell (h : Bx w g ty B t A n c) : w.cell? ⟨g, 0, none⟩ = some (.slice A n c) := by rw [blk_cell h.blk]; rfl
theorem Bx.free (h : Bx w g ty B t A n c) : w.frozen? ⟨g, 0, none⟩ = false := blk_free h.blk
theorem Bx.below (h : Bx w g ty B t A n c) (hb : Below w.heap.size w w') : Bx w' g ty B t A n c :=
  ⟨blk_below h.blk hb (blk_lt h.blk), Nat.le_trans h.le hb.size, h.rds.keep ((Agree.below hb).mono fun b hb' => Nat.lt_of_lt_of_le hb' h.le)⟩
theorem Bx.alloc (h : Bx w g ty B t A n c) (o : Obj) : Bx (w.alloc o) g ty B t A n c := h.below ((Below.refl _ _).alloc (Nat.le_refl _) o)
theorem Bx.new (h : Rds shStr w (Lt w.heap.size) t A n c) : Bx (w.alloc (.cells #[.slice A n c] ty)) w.heap.size ty w.heap.size t A n c :=
  ⟨heap_alloc_new w _, by simp, h.keep fun b hb => Below.heap_alloc _ _ _ hb⟩
theorem Bx.rep (h : Bx w g ty B t A n c) : shBook.rep w (Lt w.heap.size) ⟨t⟩ [.slice A n c] := book_rep (h.rds.more fun b hb => Nat.lt_of_lt_of_le hb h.le)
theorem Bx.dup (h : Bx w g ty B t A n c) : Bx (w.alloc (.cells #[.slice A n c] ty)) w.heap.size ty B t A n c :=
  ⟨heap_alloc_new w _, (h.alloc _).le, (h.alloc _).rds⟩
/-- A store into another box. -/
theorem Bx.set (h : Bx w g ty B t A n c) (hg : g ≠ g') (hB : B ≤ g') (u : Value) : Bx (w.setCell ⟨g', 0, none⟩ u) g ty B t A n c :=
  ⟨blk_far h.blk hg, by simp [World.setCell]; exact h.le, h.rds.keep fun b hb => Below.heap_setCell _ _ _ _ (by have : b < B := hb; simp; omega)⟩
/-- What a box holds, put into another one. -/
theorem Bx.put (h : Bx w g ty B t A n c) (h' : w.heap[g']? = some (.cells #[.slice A' n' c'] ty (0, 0))) (hB : B ≤ g') : Bx (w.setCell ⟨g', 0, none⟩ (.slice A n c)) g' ty B t A n c :=
  ⟨blk_set h', by simp [World.setCell]; exact h.le, h.rds.keep fun b hb => Below.heap_setCell _ _ _ _ (by have : b < B := hb; simp; omega)⟩
end
theorem bName_ok {t : List Text} {s : Text} (h : bNameE ⟨t⟩ s = 0) : BookOK t ∧ s.length ≤ 4000 ∧ nameE t s = 0 ∧ bNameL ⟨t⟩ s = nameL t s ∧ bNameN ⟨t⟩ s = nameN t s := by
  unfold bNameE at h
  unfold bNameL bNameN
  by_cases h0 : bookCheck ⟨t⟩ = 0
  · have n0 : ¬ (bookCheck ⟨t⟩ ≠ 0) := by simp [h0]
    rw [if_neg n0] at h
    rw [if_neg n0, if_neg n0]
    by_cases h4 : 4000 < s.length
    · rw [if_pos h4] at h; cases h
    · rw [if_neg h4] at h
      rw [if_neg h4, if_neg h4]
      exact ⟨(bookCheck_iff t).1 h0, by omega, h, rfl, rfl⟩
  · rw [if_pos h0] at h; exact absurd h h0
theorem bName_there {t : List Text} {s : Text} (ht : BookOK t) (hs : s.length ≤ 4000) (h : 0 ≤ idx t s) : bNameE ⟨t⟩ s = 0 ∧ bNameL ⟨t⟩ s = t ∧ bNameN ⟨t⟩ s = idx t s + 1 := by
  have h0 := (bookCheck_iff t).2 ht
  obtain ⟨a, b, c⟩ := name_there h
  unfold bNameE bNameL bNameN
  have n0 : ¬ (bookCheck ⟨t⟩ ≠ 0) := by simp [h0]
  have n4 : ¬ (4000 < s.length) := by omega
  rw [if_neg n0, if_neg n0, if_neg n0, if_neg n4, if_neg n4, if_neg n4]
  exact ⟨a, b, c⟩


set_option maxHeartbeats 2000000 in
theorem bookSame_walk (bk : Book) (cs : List Value) (s : Text) (l : List Text) (A : Option Addr) (n c : Nat) (u : Text) (w : World) (h : shBook.rep w (Lt w.heap.size) bk cs) (hs : s.length ≤ 9223372036854775807) (hl : Rds shStr w (Lt w.heap.size) l A n c) (hu : u.length ≤ 9223372036854775807) (hn0 : n * 16 ≤ 140737488351232) :
    Calls Try.prog 7 #[.agg cs.toArray, .string ⟨s.toArray⟩, .slice A n c, .string ⟨u.toArray⟩] w fun e w' => e = .returned (.bool true) ∧ Below w.heap.size w w' := by
  have hn : n ≤ 8796093022207 := by omega
  clear hn0
  obtain ⟨A0, n0, c0, rfl, hr⟩ := rep_book h
  obtain ⟨t⟩ := bk
  simp only at hr
  have hB0 : Below w.heap.size w (w.alloc (.cells #[.slice A0 n0 c0] 39)) := (Below.refl _ _).alloc (Nat.le_refl _) _
  have hx0 : Bx (w.alloc (.cells #[.slice A0 n0 c0] 39)) w.heap.size 39 w.heap.size t A0 n0 c0 := Bx.new hr
  have hname := bName_any ⟨t⟩ [.slice A0 n0 c0] s _ _ hx0.rep (fun b hb => hb) hs
  have HN := Lib.hid hname
  have HB := Lib.hid hB0
  have HX := Lib.hid hx0
  have HL := Lib.hid hl
  clear hname hB0 hx0 hr h hl
  go_enter Try.func7, Try.ntmps7
  go_wp2_with fail
  refine HN.out.mono ?_
  rintro e w1 ⟨A1, n1, c1, rfl, hr1, hb1⟩
  have HX1 := Lib.hid ((HX.out.below hb1).alloc (.cells #[.slice A1 n1 c1] 39))
  have HY1 := Lib.hid (Bx.new (ty := 39) (hr1.more (F' := Lt w1.heap.size) fun b hb => hb.2))
  have hbx := HB.out.trans (hb1.mono HB.out.size)
  have HB1 := Lib.hid (hbx.alloc hbx.size (.cells #[.slice A1 n1 c1] 39))
  have hsz1 : w.heap.size < w1.heap.size := blk_lt (HX.out.below hb1).blk
  clear hb1 hr1 hbx
  by_cases he : bNameE ⟨t⟩ s = 0
  · obtain ⟨p1, p2, p3, p4, p5⟩ := bName_ok he
    obtain ⟨q1, q2, q3, q4⟩ := name_ok p1 p2 p3
    have hY1 := HY1.out
    rw [p4] at hY1
    have HY2 := Lib.hid hY1
    rw [he, p5, q4]
    have P1 := Lib.hid p1
    have Q1 := Lib.hid q1
    have Q2 := Lib.hid q2
    have ql := q1.1
    have hxb := idx_at q3
    clear HY1 hY1 he p1 p3 p4 p5 q1 q2 q4
    go_wp2_with fail
    generalize hW1 : w1.alloc (.cells #[.slice A1 n1 c1] 39) = W1 at HX1 HY2 HB1 ⊢
    have hsW1 : w1.heap.size < W1.heap.size := by rw [← hW1]; simp
    clear hW1
    refine (booked_any _).mono ?_
    rintro e w2 ⟨rfl, hb2⟩
    have HX3 := Lib.hid (HX1.out.below hb2)
    have HY3 := Lib.hid (HY2.out.below hb2)
    have HB3 := Lib.hid (HB1.out.trans (hb2.mono HB1.out.size))
    have hs2 := hb2.size
    clear hb2 HX1 HY2 HB1
    have hc := HY3.out.cell
    go_wp2_with fail
    refine (all_any ⟨nameL t s⟩ [.slice A1 n1 c1] l _ _ _ _ _ HY3.out.rep ((HL.out.keep (Agree.below HB3.out)).more fun b hb => Nat.lt_of_lt_of_le hb HB3.out.size) (fun b hb => hb) hn).mono ?_
    rintro e w3 ⟨A3, n3, c3, A4, n4, c4, rfl, hr3, -, hb3⟩
    have HX3b := Lib.hid (HX3.out.below hb3)
    have HY3b := Lib.hid (HY3.out.below hb3)
    have HX4 := Lib.hid (HX3b.out.alloc (.cells #[.slice A3 n3 c3] 39))
    have HY4 := Lib.hid (HY3b.out.alloc (.cells #[.slice A3 n3 c3] 39))
    have HZ4 := Lib.hid (Bx.new (ty := 39) (hr3.more (F' := Lt w3.heap.size) fun b hb => hb.2))
    have hbx := HB3.out.trans (hb3.mono HB3.out.size)
    have HB4 := Lib.hid (hbx.alloc hbx.size (.cells #[.slice A3 n3 c3] 39))
    have HB4' := Lib.hid (hbx.alloc hbx.size (.cells #[.slice A1 n1 c1] 39))
    have hs3 := hb3.size
    clear hb3 hr3 hbx HX3 HY3 HB3 hc
    rcases Classical.em ((bookAll ⟨nameL t s⟩ l).2.2 = 0) with hE | hE
    case' inl =>
      have hb : bookAll ⟨nameL t s⟩ l = allGo l (nameL t s) [] := by unfold bookAll; rw [if_neg (by simp [(bookCheck_iff _).2 Q1.out])]
      obtain ⟨o1, o2⟩ := allGo_ok l (nameL t s) [] Q1.out (by rw [← hb]; exact hE)
      rw [← hb] at o1 o2
      have OK := Lib.hid o1
      have PRE := Lib.hid o2
      rw [hE]
      have HXx := HX4
      have HYy := HZ4
      have HBb := HB4
      generalize (bookAll ⟨nameL t s⟩ l).1 = tY at *
      have hgY : w.heap.size < w3.heap.size := by omega
      clear hb o1 o2 hE HX4 HY4 HZ4 HB4 HB4' HX3b HY3b
      go_wp2_with fail
      generalize hW3 : w3.alloc (.cells #[.slice A3 n3 c3] 39) = W3 at HXx HYy HBb ⊢
      have hsW3 : w3.heap.size < W3.heap.size := by rw [← hW3]; simp
      clear hW3
    case' inr =>
      obtain ⟨tY, hYY⟩ : ∃ x, x = nameL t s := ⟨_, rfl⟩
      have OK : Hid (BookOK tY) := Lib.hid (by rw [hYY]; exact Q1.out)
      have PRE : Hid (nameL t s <+: tY) := Lib.hid (by rw [hYY]; exact List.prefix_refl _)
      have hd : ((bookAll ⟨nameL t s⟩ l).2.2 == 0) = false := by simpa using hE
      have hc1 := HY4.out.cell
      have hc2 := HZ4.out.cell
      have hf2 : (w3.alloc (.cells #[.slice A3 n3 c3] 39)).frozen? ⟨w3.heap.size, 0, none⟩ = false := blk_free (heap_alloc_new w3 _)
      have hgY : w.heap.size < w3.heap.size := by omega
      have HXx := Lib.hid (HX3b.out.alloc (.cells #[.slice A1 n1 c1] 39))
      have HYy : Hid (Bx (w3.alloc (.cells #[.slice A1 n1 c1] 39)) w3.heap.size 39 w1.heap.size tY A1 n1 c1) := Lib.hid (by rw [hYY]; exact HY3b.out.dup)
      have HBb := HB4'
      generalize (bookAll ⟨nameL t s⟩ l).2.2 = eY at *
      clear hE HX4 HY4 HZ4 HB4 HB4' HX3b HY3b hYY
      go_wp2_with fail
      generalize hW3 : w3.alloc (.cells #[.slice A1 n1 c1] 39) = W3 at HXx HYy HBb ⊢
      have hsW3 : w3.heap.size < W3.heap.size := by rw [← hW3]; simp
      clear hW3
    all_goals (
      have hc := HYy.out.cell
      have h3 := idx_prefix PRE.out q3
      have h4 := idx_prefix_ge PRE.out q3
      obtain ⟨t1, t2, t3⟩ := bName_there OK.out p2 h4
      obtain ⟨l1, l2⟩ := lookS_there OK.out h4
      rw [h3] at t3 l1 l2
      have T1 := Lib.hid t1
      have T2 := Lib.hid t2
      have T3 := Lib.hid t3
      have L1 := Lib.hid l1
      have L2 := Lib.hid l2
      have I3 := Lib.hid h3
      have I4 := Lib.hid h4
      clear t1 t2 t3 l1 l2 h3 h4
      go_wp2_with fail
      refine (bName_any _ [_] s _ _ HYy.out.rep (fun b hb => hb) hs).mono ?_
      rintro e w5 ⟨A5, n5, c5, rfl, hr5, hb5⟩
      rw [T1.out, T3.out]
      rw [T2.out] at hr5
      have HX5 := Lib.hid ((HXx.out.below hb5).alloc (.cells #[.slice A5 n5 c5] 39))
      have HY5 := Lib.hid ((HYy.out.below hb5).alloc (.cells #[.slice A5 n5 c5] 39))
      have HZ5 := Lib.hid (Bx.new (ty := 39) (hr5.more (F' := Lt w5.heap.size) fun b hb => hb.2))
      have hbx := HBb.out.trans (hb5.mono HBb.out.size)
      have HB5 := Lib.hid (hbx.alloc hbx.size (.cells #[.slice A5 n5 c5] 39))
      have hs5 := hb5.size
      clear hb5 hr5 hbx HXx HYy HBb hc
      go_wp2_with fail
      generalize hW5 : w5.alloc (.cells #[.slice A5 n5 c5] 39) = W5 at HX5 HY5 HZ5 HB5 ⊢
      have hsW5 : w5.heap.size < W5.heap.size := by rw [← hW5]; simp
      clear hW5
      refine (look_any _ [_] _ _ _ HZ5.out.rep (fun b hb => hb)).mono ?_
      rintro e w6 ⟨rfl, hb6⟩
      rw [L1.out, L2.out]
      have HX6 := Lib.hid (HX5.out.below hb6)
      have HY6 := Lib.hid (HY5.out.below hb6)
      have HZ6 := Lib.hid (HZ5.out.below hb6)
      have HB6 := Lib.hid (HB5.out.trans (hb6.mono HB5.out.size))
      have hs6 := hb6.size
      clear hb6 HX5 HY5 HZ5 HB5
      have hcY := HY6.out.cell
      have hcZ := HZ6.out.cell
      go_wp2_with fail
      refine (equal_str _ _ _ _ _ _ _ _ _ _ _ HZ6.out.rds HY6.out.rds).mono ?_
      rintro e w7 ⟨rfl, m, rfl⟩
      have ee : ∀ (x : List Text), eqB x x = true := fun x => by simp [eqB]
      rw [ee]
      clear ee
      have HX7 := Lib.hid (HX6.out.below (below_drewN (Below.refl _ _) m))
      have HY7 := Lib.hid (HY6.out.below (below_drewN (Below.refl _ _) m))
      have HB7 := Lib.hid (below_drewN HB6.out m)
      have hzs : (w6.drewN m).heap.size = w6.heap.size := rfl
      have HZS := Lib.hid hzs
      have HZb := Lib.hid (HZ6.out.below (below_drewN (Below.refl _ _) m)).blk
      have HPP := Lib.hid (Q2.out.trans PRE.out)
      generalize w6.drewN m = W7 at HX7 HY7 HB7 HZb HZS ⊢
      have hs7 : w5.heap.size < W7.heap.size := by rw [HZS.out]; omega
      clear hzs HX6 HY6 HZ6 HB6 hcZ hcY
      have hcY := HY7.out.cell
      go_wp2_with fail
      refine (bName_any _ [_] u _ _ HY7.out.rep (fun b hb => hb) hu).mono ?_
      rintro e w8 ⟨A8, n8, c8, rfl, hr8, hb8⟩
      have HX8 := Lib.hid (HX7.out.below hb8)
      have HR8 := Lib.hid hr8
      have HB8 := Lib.hid (HB7.out.trans (hb8.mono HB7.out.size))
      have hz8 := blk_below HZb.out hb8 hs7
      have hcz : w8.cell? ⟨w5.heap.size, 0, none⟩ = some (.slice A5 n5 c5) := by rw [blk_cell hz8]; rfl
      have hfz : w8.frozen? ⟨w5.heap.size, 0, none⟩ = false := blk_free hz8
      have HZ8 := Lib.hid hz8
      have hw5 : w.heap.size < w5.heap.size := by omega
      clear hr8 hb8 hz8 HX7 HY7 HB7 HZb HZS hcY
      have HW9 := Lib.hid (HB8.out.setCell (p := ⟨w5.heap.size, 0, none⟩) (by simp; omega) (.slice A8 n8 c8))
      have HX9 := Lib.hid (HX8.out.set (g' := w5.heap.size) (by omega) (by omega) (.slice A8 n8 c8))
      have HZ9 := Lib.hid (blk_set (i := 0) (u := .slice A8 n8 c8) HZ8.out)
      by_cases hE : bNameE ⟨tY⟩ u = 0
      · obtain ⟨r1, r2, r3, r4, r5⟩ := bName_ok hE
        have hr := HR8.out
        rw [r4] at hr
        rw [hE, r5]
        have pre := HPP.out.trans (nameL_prefix r3)
        have hle := pre.length_le
        have e8 := hr.1
        have e0 := HX8.out.rds.1
        have hle2 : n0 ≤ n8 := by omega
        have htk := hr.take hle2
        have etk : (nameL tY u).take n0 = t := by rw [← e0]; exact (List.prefix_iff_eq_take.1 pre).symm
        rw [etk] at htk
        have hc8 := hr.2.1
        have HTK := Lib.hid (htk.keep (w' := w8.setCell ⟨w5.heap.size, 0, none⟩ (.slice A8 n8 c8)) fun b hb => Below.heap_setCell _ _ _ _ (by have := hb.1; simp; omega))
        have inj := name_inj I4.out r3
        rw [I3.out] at inj
        have INJ := Lib.hid inj
        clear r1 r3 r4 r5 hr pre hle e8 e0 htk etk inj HR8
        have hb8 : (n0 : Int) ≤ (n8 : Int) := by omega
        have hb9 : (n0 : Int) ≤ (c8 : Int) := by omega
        have hb0 : (0 : Int) ≤ (n0 : Int) := by omega
        have hc9 := HX9.out.cell
        have hz9 : (w8.setCell ⟨w5.heap.size, 0, none⟩ (.slice A8 n8 c8)).cell? ⟨w5.heap.size, 0, none⟩ = some (.slice A8 n8 c8) := by rw [blk_cell HZ9.out]; rfl
        go_wp2_with fail
        generalize hW9 : w8.setCell ⟨w5.heap.size, 0, none⟩ (.slice A8 n8 c8) = W9 at HW9 HX9 HZ9 HTK hc9 hz9 ⊢
        clear hW9
        have ee : eqB t t = true := by simp [eqB]
        by_cases hus : u = s
        · have hk : (nameN tY u == idx (nameL t s) s + 1) = true := by rw [beq_iff_eq]; exact INJ.out.2 hus
          subst hus
          go_quiet ((go_at_call 32; exact Calls.quiet_of (equal_str _ _ _ _ _ _ _ _ _ _ _ HTK.out HX9.out.rds)))
          go_wp2_with fail
          go_ret
          exact ⟨ret_bool (by first | rfl | (simp [eqB]; done)), below_drewN HW9.out _⟩
        · have hk : (nameN tY u == idx (nameL t s) s + 1) = false := by rw [beq_eq_false_iff_ne]; exact fun e => hus (INJ.out.1 e)
          have hk2 : (u == s) = false := by simpa using hus
          clear hus
          go_quiet ((go_at_call 32; exact Calls.quiet_of (equal_str _ _ _ _ _ _ _ _ _ _ _ HTK.out HX9.out.rds)))
          go_wp2_with fail
          go_ret
          exact ⟨ret_bool (by first | rfl | (simp [eqB]; done)), below_drewN HW9.out _⟩
      · have hd8 : (bNameE ⟨tY⟩ u == 0) = false := by simpa using hE
        have hd9 : (bNameE ⟨tY⟩ u != 0) = true := by simpa using hE
        clear hE
        go_wp2_with fail
        go_quiet (fail)
        go_wp2_with fail
        go_ret
        exact ⟨ret_bool (by first | rfl | (simp; done)), below_drewN HW9.out _⟩)
  · have hd : (bNameE ⟨t⟩ s == 0) = false := by simpa using he
    clear he
    go_wp2_with fail
    generalize hW1 : w1.alloc (.cells #[.slice A1 n1 c1] 39) = W1 at HX1 HY1 HB1 ⊢
    clear hW1
    refine (booked_any _).mono ?_
    rintro e w2 ⟨rfl, hb2⟩
    have HB3 := Lib.hid (HB1.out.trans (hb2.mono HB1.out.size))
    clear hb2
    go_wp2_with fail
    refine (booked_any _).mono ?_
    rintro e w3 ⟨rfl, hb3⟩
    have HB4 := Lib.hid (HB3.out.trans (hb3.mono HB3.out.size))
    clear hb3
    go_wp2_with fail
    go_ret
    exact ⟨rfl, HB4.out⟩

end Go.Proofs.Ytnnbnjanekibpaa
