/- The law BookNames: its walk. -/
import Derived.Test.YtnnbnjanekibpaaLawBook
namespace Go.Proofs.Ytnnbnjanekibpaa
open Go.RowKit
set_option linter.unusedVariables false
set_option maxRecDepth 100000

theorem eqB_self {α : Type} [DecidableEq α] (x : List α) : eqB x x = true := by simp [eqB]

/-- What lies in the walk's boxes. -/
structure Bag (w0 w : World) (gx gy gz ty : Nat) (t x y : List Text) (ks : List Int) (A0 : Option Addr) (n0 c0 : Nat) (A1 : Option Addr) (n1 c1 : Nat) (A2 : Option Addr) (n2 c2 : Nat) (A3 : Option Addr) (n3 c3 : Nat) : Prop where
  X : Bx w gx ty gx t A0 n0 c0
  Y : Bx w gy ty gy x A1 n1 c1
  Z : Bx w gz ty gz y A2 n2 c2
  K : Rds shInt w (Lt gz) ks A3 n3 c3
  B : Below w0.heap.size w0 w
theorem Bag.below {w0 w w' : World} {gx gy gz ty : Nat} {t x y : List Text} {ks : List Int} {A0 : Option Addr} {n0 c0 : Nat} {A1 : Option Addr} {n1 c1 : Nat} {A2 : Option Addr} {n2 c2 : Nat} {A3 : Option Addr} {n3 c3 : Nat}
    (h : Bag w0 w gx gy gz ty t x y ks A0 n0 c0 A1 n1 c1 A2 n2 c2 A3 n3 c3) (hb : Below w.heap.size w w') : Bag w0 w' gx gy gz ty t x y ks A0 n0 c0 A1 n1 c1 A2 n2 c2 A3 n3 c3 :=
  ⟨h.X.below hb, h.Y.below hb, h.Z.below hb, h.K.keep ((Agree.below hb).mono fun b hb' => Nat.lt_of_lt_of_le hb' h.Z.le), h.B.trans (hb.mono h.B.size)⟩

theorem named_eqs {t : List Text} (h0 : bookCheck ⟨t⟩ = 0) (s : Text) : bNameE ⟨t⟩ s = refNameE t s ∧ bNameN ⟨t⟩ s = refNameN t s ∧ bNameL ⟨t⟩ s = refNameL t s := by
  have n0 : ¬ (bookCheck ⟨t⟩ ≠ 0) := by simp [h0]
  unfold bNameE bNameN bNameL
  rw [if_neg n0, if_neg n0, if_neg n0]
  exact ⟨rfl, rfl, rfl⟩
theorem named_bad {t : List Text} (h0 : bookCheck ⟨t⟩ ≠ 0) (s : Text) (l : List Text) (k : Int) : bNameE ⟨t⟩ s = bookCheck ⟨t⟩ ∧ bNameN ⟨t⟩ s = 0 ∧ bNameL ⟨t⟩ s = [] ∧ bookAll ⟨t⟩ l = ([], [], bookCheck ⟨t⟩) ∧ lookS ⟨t⟩ k = [] ∧ lookE ⟨t⟩ k = bookCheck ⟨t⟩ := by
  unfold bNameE bNameN bNameL bookAll lookS lookE
  rw [if_pos h0, if_pos h0, if_pos h0, if_pos h0, if_pos h0, if_pos h0]
  exact ⟨rfl, rfl, rfl, rfl, rfl, rfl⟩

theorem Bx.rep_rds {w : World} {g ty B : Nat} {t : List Text} {A : Option Addr} {n c : Nat} (h : Bx w g ty B t A n c) : Rds shStr w (Lt w.heap.size) t A n c := h.rds.more fun b hb => Nat.lt_of_lt_of_le hb h.le


set_option maxHeartbeats 2000000 in
theorem bookNames_walk (bk : Book) (cs : List Value) (s : Text) (l : List Text) (A : Option Addr) (n c : Nat) (k : Int) (w : World) (h : shBook.rep w (Lt w.heap.size) bk cs) (hs : s.length ≤ 9223372036854775807) (hl : Rds shStr w (Lt w.heap.size) l A n c) (hk0 : -9223372036854775808 ≤ k) (hk1 : k ≤ 9223372036854775807) (hn0 : n * 16 ≤ 140737488351232) :
    Calls Try.prog 8 #[.agg cs.toArray, .string ⟨s.toArray⟩, .slice A n c, .int .i64 k] w fun e w' => e = .returned (.bool true) ∧ Below w.heap.size w w' := by
  have hn : n ≤ 8796093022207 := by omega
  clear hn0
  obtain ⟨A0, n0, c0, rfl, hr⟩ := rep_book h
  obtain ⟨t⟩ := bk
  simp only at hr
  have hB0 : Below w.heap.size w (w.alloc (.cells #[.slice A0 n0 c0] 39)) := (Below.refl _ _).alloc (Nat.le_refl _) _
  have hx0 : Bx (w.alloc (.cells #[.slice A0 n0 c0] 39)) w.heap.size 39 w.heap.size t A0 n0 c0 := Bx.new hr
  have hname := bName_any ⟨t⟩ [.slice A0 n0 c0] s _ _ hx0.rep (fun b hb => hb) hs
  have HN := Lib.hid hname
  have HB := Lib.hid hB0
  have HX := Lib.hid hx0
  have HL := Lib.hid hl
  clear hname hB0 hx0 hr h hl
  go_enter Try.func8, Try.ntmps8
  go_wp2_with fail
  refine HN.out.mono ?_
  rintro e w1 ⟨A1, n1, c1, rfl, hr1, hb1⟩
  have HX1 := Lib.hid ((HX.out.below hb1).alloc (.cells #[.slice A1 n1 c1] 39))
  have HY1 := Lib.hid (Bx.new (ty := 39) (hr1.more (F' := Lt w1.heap.size) fun b hb => hb.2))
  have hbx := HB.out.trans (hb1.mono HB.out.size)
  have HB1 := Lib.hid (hbx.alloc hbx.size (.cells #[.slice A1 n1 c1] 39))
  have hcX1 := HX1.out.cell
  clear hb1 hr1 hbx HN
  go_wp2_with fail
  generalize hW1 : w1.alloc (.cells #[.slice A1 n1 c1] 39) = W1 at HX1 HY1 HB1 hcX1 ⊢
  have hsW1 : w1.heap.size < W1.heap.size := by rw [← hW1]; simp
  clear hW1
  refine (all_any ⟨t⟩ [.slice A0 n0 c0] l _ _ _ _ _ HX1.out.rep ((HL.out.keep (Agree.below HB1.out)).more fun b hb => Nat.lt_of_lt_of_le hb HB1.out.size) (fun b hb => hb) hn).mono ?_
  rintro e w2 ⟨A2, n2, c2, A3, n3, c3, rfl, hr2, hr3, hb2⟩
  have HX2 := Lib.hid ((HX1.out.below hb2).alloc (.cells #[.slice A2 n2 c2] 39))
  have HY2 := Lib.hid ((HY1.out.below hb2).alloc (.cells #[.slice A2 n2 c2] 39))
  have HZ2 := Lib.hid (Bx.new (ty := 39) (hr2.more (F' := Lt w2.heap.size) fun b hb => hb.2))
  have HK2 := Lib.hid ((hr3.more (F' := Lt w2.heap.size) fun b hb => hb.2).keep (w' := w2.alloc (.cells #[.slice A2 n2 c2] 39)) fun b hb => Below.heap_alloc _ _ _ hb)
  have hbx := HB1.out.trans (hb2.mono HB1.out.size)
  have HB2 := Lib.hid (hbx.alloc hbx.size (.cells #[.slice A2 n2 c2] 39))
  have BAG := Lib.hid (Bag.mk (w0 := w) HX2.out HY2.out HZ2.out HK2.out HB2.out)
  have hsz2 := hb2.size
  clear hb2 hr2 hr3 hbx HX2 HY2 HZ2 HK2 HB2 HX1 HY1 HB1 hcX1 HX HB
  have hc := BAG.out.X.cell
  go_wp2_with fail
  generalize hW2 : w2.alloc (.cells #[.slice A2 n2 c2] 39) = W2 at BAG hc ⊢
  clear hW2
  refine (look_any ⟨t⟩ [.slice A0 n0 c0] k _ _ BAG.out.X.rep (fun b hb => hb)).mono ?_
  rintro e w3 ⟨rfl, hb⟩
  have BAG3 := Lib.hid (BAG.out.below hb)
  clear hb hc BAG
  have hc := BAG3.out.X.cell
  go_wp2_with fail
  refine (refBook_any ⟨t⟩ [.slice A0 n0 c0] _ _ BAG3.out.X.rep (fun b hb => hb)).mono ?_
  rintro e w4 ⟨rfl, hb⟩
  have BAG4 := Lib.hid (BAG3.out.below hb)
  clear hb hc BAG3
  go_wp2_with fail
  refine (booked_any _).mono ?_
  rintro e w5 ⟨rfl, hb⟩
  have BAG5 := Lib.hid (BAG4.out.below hb)
  clear hb BAG4
  have hc := BAG5.out.X.cell
  go_wp2_with fail
  refine (bookCheck_any ⟨t⟩ [.slice A0 n0 c0] _ _ BAG5.out.X.rep (fun b hb => hb)).mono ?_
  rintro e w6 ⟨rfl, hb⟩
  have BAG6 := Lib.hid (BAG5.out.below hb)
  clear hb hc BAG5
  have hc0 := BAG6.out.X.cell
  have hc1 := BAG6.out.Y.cell
  have hc2 := BAG6.out.Z.cell
  by_cases h0 : bookCheck ⟨t⟩ = 0
  · obtain ⟨e1, e2, e3⟩ := named_eqs h0 s
    have e4 : bookAll ⟨t⟩ l = allGo l t [] := by unfold bookAll; rw [if_neg (by simp [h0])]
    have hl0 : t.length = n0 := BAG6.out.X.rds.1
    have hlen : n0 ≤ 120 := by have := bookCheck_len h0; simp only at this; omega
    have n00 : ¬ (bookCheck ⟨t⟩ ≠ 0) := by simp [h0]
    have BAG := Lib.hid (by have b := BAG6.out; rw [e3, e4] at b; exact b)
    rw [e1, e2, e4, h0]
    obtain ⟨v, g, hv, hg, hvg⟩ : ∃ v g, lookS ⟨t⟩ k = v ∧ lookE ⟨t⟩ k = g ∧ ((k < 1 ∨ (n0 : Int) < k) ∧ v = [] ∧ g = 5 ∨ ∃ (m b off : Nat), k = (m : Int) + 1 ∧ m < n0 ∧ g = 0 ∧ A0 = some ⟨b, off, none⟩ ∧ b < w.heap.size ∧ w6.cell? ⟨b, off + m, none⟩ = some (.string ⟨v.toArray⟩)) := by
      refine ⟨_, _, rfl, rfl, ?_⟩
      by_cases hk : k < 1 ∨ (n0 : Int) < k
      · have hk' : k < 1 ∨ (t.length : Int) < k := by rw [hl0]; exact hk
        exact .inl ⟨hk, by simp only [lookS]; rw [if_neg n00, if_pos hk'], by simp only [lookE]; rw [if_neg n00, if_pos hk']⟩
      · have hk' : ¬ (k < 1 ∨ (t.length : Int) < k) := by rw [hl0]; exact hk
        obtain ⟨m, rfl⟩ : ∃ m : Nat, k = (m : Int) + 1 := ⟨(k - 1).toNat, by omega⟩
        obtain ⟨b, off, x, hA, hFb, hx, hcell, x0⟩ := BAG6.out.X.rds.str (k := m) (by omega)
        have e3 : lookS ⟨t⟩ ((m : Int) + 1) = x := by
          simp only [lookS]; rw [if_neg n00, if_neg hk', show ((m : Int) + 1 - 1).toNat = m by omega, hx]; rfl
        refine .inr ⟨m, b, off, rfl, by omega, by simp only [lookE]; rw [if_neg n00, if_neg hk'], hA, hFb, ?_⟩
        rw [e3]; exact hcell
    rw [hv, hg]
    have HV := Lib.hid hvg
    clear e1 e2 e3 e4 h0 hl0 n00 BAG6 hv hg hvg
    go_wp2_with fail
    refine (refNamed_any t s _ _ _ _ _ BAG.out.X.rds (fun b hb => Nat.lt_of_lt_of_le hb BAG.out.X.le) hlen hs).mono ?_
    rintro e w7 ⟨A7, n7, c7, rfl, hr7, hb7⟩
    have BAG7 := Lib.hid (BAG.out.below hb7)
    have HR7 := Lib.hid (hr7.more (F' := Lt w7.heap.size) fun b hb => by
      rcases hb with hb | hb
      · exact Nat.lt_of_lt_of_le (Nat.lt_of_lt_of_le hb BAG.out.X.le) hb7.size
      · exact hb.2)
    have HW := Lib.hid hb7
    have hsz6 : w.heap.size < w6.heap.size := blk_lt BAG.out.X.blk
    clear hb7 hr7 BAG hc0 hc1 hc2
    have hc0 := BAG7.out.X.cell
    go_wp2_with fail
    refine (refAll_any t l _ _ _ _ _ _ w7 (Lt w7.heap.size) BAG7.out.X.rep_rds ((HL.out.keep (Agree.below BAG7.out.B)).more fun b hb => Nat.lt_of_lt_of_le hb BAG7.out.B.size) (fun b hb => hb) hlen hn).mono ?_
    rintro e w8 ⟨A8, n8, c8, A9, n9, c9, rfl, hr8, hr9, hb8⟩
    have BAG8 := Lib.hid (BAG7.out.below hb8)
    have HR8 := Lib.hid (HR7.out.keep (w' := w8) (Agree.below hb8))
    have HS8 := Lib.hid hr8
    have HT8 := Lib.hid hr9
    have HW8 := Lib.hid (And.intro (HW.out.trans (hb8.mono HW.out.size)) hb8.size)
    clear hb8 hr8 hr9 BAG7 HW HR7 hc0
    have hc0 := BAG8.out.X.cell
    have hc1 := BAG8.out.Y.cell
    have hc2 := BAG8.out.Z.cell
    go_wp2_with fail
    refine (equal_str _ _ _ _ _ _ _ _ _ _ _ BAG8.out.Y.rds HR8.out).mono ?_
    rintro e w9 ⟨rfl, m9, rfl⟩
    rw [eqB_self]
    have hd9 : Below w8.heap.size w8 (w8.drewN m9) := below_drewN (Below.refl _ _) m9
    have hp9 : ∀ b, Plus (Lt w7.heap.size) w7 w8 b → b < w8.heap.size := fun b hb => by
      rcases hb with hb | hb
      · exact Nat.lt_of_lt_of_le hb HW8.out.2
      · exact hb.2
    have BAG9 := Lib.hid (BAG8.out.below hd9)
    have HS9 := Lib.hid ((HS8.out.more (F' := Lt w8.heap.size) hp9).keep (Agree.below hd9))
    have HT9 := Lib.hid ((HT8.out.more (F' := Lt w8.heap.size) fun b hb => hb.2).keep (Agree.below hd9))
    have HV9 := Lib.hid (HW8.out.1.trans (hd9.mono HW8.out.1.size))
    have hz9 : w8.heap.size ≤ (w8.drewN m9).heap.size := Nat.le_refl _
    clear BAG8 HR8 HS8 HT8 HW8 hc0 hc1 hc2 hp9 hd9
    generalize w8.drewN m9 = W9 at BAG9 HS9 HT9 HV9 hz9 ⊢
    have hc0 := BAG9.out.X.cell
    have hc1 := BAG9.out.Y.cell
    have hc2 := BAG9.out.Z.cell
    go_wp2_with fail
    refine (equal_str _ _ _ _ _ _ _ _ _ _ _ BAG9.out.Z.rds HS9.out).mono ?_
    rintro e w10 ⟨rfl, m10, rfl⟩
    rw [eqB_self]
    have hd10 : Below W9.heap.size W9 (W9.drewN m10) := below_drewN (Below.refl _ _) m10
    have BAG10 := Lib.hid (BAG9.out.below hd10)
    have HT10 := Lib.hid ((HT9.out.keep ((Agree.below hd10).mono fun b hb => Nat.lt_of_lt_of_le hb hz9)))
    have HV10 := Lib.hid (HV9.out.trans (hd10.mono HV9.out.size))
    clear BAG9 HT9 HS9 HV9 hc0 hc1 hc2 hd10
    generalize W9.drewN m10 = W10 at BAG10 HT10 HV10 ⊢
    have hc0 := BAG10.out.X.cell
    go_wp2_with fail
    refine (equal_int _ _ _ _ _ _ _ _ _ _ _ BAG10.out.K HT10.out).mono ?_
    rintro e w11 ⟨rfl, m11, rfl⟩
    rw [eqB_self]
    have hd11 : Below W10.heap.size W10 (W10.drewN m11) := below_drewN (Below.refl _ _) m11
    have BAG11 := Lib.hid (BAG10.out.below hd11)
    have HV11 := Lib.hid (HV10.out.trans (hd11.mono HV10.out.size))
    clear BAG10 HT10 HV10 hc0 hd11
    generalize W10.drewN m11 = W11 at BAG11 HV11 ⊢
    have hc0 := BAG11.out.X.cell
    rcases HV.out with ⟨hk, rfl, rfl⟩ | ⟨m, b, off, rfl, hm, rfl, rfl, hb, hcell⟩
    · clear HV
      rcases Classical.em (k < 1) with h1 | h1
      · go_wp2_with fail
        go_ret
        exact ⟨ret_bool (by first | rfl | (simp; done)), BAG11.out.B⟩
      · have h2 : (n0 : Int) < k := by omega
        go_wp2_with fail
        go_ret
        exact ⟨ret_bool (by first | rfl | (simp; done)), BAG11.out.B⟩
    · have hce : W11.cell? ⟨b, off + m, none⟩ = some (.string ⟨v.toArray⟩) := by rw [HV11.out.cell (by simp; omega)]; exact hcell
      have hm1 : (m : Int) + 1 ≤ (n0 : Int) := by omega


      clear HV hcell hk0 hk1 hs hn
      have hvv : (v == v) = true := by simp
      go_wp2_with fail
      go_ret
      exact ⟨ret_bool (by first | rfl | (simp; done)), BAG11.out.B⟩
  · obtain ⟨e1, e2, e3, e4, e5, e6⟩ := named_bad h0 s l k
    have BAG := Lib.hid (by have b := BAG6.out; rw [e3, e4] at b; exact b)
    rw [e1, e2, e4, e5, e6]
    have z1 : n1 = 0 := by have := BAG.out.Y.rds.1; simpa using this.symm
    have z2 : n2 = 0 := by have := BAG.out.Z.rds.1; simpa using this.symm
    have z3 : n3 = 0 := by have := BAG.out.K.1; simpa using this.symm
    have hd : (bookCheck ⟨t⟩ == 0) = false := by simpa using h0
    have hd2 : (bookCheck ⟨t⟩ != 0) = true := by simpa using h0
    clear e1 e2 e3 e4 e5 e6 h0 BAG6
    subst z1 z2 z3
    generalize bookCheck ⟨t⟩ = e0 at *
    go_wp2_with fail
    go_ret
    exact ⟨ret_bool (by first | rfl | (simp; done)), BAG.out.B⟩

end Go.Proofs.Ytnnbnjanekibpaa
