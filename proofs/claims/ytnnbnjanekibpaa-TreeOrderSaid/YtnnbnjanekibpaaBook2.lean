/- Package book: All; the reference's Check, Named, NamedAll: contracts by walks. -/
import Derived.Test.YtnnbnjanekibpaaBook
namespace Go.Proofs.Ytnnbnjanekibpaa
open Go.RowKit
set_option linter.unusedVariables false
set_option maxRecDepth 100000

theorem own_lt {w : World} {base e size n k : Nat} {v : Value} {xs : List Value} (h : w.ownsRow base e size v n xs) (hk : v.ownBlock = some k) : k < w.heap.size := by
  rcases h.2 with ⟨rfl, _⟩ | ⟨g, cap, cur, rfl, hg, hh, _⟩
  · cases hk
  · have : g = k := by simpa [Value.ownBlock] using hk
    subst this
    rcases Nat.lt_or_ge g w.heap.size with h | h
    · exact h
    · rw [Array.getElem?_eq_none h] at hh; cases hh
theorem own_below {w w' : World} {base e size n : Nat} {v : Value} {xs : List Value} (h : w.ownsRow base e size v n xs) (hb : Below w.heap.size w w') : w'.ownsRow base e size v n xs := by
  refine ⟨h.1, ?_⟩
  rcases h.2 with h0 | ⟨g, cap, cur, hv, hg, hh, r⟩
  · exact .inl h0
  · refine .inr ⟨g, cap, cur, hv, hg, ?_, r⟩
    rw [hb.block g ?_]
    · exact hh
    · rcases Nat.lt_or_ge g w.heap.size with h | h
      · exact h
      · rw [Array.getElem?_eq_none h] at hh; cases hh
theorem own_base {w : World} {base base' e size n : Nat} {v : Value} {xs : List Value} (h : w.ownsRow base e size v n xs) (hb : base' ≤ base) : w.ownsRow base' e size v n xs := by
  refine ⟨h.1, ?_⟩
  rcases h.2 with h0 | ⟨g, cap, cur, hv, hg, r⟩
  · exact .inl h0
  · exact .inr ⟨g, cap, cur, hv, by omega, r⟩
theorem own_set_far {w : World} {base e size n : Nat} {v : Value} {xs : List Value} (h : w.ownsRow base e size v n xs) {p : Addr} (hp : p.block < base) (u : Value) : (w.setCell p u).ownsRow base e size v n xs := ownsRow_setCell_below h hp u

/-- Behind an append of one element that was laid in a block of its own: what else is kept. -/
theorem block_append {wa w5 : World} {o : Obj} {v : Value} (hgr : (wa.alloc o).grownBy w5 v.ownBlock) {b : Nat} (hb : b < wa.heap.size) (hne : v.ownBlock ≠ some b) : w5.heap[b]? = wa.heap[b]? :=
  (hgr.block b (by simp; omega) (fun e => hne e.symm)).trans (Below.heap_alloc _ _ _ hb)
theorem keep_append {α : Type} {S : Sh α} {F : Nat → Prop} {wa w5 : World} {o : Obj} {v v5 : Value} {xs : List α} {A : Option Addr} {n c : Nat} (hgr : (wa.alloc o).grownBy w5 v.ownBlock)
    (hob : v5.ownBlock = v.ownBlock ∨ v5.ownBlock = some (wa.alloc o).heap.size) (hr : Rds S wa F xs A n c) (hF : ∀ b, F b → b < wa.heap.size ∧ v.ownBlock ≠ some b) : Rds S w5 (fun b => F b ∧ b < w5.heap.size ∧ v5.ownBlock ≠ some b) xs A n c := by
  refine (hr.keep fun b hb => block_append hgr (hF b hb).1 (hF b hb).2).more fun b hb => ⟨hb, ?_, ?_⟩
  · have := hgr.size
    have := (hF b hb).1
    simp at *
    omega
  · rcases hob with e | e
    · rw [e]; exact (hF b hb).2
    · rw [e]
      intro e2
      injection e2 with e2
      have := (hF b hb).1
      simp at e2
      omega
theorem nameL_len {t : List (List UInt8)} {s : List UInt8} (ht : t.length ≤ 120) (he : nameE t s = 0) : (nameL t s).length ≤ 120 := by
  unfold nameE at he
  unfold nameL
  split at he
  · rename_i h; rw [if_pos h]; exact ht
  · rename_i h
    rw [if_neg h]
    split at he
    · cases he
    · rename_i h'; rw [if_neg h']; simp; omega
theorem nameN_bd {t : List (List UInt8)} {s : List UInt8} (ht : t.length ≤ 120) : 0 ≤ nameN t s ∧ nameN t s ≤ 1000 := by
  have := idx_bd t s
  unfold nameN
  split
  · omega
  · split <;> omega

def allGo : List (List UInt8) → List (List UInt8) → List Int → List (List UInt8) × List Int × Int
  | [], t, o => (t, o, 0)
  | s :: l, t, o => if 4000 < s.length then ([], [], 2) else if nameE t s ≠ 0 then ([], [], nameE t s) else allGo l (nameL t s) (o ++ [nameN t s])
def bookAll (bk : Book) (l : List (List UInt8)) : List (List UInt8) × List Int × Int := if bookCheck bk ≠ 0 then ([], [], bookCheck bk) else allGo l bk.texts []

/-- Three results: a book, names, an error. -/
def RetAll (w : World) (r : List (List UInt8) × List Int × Int) (e : Ending) (w' : World) : Prop :=
  ∃ A n c A' n' c', e = .returned (.tuple #[.agg #[.slice A n c], .slice A' n' c', .int .i64 r.2.2]) ∧ Rds shStr w' (Mid w w') r.1 A n c ∧ Rds shInt w' (Mid w w') r.2.1 A' n' c' ∧ Below w.heap.size w w'


theorem int_info2 : ∃ i z, Try.prog.info? 3 = some i ∧ i.zero = some z ∧ i.size = 1 ∧ i.bytes = 8 ∧ z.cells.size = 1 := by
  have h1 : (Try.prog.info? 3).map (fun i => (i.zero.map (·.cells.size), i.size, i.bytes)) = some (some 1, 1, 8) := by kernel_rfl
  match hh : Try.prog.info? 3, h1 with
  | some i, h1 =>
    simp only [Option.map_some, Option.some.injEq, Prod.mk.injEq] at h1
    match hz : i.zero, h1 with
    | some z, h1 => exact ⟨i, z, rfl, hz, h1.2.1, h1.2.2, by simpa using h1.1⟩

set_option maxHeartbeats 1000000 in
theorem all_any (bk : Book) (cs : List Value) (l : List (List UInt8)) (A : Option Addr) (n c : Nat) (w : World) (F : Nat → Prop) (h : shBook.rep w F bk cs) (h' : Rds shStr w F l A n c) (hF : ∀ b, F b → b < w.heap.size) (hn : n ≤ 8796093022207) :
    Calls Try.prog 30 #[.agg cs.toArray, .slice A n c] w (RetAll w (bookAll bk l)) := by
  have hck := fun (W : World) (hW : Agree F w W) (hs : ∀ b, F b → b < W.heap.size) => bookCheck_any bk cs W F (shBook.keep hW h) hs
  obtain ⟨A0, l0, c0, rfl, hr⟩ := rep_book h
  have hbox : Below w.heap.size w ((w.alloc (.cells #[.slice A0 l0 c0] 39)).alloc (.cells #[.slice none 0 0] 39)) := ((Below.refl _ _).alloc (Nat.le_refl _) _).alloc (by simp) _
  have hck1 := hck _ ((Agree.below hbox).mono hF) (fun b hb => by have := hF b hb; simp; omega)
  have HC := Lib.hid hck1
  have HR := Lib.hid hr
  have HL := Lib.hid h'
  have hnc := h'.2.1
  have hcc := h'.2.2.1
  have hll := h'.1
  clear hck hck1 h hr h'
  by_cases h0 : bookCheck bk = 0
  · have E0 := Lib.hid h0
    have e1 : bookAll bk l = allGo l bk.texts [] := by simp only [bookAll]; rw [if_neg (by simp [h0])]
    rw [e1]
    have hl := bookCheck_len h0
    have hln := HR.out.1
    obtain ⟨i0, zv, hi, hz0, hz1, hz2, hz3⟩ := int_info2
    clear e1 h0
    go_enter Try.func30, Try.ntmps30
    go_wp2_with fail
    refine HC.out.mono ?_; rintro e w1 ⟨rfl, hb1⟩
    rw [E0.out]
    obtain ⟨hc1, hc2, hf1, hf2, hz⟩ := box2 hb1
    replace hc1 := hc1 0
    replace hc2 := hc2 0
    replace hf2 := hf2 0
    simp only [List.getElem?_toArray, List.getElem?_cons_zero] at hc1 hc2
    have hb2 := hbox.trans (hb1.mono (by simp; omega))
    have HB := Lib.hid hb2
    have hr1 := HR.out.keep ((Agree.below hb2).mono hF)
    have H1 := Lib.hid hr1
    clear hb1 hb2 hf1 hr1
    go_wp2_with fail
    refine (clone_str _ _ _ _ _ _ H1.out (fun b hb => by have := hF b hb; omega) (by omega)).mono ?_
    rintro e w2 ⟨v, zs, rfl, z1, z2, hown, hb2⟩
    obtain ⟨A1, c1', rfl, hr2⟩ := Rds.of_own (S := shStr) (F := fun b => w.heap.size + 2 ≤ b ∧ b < w2.heap.size) hown (by have := congrArg List.length z1; simp at this; omega) (fun z hz => z2 z hz) (fun g h1 h2 => ⟨by omega, h2⟩)
    rw [z1] at hr2
    have hc3 : w2.cell? ⟨w.heap.size + 1, 0, none⟩ = some (.slice none 0 0) := by rw [hb2.cell (p := ⟨w.heap.size + 1, 0, none⟩) hz]; exact hc2
    have hf3 : w2.frozen? ⟨w.heap.size + 1, 0, none⟩ = false := by rw [hb2.frozen (p := ⟨w.heap.size + 1, 0, none⟩) hz]; exact hf2
    have hb3 := HB.out.trans (hb2.mono HB.out.size)
    have hs3 := hb2.size
    have H2 := Lib.hid hr2
    have HB3 := Lib.hid hb3
    clear hr2 hb2 hb3 hc1 hc2 hf2 hown z1 z2
    go_wp2_with fail
    go_loopw [8, 9, 11, 12, 13, 14, 26] (fun t o _ _ _ _ i wr => ∃ (k : Nat) (tt : List (List UInt8)) (oo : List Int) (At : Option Addr) (nt ct : Nat), k ≤ n ∧ i = .int .i64 k ∧ t = .slice At nt ct ∧ tt.length ≤ 120 ∧ oo.length = k ∧ (∀ x ∈ oo, 0 ≤ x ∧ x ≤ 1000) ∧
        Rds shStr wr (fun b => w.heap.size + 2 ≤ b ∧ b < wr.heap.size ∧ o.ownBlock ≠ some b) tt At nt ct ∧ wr.ownsRow (w.heap.size + 2) 3 1 o k (oo.map (Value.int .i64)) ∧
        wr.cell? ⟨w.heap.size + 1, 0, none⟩ = some (.slice none 0 0) ∧ wr.frozen? ⟨w.heap.size + 1, 0, none⟩ = false ∧ Below w.heap.size w wr ∧ w.heap.size + 2 ≤ wr.heap.size ∧ allGo (l.drop k) tt oo = allGo l bk.texts []) (fun _ _ _ _ _ _ i _ => n - (intOf i).toNat)
    case atStart => exact ⟨0, bk.texts, [], A1, l0, c1', by omega, rfl, rfl, hl, rfl, by simp, H2.out.more (fun b hb => ⟨hb.1, hb.2, by simp [Value.ownBlock]⟩), World.ownsRow_nil _ _ _ _, hc3, hf3, HB3.out, by omega, rfl⟩
    case round =>
      obtain ⟨k, tt, oo, At, nt, ct, hk, rfl, rfl, ht, ho, hob, hrt, hown, hcb, hfb, hb, hwz, hs⟩ := hrel
      have HRT := Lib.hid hrt
      have HO := Lib.hid hown
      have HBr := Lib.hid hb
      have HOO := Lib.hid ho
      have hobx := Lib.hid hob
      have hln2 := hrt.1
      clear hrt hown hb ho hob
      by_cases hlt : k < n
      · obtain ⟨b, off, x, rfl, hFb, hx, hcell, x0⟩ := HL.out.str hlt
        rw [← HBr.out.cell (p := ⟨b, off + k, none⟩) (hF b hFb)] at hcell
        rw [drop_cons hx, allGo] at hs
        clear hx
        by_cases h4 : 4000 < x.length
        · rw [if_pos h4] at hs
          have HS := Lib.hid hs
          clear hs
          go_wp2_with fail
          refine bodyPost_ret (v := .tuple #[.agg #[.slice none 0 0], .slice none 0 0, .int .i64 2]) (by simp [results, Try.results30, go_sem, hcb]) rfl ?_
          rw [← HS.out]
          exact ⟨_, _, _, _, _, _, rfl, Rds.nil _ _ _, Rds.nil _ _ _, HBr.out.setCell (by simp) _⟩
        · rw [if_neg h4] at hs
          have HS := Lib.hid hs
          clear hs
          go_wp2_with fail
          refine (name_any _ _ _ _ _ _ _ HRT.out (fun b hb => hb.2.1) (by omega) x0).mono ?_
          rintro e w4 ⟨A2, n2, c2, rfl, hr4, hb4⟩
          have hcb4 : w4.cell? ⟨w.heap.size + 1, 0, none⟩ = some (.slice none 0 0) := by rw [hb4.cell (p := ⟨w.heap.size + 1, 0, none⟩) (by simp; omega)]; exact hcb
          have hfb4 : w4.frozen? ⟨w.heap.size + 1, 0, none⟩ = false := by rw [hb4.frozen (p := ⟨w.heap.size + 1, 0, none⟩) (by simp; omega)]; exact hfb
          have hb5 := HBr.out.trans (hb4.mono HBr.out.size)
          have hs4 := hb4.size
          have HO4 := Lib.hid (own_below HO.out hb4)
          have HR4 := Lib.hid hr4
          have HB5 := Lib.hid hb5
          have nb := nameN_bd (s := x) ht
          clear hr4 hb4 hb5 hcb hfb hcell
          by_cases he : nameE tt x = 0
          · have htl := nameL_len ht he
            have HS2 := HS.out
            rw [if_neg (by simp [he])] at HS2
            have HS3 := Lib.hid HS2
            rw [he]
            clear HS2 HS he
            go_wp2_with (at_builtin; refine wpList_append_own_at _ rfl _ _ 24 rfl (w.heap.size + 2) 3 i0 zv 1 8 Try.underlying24 hi hz0 hz1 hz2 hz3 (by omega) _ k (oo.map (Value.int .i64)) rfl (HO4.out.alloc _) ⟨w4.heap.size, 0, none⟩ 1 1 [.int .i64 (nameN tt x)] rfl rfl (cell_one_new _ _ _) (by intro u hu; simp at hu; subst hu; rfl) (by unfold maxLen; omega) (by omega) (by simp; omega) ?_; intro v5 w5 hown5 hgr5 _ hob5)
            have hgr : (w4.alloc (.cells #[.int .i64 (nameN tt x)] 3)).grownBy w5 u9.ownBlock := hgr5
            have hob : v5.ownBlock = u9.ownBlock ∨ v5.ownBlock = some (w4.alloc (.cells #[.int .i64 (nameN tt x)] 3)).heap.size := hob5
            have hge := fun k hk => own_ge HO.out (k := k) hk
            have hlt' := fun k hk => own_lt HO.out (k := k) hk
            go_roundw
            case measure => simp [intOf]; omega
            case rel =>
              have hB : u9.ownBlock ≠ some (w.heap.size + 1) := fun e => by have := hge _ e; omega
              have hblk := block_append hgr (b := w.heap.size + 1) (by omega) hB
              have hs5 := hgr.size
              simp only [World.size_alloc] at hs5
              refine ⟨k + 1, nameL tt x, oo ++ [nameN tt x], A2, n2, c2, by omega, by go_num, rfl, htl, by rw [List.length_append, HOO.out]; rfl, ?_, ?_, by rw [List.map_append]; exact hown5, ?_, ?_, ?_, by omega, HS3.out⟩
              · intro y hy
                rcases List.mem_append.1 hy with h | h
                · exact hobx.out y h
                · simp at h; subst h; exact nb
              · refine (keep_append hgr hob HR4.out (fun b hb => ⟨hb.2, fun e => by have := hlt' _ e; have := hb.1; omega⟩)).more fun b hb => ⟨by have := hb.1.1; omega, hb.2.1, hb.2.2⟩
              · rw [← hcb4]; exact World.cell?_of_block (w := w4) hblk
              · rw [← hfb4]; exact World.frozen?_of_block (w := w4) hblk
              · exact ((HB5.out.alloc HB5.out.size _).grown hgr (by have := HB5.out.size; simp; omega) (fun k hk => by have := hge _ hk; omega))
          · have HS2 := HS.out
            rw [if_pos he] at HS2
            have HS3 := Lib.hid HS2
            have hd : (nameE tt x == 0) = false := by simpa using he
            clear HS2 HS he
            go_wp2_with fail
            refine bodyPost_ret (v := .tuple #[.agg #[.slice none 0 0], .slice none 0 0, .int .i64 (nameE tt x)]) (by simp [results, Try.results30, go_sem, hcb4]) rfl ?_
            rw [← HS3.out]
            exact ⟨_, _, _, _, _, _, rfl, Rds.nil _ _ _, Rds.nil _ _ _, HB5.out.setCell (by simp) _⟩
      · obtain rfl : k = n := by omega
        rw [List.drop_eq_nil_of_le (by omega), allGo] at hs
        have HS := Lib.hid hs
        clear hs
        obtain ⟨A', c', ev, hri⟩ := Rds.of_own_int HO.out (fun x hx => by have := hobx.out x hx; omega)
        subst ev
        go_wp2_with fail
        refine bodyPost_ret (v := .tuple #[.agg #[.slice At nt ct], .slice A' k c', .int .i64 0]) (by simp [results, Try.results30, go_sem, hcb]) rfl ?_
        rw [← HS.out]
        refine ⟨_, _, _, _, _, _, rfl, ?_, ?_, HBr.out.setCell (by simp) _⟩
        · exact (HRT.out.keep fun b hb => Below.heap_setCell _ _ _ _ (by have := hb.1; simp; omega)).more fun b hb => ⟨by have := hb.1; omega, by simpa using hb.2.1⟩
        · exact (hri.keep fun b hb => Below.heap_setCell _ _ _ _ (by have := hb.1; simp; omega)).more fun b hb => ⟨by have := hb.1; omega, by simpa using hb.2⟩
  · have e1 : bookAll bk l = ([], [], bookCheck bk) := by simp only [bookAll]; rw [if_pos h0]
    rw [e1]
    have hd : (bookCheck bk == 0) = false := by simpa using h0
    clear e1 h0
    go_enter Try.func30, Try.ntmps30
    go_wp2_with fail
    refine HC.out.mono ?_; rintro e w1 ⟨rfl, hb1⟩
    obtain ⟨hc1, hc2, hf1, hf2, hz⟩ := box2 hb1
    replace hc2 := hc2 0
    replace hf2 := hf2 0
    simp only [List.getElem?_toArray, List.getElem?_cons_zero] at hc2
    have hb2 := hbox.trans (hb1.mono (by simp; omega))
    have hb3 := hb2.setCell (p := ⟨w.heap.size + 1, 0, none⟩) (by simp) (.slice none 0 0)
    have HB := Lib.hid hb3
    clear hb1 hb2 hb3 hf1 hc1
    go_wp2_with fail
    refine bodyPost_ret (v := .tuple #[.agg #[.slice none 0 0], .slice none 0 0, .int .i64 (bookCheck bk)]) (by simp [results, Try.results30, go_sem, hc2]) rfl ⟨_, _, _, _, _, _, rfl, Rds.nil _ _ _, Rds.nil _ _ _, HB.out⟩

end Go.Proofs.Ytnnbnjanekibpaa
