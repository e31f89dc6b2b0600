/- The reference's book: CheckBook, Named, NamedAll: contracts by walks. -/
import Derived.Test.YtnnbnjanekibpaaBook2
import Derived.Test.YtnnbnjanekibpaaConcat
namespace Go.Proofs.Ytnnbnjanekibpaa
open Go.RowKit
set_option linter.unusedVariables false
set_option maxRecDepth 100000

theorem idxGo_lt {α : Type} [DecidableEq α] (x : α) (l : List α) (j k : Nat) (hj : j < l.length) (hx : l[j]? = some x) : (idxGo x l k < k + j ↔ x ∈ l.take j) := by
  induction l generalizing j k with
  | nil => simp at hj
  | cons y l ih =>
    cases j with
    | zero =>
      simp at hx
      subst hx
      simp [idxGo]
    | succ j =>
      simp at hx hj
      by_cases h : x = y
      · subst h; simp [idxGo]; omega
      · have := ih j (k + 1) hj hx
        rw [idxGo, if_neg h, List.take_succ_cons, List.mem_cons]
        simp only [h, false_or]
        rw [← this]
        constructor <;> intro h' <;> omega
theorem idx_lt {α : Type} [DecidableEq α] {l : List α} {x : α} {j : Nat} (hx : l[j]? = some x) : (idx l x < j ↔ x ∈ l.take j) := by
  have hj : j < l.length := (List.getElem?_eq_some_iff.1 hx).1
  have := idxGo_lt x l j 0 hj hx
  simpa [idx] using this


theorem refBook_any (bk : Book) (cs : List Value) (w : World) (F : Nat → Prop) (h : shBook.rep w F bk cs) (hF : ∀ b, F b → b < w.heap.size) :
    Calls Try.prog 33 #[.agg cs.toArray] w fun e w' => e = .returned (.int .i64 (bookCheck bk)) ∧ Below w.heap.size w w' := by
  obtain ⟨A, n, c, rfl, hr⟩ := rep_book h
  obtain ⟨texts⟩ := bk
  simp only at hr
  have hn := hr.2.1
  have hc := hr.2.2.1
  have hl := hr.1
  by_cases h120 : 120 < n
  · have e : bookCheck ⟨texts⟩ = 2 := by simp only [bookCheck]; rw [if_pos (by omega)]
    rw [e]
    clear e hl
    go_enter Try.func33, Try.ntmps33
    go_wp2
    go_ret
    exact ⟨rfl, (Below.refl _ _).alloc (Nat.le_refl _) _⟩
  · have e : bookCheck ⟨texts⟩ = bookGo texts [] := by simp only [bookCheck]; rw [if_neg (by omega)]
    rw [e]
    have HR := Lib.hid hr
    have hbox : Below w.heap.size w (w.alloc (.cells #[.slice A n c] 39)) := (Below.refl _ _).alloc (Nat.le_refl _) _
    have HR1 := Lib.hid (hr.keep ((Agree.below hbox).mono hF))
    have HBX := Lib.hid hbox
    have HLN := Lib.hid hl
    clear e hl hr h hbox
    go_enter Try.func33, Try.ntmps33
    go_wp2
    go_loop [3, 4, 12] (fun _ _ i => ∃ k : Nat, k ≤ n ∧ i = .int .i64 k ∧ bookGo (texts.drop k) (texts.take k).reverse = bookGo texts []) (fun _ _ i => n - (intOf i).toNat)
    case atStart => exact ⟨0, by omega, rfl, rfl⟩
    case round =>
      obtain ⟨k, hk, rfl, hs⟩ := hrel
      by_cases hlt : k < n
      · obtain ⟨b, off, x, rfl, hFb, hx, hcell, x0⟩ := HR1.out.str hlt
        rw [drop_cons hx, bookGo] at hs
        have ht := take_snoc hx
        have hil := idx_lt hx
        have hbd := idx_bd texts x
        simp only [List.mem_reverse] at hs
        have HT := Lib.hid ht
        clear ht hx
        by_cases h4 : 4000 < x.length
        · rw [if_pos h4] at hs
          have HS := Lib.hid hs
          clear hs hil
          go_wp2_with fail
          go_ret
          exact ⟨ret_int HS.out, HBX.out⟩
        · rw [if_neg h4] at hs
          by_cases hm : x ∈ texts.take k
          · rw [if_pos hm] at hs
            have hi : idx texts x < (k : Int) := hil.2 hm
            have HS := Lib.hid hs
            clear hs hm hil
            go_wp2_with fail
            refine (index_str _ _ _ _ _ _ _ HR1.out).mono ?_; rintro e w' ⟨rfl, rfl⟩
            go_wp2_with fail
            go_ret
            exact ⟨ret_int HS.out, HBX.out⟩
          · rw [if_neg hm] at hs
            have hi : (k : Int) ≤ idx texts x := by
              rcases Int.lt_or_le (idx texts x) k with h | h
              · exact absurd (hil.1 h) hm
              · exact h
            have HS := Lib.hid hs
            clear hs hm hil
            go_wp2_with fail
            refine (index_str _ _ _ _ _ _ _ HR1.out).mono ?_; rintro e w' ⟨rfl, rfl⟩
            go_wp2_with fail
            go_round
            case measure => simp [intOf]; omega
            case rel => exact ⟨k + 1, by omega, by go_num, by rw [HT.out, List.reverse_append]; exact HS.out⟩
      · obtain rfl : k = n := by omega
        rw [List.drop_eq_nil_of_le (by rw [HLN.out]; omega), bookGo] at hs
        have HS := Lib.hid hs
        clear hs
        go_wp2
        go_ret
        exact ⟨ret_int HS.out, HBX.out⟩

/-- What was there, and what a call has made. -/
def Plus (F : Nat → Prop) (w w' : World) : Nat → Prop := fun b => F b ∨ (w.heap.size ≤ b ∧ b < w'.heap.size)
/-- The reference's Named: three results, the first a slice of texts, old or new. -/
def RetStrsP (F : Nat → Prop) (w : World) (l : List (List UInt8)) (a b : Int) (e : Ending) (w' : World) : Prop :=
  ∃ A n c, e = .returned (.tuple #[.slice A n c, .int .i64 a, .int .i64 b]) ∧ Rds shStr w' (Plus F w w') l A n c ∧ Below w.heap.size w w'
def refNameL (l : List (List UInt8)) (s : List UInt8) : List (List UInt8) := if 4000 < s.length then [] else nameL l s
def refNameN (l : List (List UInt8)) (s : List UInt8) : Int := if 4000 < s.length then 0 else nameN l s
def refNameE (l : List (List UInt8)) (s : List UInt8) : Int := if 4000 < s.length then 2 else nameE l s

theorem pair_rds {α : Type} {S : Sh α} {w : World} {F : Nat → Prop} {g t : Nat} {A A' : Option Addr} {n c n' c' : Nat} {xs ys : List α} (hh : w.heap[g]? = some (.cells #[.slice A n c, .slice A' n' c'] t (0, 0))) (hg : F g)
    (h : Rds S w F xs A n c) (h' : Rds S w F ys A' n' c') : Rds (shSlice S) w F [xs, ys] (some ⟨g, 0, none⟩) 2 2 :=
  ⟨rfl, by omega, by omega, fun _ => ⟨g, 0, rfl, hg, fun i hi => by
    match i, hi with
    | 0, _ => exact ⟨_, ⟨A, n, c, rfl, h⟩, fun j v hj => by
        match j, hj with
        | 0, hj => simp at hj; subst hj; rw [cell_of_row w g _ _ _ _ hh]; simp [shSlice]⟩
    | 1, _ => exact ⟨_, ⟨A', n', c', rfl, h'⟩, fun j v hj => by
        match j, hj with
        | 0, hj => simp at hj; subst hj; rw [cell_of_row w g _ _ _ _ hh]; simp [shSlice]⟩⟩⟩
theorem one_rds_str {w : World} {F : Nat → Prop} {g t : Nat} {s : List UInt8} (hh : w.heap[g]? = some (.cells #[.string ⟨s.toArray⟩] t (0, 0))) (hg : F g) (hs : s.length ≤ 9223372036854775807) : Rds shStr w F [s] (some ⟨g, 0, none⟩) 1 1 :=
  ⟨rfl, by omega, by omega, fun _ => ⟨g, 0, rfl, hg, fun i hi => by
    match i, hi with
    | 0, _ => exact ⟨_, ⟨rfl, hs⟩, fun j v hj => by
        match j, hj with
        | 0, hj => simp at hj; subst hj; rw [cell_of_row w g _ _ _ _ hh]; simp [shStr]⟩⟩⟩


theorem refNamed_any (l : List (List UInt8)) (s : List UInt8) (A : Option Addr) (n c : Nat) (w : World) (F : Nat → Prop) (h : Rds shStr w F l A n c) (hF : ∀ b, F b → b < w.heap.size) (hn : n ≤ 120) (hs : s.length ≤ 9223372036854775807) :
    Calls Try.prog 35 #[.slice A n c, .string ⟨s.toArray⟩] w (RetStrsP F w (refNameL l s) (refNameN l s) (refNameE l s)) := by
  have hln := h.1
  have hc := h.2.1
  have hcc := h.2.2.1
  by_cases h4 : 4000 < s.length
  · have e1 : refNameL l s = [] := by simp only [refNameL]; rw [if_pos h4]
    have e2 : refNameN l s = 0 := by simp only [refNameN]; rw [if_pos h4]
    have e3 : refNameE l s = 2 := by simp only [refNameE]; rw [if_pos h4]
    rw [e1, e2, e3]
    clear e1 e2 e3 hln
    go_enter Try.func35, Try.ntmps35
    go_wp2_with fail
    refine bodyPost_ret (results_tmp3 rfl _ _ _) rfl ?_
    exact ⟨_, _, _, rfl, Rds.nil _ _ _, Below.refl _ _⟩
  · have e1 : refNameL l s = nameL l s := by simp only [refNameL]; rw [if_neg h4]
    have e2 : refNameN l s = nameN l s := by simp only [refNameN]; rw [if_neg h4]
    have e3 : refNameE l s = nameE l s := by simp only [refNameE]; rw [if_neg h4]
    rw [e1, e2, e3]
    have HLN := Lib.hid hln
    have H := Lib.hid h
    clear e1 e2 e3 hln h
    go_enter Try.func35, Try.ntmps35
    go_wp2_with fail
    go_loop [7, 8, 14] (fun _ _ i => ∃ k : Nat, k ≤ n ∧ i = .int .i64 k ∧ idxGo s (l.drop k) k = idx l s) (fun _ _ i => n - (intOf i).toNat)
    case atStart => exact ⟨0, by omega, rfl, rfl⟩
    case round =>
      obtain ⟨k, hk, rfl, hi⟩ := hrel
      by_cases hlt : k < n
      · obtain ⟨b, off, x, rfl, hFb, hx, hcell, x0⟩ := H.out.str hlt
        rw [drop_cons hx, idxGo] at hi
        clear hx
        by_cases hsx : s = x
        · subst hsx
          rw [if_pos rfl] at hi
          have HI := Lib.hid hi
          clear hi
          go_wp2_with fail
          refine bodyPost_ret (results_tmp3 rfl _ _ _) rfl ?_
          have h0 : 0 ≤ idx l s := by rw [← HI.out]; omega
          refine ⟨some ⟨b, off, none⟩, n, c, ?_, ?_, Below.refl _ _⟩
          · simp only [nameN, nameE]; rw [if_pos h0, if_pos h0, ← HI.out]; rfl
          · simp only [nameL]; rw [if_pos h0]; exact H.out.more (fun b hb => .inl hb)
        · rw [if_neg hsx] at hi
          have HI := Lib.hid hi
          have hd : (x == s) = false := by simpa using fun e : x = s => hsx e.symm
          clear hi hsx
          go_wp2_with fail
          go_round
          case measure => simp [intOf]; omega
          case rel => exact ⟨k + 1, by omega, by go_num, HI.out⟩
      · obtain rfl : k = n := by omega
        rw [List.drop_eq_nil_of_le (by rw [HLN.out]; omega), idxGo] at hi
        have h0 : ¬ (0 ≤ idx l s) := by rw [← hi]; omega
        have H0 := Lib.hid h0
        clear hi h0 hlt
        by_cases hf : k = 120
        · have hf' : (120 : Int) ≤ (k : Int) := by omega
          have HF := Lib.hid hf
          clear hf
          go_wp2_with fail
          refine bodyPost_ret (results_tmp3 rfl _ _ _) rfl ?_
          have hneg : ¬ (0 ≤ idx l s) := by have := H0.out; omega
          have e : l.length = 120 := by rw [HLN.out, HF.out]
          refine ⟨none, 0, 0, ?_, ?_, Below.refl _ _⟩
          · simp only [nameN, nameE]; rw [if_neg hneg, if_neg hneg, if_pos e, if_pos e]; rfl
          · simp only [nameL]; rw [if_neg hneg, if_pos e]; exact Rds.nil _ _ _
        · have hf' : (k : Int) < 120 := by omega
          have HF := Lib.hid hf
          clear hf
          have hb1 : Below w.heap.size w (w.alloc (.cells #[.string ⟨s.toArray⟩] 9)) := (Below.refl _ _).alloc (Nat.le_refl _) _
          have hb2 : Below w.heap.size w ((w.alloc (.cells #[.string ⟨s.toArray⟩] 9)).alloc (.cells #[.slice A k c, .slice (some ⟨w.heap.size, 0, none⟩) 1 1] 37)) := hb1.alloc (by simp) _
          have hg2 := heap_alloc_new (w.alloc (.cells #[.string ⟨s.toArray⟩] 9)) (.cells #[.slice A k c, .slice (some ⟨w.heap.size, 0, none⟩) 1 1] 37)
          simp only [World.size_alloc] at hg2
          have hg1 : ((w.alloc (.cells #[.string ⟨s.toArray⟩] 9)).alloc (.cells #[.slice A k c, .slice (some ⟨w.heap.size, 0, none⟩) 1 1] 37)).heap[w.heap.size]? = some (.cells #[.string ⟨s.toArray⟩] 9 (0, 0)) := by
            rw [Below.heap_alloc _ _ _ (by simp), heap_alloc_new]
          have hr := pair_rds (F := fun b => F b ∨ (w.heap.size ≤ b ∧ b < w.heap.size + 2)) hg2 (.inr ⟨by omega, by omega⟩) ((H.out.keep ((Agree.below hb2).mono hF)).more fun b hb => .inl hb) (one_rds_str hg1 (.inr ⟨by omega, by omega⟩) hs)
          have HR := Lib.hid hr
          have HB := Lib.hid hb2
          clear hr hb1 hb2 hg1 hg2
          go_wp2_with fail
          have htot : total [l, [s]] = k + 1 := by simp [total, HLN.out]
          refine (concat_str _ _ _ _ _ _ HR.out (fun b hb => hb.elim (fun h => by have := hF b h; simp; omega) (fun h => by have := h.2; simp; omega)) (by omega)).mono ?_
          rintro e w3 ⟨v, zs, rfl, z1, z2, hown, hb3⟩
          rw [htot] at hown
          obtain ⟨A3, c3, rfl, hr3⟩ := Rds.of_own (S := shStr) (F := Plus F w w3) hown (by have := congrArg List.length z1; simp at this; have := HLN.out; omega) (fun z hz => z2 z hz) (fun g h1 h2 => .inr ⟨by simp at h1; omega, h2⟩)
          rw [z1] at hr3
          have HR3 := Lib.hid hr3
          have HB3 := Lib.hid (HB.out.trans (hb3.mono HB.out.size))
          clear hr3 hb3 hown z1 z2 htot
          go_wp2_with fail
          refine bodyPost_ret (results_tmp3 rfl _ _ _) rfl ?_
          have hneg : ¬ (0 ≤ idx l s) := by have := H0.out; omega
          have e : ¬ l.length = 120 := by rw [HLN.out]; exact HF.out
          refine ⟨A3, k + 1, c3, ?_, ?_, HB3.out⟩
          · simp only [nameN, nameE]; rw [if_neg hneg, if_neg hneg, if_neg e, if_neg e, HLN.out]; rfl
          · simp only [nameL]; rw [if_neg hneg, if_neg e]; simpa using HR3.out

def refAllGo : List (List UInt8) → List (List UInt8) → List Int → List (List UInt8) × List Int × Int
  | [], t, o => (t, o, 0)
  | s :: l, t, o => if refNameE t s ≠ 0 then ([], [], refNameE t s) else refAllGo l (refNameL t s) (o ++ [refNameN t s])
theorem refAll_eq (l t : List (List UInt8)) (o : List Int) : refAllGo l t o = allGo l t o := by
  induction l generalizing t o with
  | nil => rfl
  | cons s l ih =>
    simp only [refAllGo, allGo, refNameE, refNameL, refNameN]
    by_cases h : 4000 < s.length
    · simp [h]
    · simp only [if_neg h, ih]

/-- The reference's NamedAll. -/
def RetAllP (F : Nat → Prop) (w : World) (r : List (List UInt8) × List Int × Int) (e : Ending) (w' : World) : Prop :=
  ∃ A n c A' n' c', e = .returned (.tuple #[.slice A n c, .slice A' n' c', .int .i64 r.2.2]) ∧ Rds shStr w' (Plus F w w') r.1 A n c ∧ Rds shInt w' (Mid w w') r.2.1 A' n' c' ∧ Below w.heap.size w w'


set_option maxHeartbeats 1000000 in
theorem refAll_any (t l : List (List UInt8)) (A0 A : Option Addr) (n0 c0 n c : Nat) (w : World) (F : Nat → Prop) (h : Rds shStr w F t A0 n0 c0) (h' : Rds shStr w F l A n c) (hF : ∀ b, F b → b < w.heap.size) (ht : n0 ≤ 120) (hn : n ≤ 8796093022207) :
    Calls Try.prog 36 #[.slice A0 n0 c0, .slice A n c] w (RetAllP F w (allGo l t [])) := by
  have hnc := h'.2.1
  have hcc := h'.2.2.1
  have hll := h'.1
  have htl := h.1
  have H0 := Lib.hid (h.more (F' := Plus F w w) fun b hb => .inl hb)
  have HL := Lib.hid h'
  obtain ⟨i0, zv, hi, hz0, hz1, hz2, hz3⟩ := int_info2
  clear h h'
  go_enter Try.func36, Try.ntmps36
  go_wp2_with fail
  go_loopw [0, 7, 9, 10, 11, 12, 15] (fun tv o _ _ _ _ i wr => ∃ (k : Nat) (tt : List (List UInt8)) (oo : List Int) (At : Option Addr) (nt ct : Nat), k ≤ n ∧ i = .int .i64 k ∧ tv = .slice At nt ct ∧ tt.length ≤ 120 ∧ oo.length = k ∧ (∀ x ∈ oo, 0 ≤ x ∧ x ≤ 1000) ∧
      Rds shStr wr (fun b => Plus F w wr b ∧ o.ownBlock ≠ some b) tt At nt ct ∧ wr.ownsRow w.heap.size 3 1 o k (oo.map (Value.int .i64)) ∧ Below w.heap.size w wr ∧ allGo (l.drop k) tt oo = allGo l t []) (fun _ _ _ _ _ _ i _ => n - (intOf i).toNat)
  case atStart => exact ⟨0, t, [], A0, n0, c0, by omega, rfl, rfl, by omega, rfl, by simp, H0.out.more (fun b hb => ⟨hb, by simp [Value.ownBlock]⟩), World.ownsRow_nil _ _ _ _, Below.refl _ _, rfl⟩
  case round =>
    obtain ⟨k, tt, oo, At, nt, ct, hk, rfl, rfl, ht, ho, hob, hrt, hown, hb, hs⟩ := hrel
    have HRT := Lib.hid hrt
    have HO := Lib.hid hown
    have HBr := Lib.hid hb
    have HOO := Lib.hid ho
    have hobx := Lib.hid hob
    have hln2 := hrt.1
    clear hrt hown hb ho hob
    by_cases hlt : k < n
    · obtain ⟨b, off, x, rfl, hFb, hx, hcell, x0⟩ := HL.out.str hlt
      rw [← HBr.out.cell (p := ⟨b, off + k, none⟩) (hF b hFb)] at hcell
      rw [drop_cons hx, allGo] at hs
      clear hx
      have HS := Lib.hid hs
      clear hs
      have hsz := HBr.out.size
      go_wp2_with fail
      refine (refNamed_any _ _ _ _ _ _ _ HRT.out (fun b hb => hb.1.elim (fun h => by have := hF b h; omega) (fun h => h.2)) (by omega) x0).mono ?_
      rintro e w4 ⟨A2, n2, c2, rfl, hr4, hb4⟩
      have hb5 := HBr.out.trans (hb4.mono HBr.out.size)
      have hs4 := hb4.size
      have HO4 := Lib.hid (own_below HO.out hb4)
      have HR4 := Lib.hid hr4
      have HB5 := Lib.hid hb5
      have nb := nameN_bd (s := x) ht
      clear hr4 hb4 hb5 hcell
      by_cases h4 : 4000 < x.length
      · have e1 : refNameE tt x = 2 := by simp only [refNameE]; rw [if_pos h4]
        rw [e1]
        have HS2 := HS.out
        rw [if_pos h4] at HS2
        have HS3 := Lib.hid HS2
        clear HS2 HS e1
        go_wp2_with fail
        refine bodyPost_ret (results_tmp3 rfl _ _ _) rfl ?_
        rw [← HS3.out]
        exact ⟨_, _, _, _, _, _, rfl, Rds.nil _ _ _, Rds.nil _ _ _, HB5.out⟩
      · have e1 : refNameE tt x = nameE tt x := by simp only [refNameE]; rw [if_neg h4]
        have e2 : refNameN tt x = nameN tt x := by simp only [refNameN]; rw [if_neg h4]
        have e3 : refNameL tt x = nameL tt x := by simp only [refNameL]; rw [if_neg h4]
        have hr5 := HR4.out
        rw [e3] at hr5
        have HR5 := Lib.hid hr5
        rw [e1, e2]
        have HS2 := HS.out
        rw [if_neg h4] at HS2
        have HS3 := Lib.hid HS2
        clear HS2 HS e1 e2 e3 hr5 HR4
        by_cases he : nameE tt x = 0
        · have htl2 := nameL_len ht he
          have HS2 := HS3.out
          rw [if_neg (by simp [he])] at HS2
          have HS4 := Lib.hid HS2
          rw [he]
          clear HS2 HS3 he
          go_wp2_with (at_builtin; refine wpList_append_own_at _ rfl _ _ 24 rfl w.heap.size 3 i0 zv 1 8 Try.underlying24 hi hz0 hz1 hz2 hz3 (by omega) _ k (oo.map (Value.int .i64)) rfl (HO4.out.alloc _) ⟨w4.heap.size, 0, none⟩ 1 1 [.int .i64 (nameN tt x)] rfl rfl (cell_one_new _ _ _) (by intro u hu; simp at hu; subst hu; rfl) (by unfold maxLen; omega) (by omega) (by simp; omega) ?_; intro v5 w5 hown5 hgr5 _ hob5)
          have hgr : (w4.alloc (.cells #[.int .i64 (nameN tt x)] 3)).grownBy w5 u7.ownBlock := hgr5
          have hob : v5.ownBlock = u7.ownBlock ∨ v5.ownBlock = some (w4.alloc (.cells #[.int .i64 (nameN tt x)] 3)).heap.size := hob5
          have hge := fun k hk => own_ge HO.out (k := k) hk
          have hlt' := fun k hk => own_lt HO.out (k := k) hk
          go_roundw
          case measure => simp [intOf]; omega
          case rel =>
            have hs5 := hgr.size
            simp only [World.size_alloc] at hs5
            refine ⟨k + 1, nameL tt x, oo ++ [nameN tt x], A2, n2, c2, by omega, by go_num, rfl, htl2, by rw [List.length_append, HOO.out]; rfl, ?_, ?_, by rw [List.map_append]; exact hown5, ?_, HS4.out⟩
            · intro y hy
              rcases List.mem_append.1 hy with h | h
              · exact hobx.out y h
              · simp at h; subst h; exact nb
            · have hz := HBr.out.size
              refine (keep_append hgr hob HR5.out (fun b hb => ?_)).more fun b hb => ⟨?_, hb.2.2⟩
              · rcases hb with ⟨h1, h2⟩ | h
                · refine ⟨?_, h2⟩
                  rcases h1 with h1 | h1
                  · have := hF b h1; omega
                  · have := h1.2; omega
                · exact ⟨h.2, fun e => by have := hlt' _ e; omega⟩
              · rcases hb.1 with ⟨h1, h2⟩ | h
                · rcases h1 with h1 | h1
                  · exact .inl h1
                  · exact .inr ⟨h1.1, hb.2.1⟩
                · exact .inr ⟨by omega, hb.2.1⟩
            · exact ((HB5.out.alloc HB5.out.size _).grown hgr (by have := HB5.out.size; simp; omega) (fun k hk => hge _ hk))
        · have HS2 := HS3.out
          rw [if_pos he] at HS2
          have HS4 := Lib.hid HS2
          have hd : (nameE tt x == 0) = false := by simpa using he
          clear HS2 HS3 he
          go_wp2_with fail
          refine bodyPost_ret (results_tmp3 rfl _ _ _) rfl ?_
          rw [← HS4.out]
          exact ⟨_, _, _, _, _, _, rfl, Rds.nil _ _ _, Rds.nil _ _ _, HB5.out⟩
    · obtain rfl : k = n := by omega
      rw [List.drop_eq_nil_of_le (by omega), allGo] at hs
      have HS := Lib.hid hs
      clear hs
      obtain ⟨A', c', ev, hri⟩ := Rds.of_own_int HO.out (fun x hx => by have := hobx.out x hx; omega)
      subst ev
      go_wp2_with fail
      refine bodyPost_ret (results_tmp3 rfl _ _ _) rfl ?_
      rw [← HS.out]
      exact ⟨_, _, _, _, _, _, rfl, HRT.out.more (fun b hb => hb.1), hri.more fun b hb => hb, HBr.out⟩

end Go.Proofs.Ytnnbnjanekibpaa
