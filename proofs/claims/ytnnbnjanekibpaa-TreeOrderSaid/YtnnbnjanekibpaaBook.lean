/- Package book and its reference: contracts by walks. -/
import Derived.Test.YtnnbnjanekibpaaSlices2
import Derived.Test.YtnnbnjanekibpaaClones
import Derived.Maps.OwnOps
import Derived.Maps.Views
namespace Go.Proofs.Ytnnbnjanekibpaa
open Go.RowKit
set_option linter.unusedVariables false
set_option maxRecDepth 100000

theorem bsize (s : List UInt8) : (⟨s.toArray⟩ : ByteArray).size = s.length := by simp [ByteArray.size]
/-- Two boxes of the call's own behind later steps. -/
theorem box2 {w w1 : World} {cs cs2 : Array Value} {t t2 : Nat} (hb : Below ((w.alloc (.cells cs t)).alloc (.cells cs2 t2)).heap.size ((w.alloc (.cells cs t)).alloc (.cells cs2 t2)) w1) :
    (∀ i, w1.cell? ⟨w.heap.size, i, none⟩ = cs[i]?) ∧ (∀ i, w1.cell? ⟨w.heap.size + 1, i, none⟩ = cs2[i]?) ∧ (∀ i, w1.frozen? ⟨w.heap.size, i, none⟩ = false) ∧ (∀ i, w1.frozen? ⟨w.heap.size + 1, i, none⟩ = false) ∧ w.heap.size + 1 < w1.heap.size := by
  have h1 : w1.heap[w.heap.size]? = some (.cells cs t (0, 0)) := by rw [hb.block _ (by simp; omega), Below.heap_alloc _ _ _ (by simp), heap_alloc_new]
  have h2 : w1.heap[w.heap.size + 1]? = some (.cells cs2 t2 (0, 0)) := by
    have := heap_alloc_new (w.alloc (.cells cs t)) (.cells cs2 t2)
    simp only [World.size_alloc] at this
    rw [hb.block _ (by simp), this]
  refine ⟨fun i => cell_of_row _ _ _ _ _ _ h1, fun i => cell_of_row _ _ _ _ _ _ h2, fun i => frozen_of_row _ _ _ _ _ h1, fun i => frozen_of_row _ _ _ _ _ h2, ?_⟩
  have := hb.size
  simp at this
  omega
/-- A map of texts to true, as its keys were put. -/
def setD : List (List UInt8) → DataW Unit
  | [] => .map []
  | s :: l => (setD l).put (.string s) (.lit (.bool true))
theorem setD_map (l : List (List UInt8)) : Maps.IsMap (setD l) := by
  induction l with
  | nil => exact ⟨[], rfl⟩
  | cons s l ih =>
    obtain ⟨es, h⟩ := ih
    rw [setD, h]
    exact ⟨_, rfl⟩
theorem setD_at (l : List (List UInt8)) (s : List UInt8) : (setD l).atKey (.string s) (.lit (.bool false)) = .lit (.bool (decide (s ∈ l))) := by
  induction l with
  | nil => rfl
  | cons t l ih =>
    rw [setD]
    by_cases h : s = t
    · subst h
      rw [Maps.atKey_put_same (setD_map l) (by trivial)]
      simp
    · rw [Maps.atKey_put_other (by intro e; injection e with e; exact h e), ih]
      simp [h]

def bookGo : List (List UInt8) → List (List UInt8) → Int
  | [], _ => 0
  | s :: l, seen => if 4000 < s.length then 2 else if s ∈ seen then 6 else bookGo l (s :: seen)
def bookCheck (b : Book) : Int := if 120 < b.texts.length then 2 else bookGo b.texts []

theorem lookup_bool {P : Program} {k e t : TypeId} {w : World} {b n : Nat} {l : List (List UInt8)} (h : w.ownsMap P k (plainElem P e) b n (setD l)) (hk : P.underlying k = some .string) (ht : P.underlying t = some (.map k e)) (he : P.underlying e = some .bool)
    (hz : (zeroValue e).run P w = .ok (.bool false) w) (s : List UInt8) (hs : s.length ≤ 9223372036854775807) :
    (Instr.lookup t (.map (some b)) (.string ⟨s.toArray⟩) false).run P w = .ok (.bool (decide (s ∈ l))) w := by
  have hkey := WideMaps.keyOf_string_mk (P := P) hk (s := ⟨s.toArray⟩) (by rw [bsize]; unfold maxLen; exact hs)
  obtain ⟨v, ps, hrun, hv⟩ := h.lookup (Maps.string_keyed hk) ht hz (plainElem_bool he false) hkey
  have e1 : ((⟨s.toArray⟩ : ByteArray).data.toList) = s := rfl
  rw [e1, setD_at] at hv
  unfold plainElem at hv
  rw [he] at hv
  cases v <;> simp at hv
  obtain ⟨hv, _⟩ := hv
  rw [hrun, hv]


theorem bookCheck_any (bk : Book) (cs : List Value) (w : World) (F : Nat → Prop) (h : shBook.rep w F bk cs) (hF : ∀ b, F b → b < w.heap.size) :
    Calls Try.prog 34 #[.agg cs.toArray] w fun e w' => e = .returned (.int .i64 (bookCheck bk)) ∧ Below w.heap.size w w' := by
  obtain ⟨A, n, c, rfl, hr⟩ := rep_book h
  obtain ⟨texts⟩ := bk
  simp only at hr
  have hn := hr.2.1
  have hc := hr.2.2.1
  have hl := hr.1
  have hmm := @run_makeMap Try.prog
  have hzf : ∀ W : World, (zeroValue 4).run Try.prog W = .ok (.bool false) W := fun W => by kernel_rfl
  by_cases h120 : 120 < n
  · have e : bookCheck ⟨texts⟩ = 2 := by simp only [bookCheck]; rw [if_pos (by omega)]
    rw [e]
    clear e hl
    go_enter Try.func34, Try.ntmps34
    go_wp2
    go_ret
    exact ⟨rfl, (Below.refl _ _).alloc (Nat.le_refl _) _⟩
  · have e : bookCheck ⟨texts⟩ = bookGo texts [] := by simp only [bookCheck]; rw [if_neg (by omega)]
    rw [e]
    have HR := Lib.hid hr
    have HZ := Lib.hid hzf
    clear e hl hr h hzf
    go_enter Try.func34, Try.ntmps34
    go_wp2
    go_loopw [5, 14] (fun _ i wr => ∃ k : Nat, k ≤ n ∧ i = .int .i64 k ∧ wr.ownsMap Try.prog 9 (plainElem Try.prog 4) (w.heap.size + 1) k (setD (texts.take k).reverse) ∧ bookGo (texts.drop k) (texts.take k).reverse = bookGo texts [] ∧ Below w.heap.size w wr) (fun _ i _ => n - (intOf i).toNat)
    case atStart =>
      refine ⟨0, by omega, rfl, ?_, rfl, ((Below.refl _ _).alloc (Nat.le_refl _) _).alloc (by simp) _⟩
      have := World.ownsMap_made (H := Unit) (w.alloc (.cells #[.slice A n c] 39)) Try.prog 9 (plainElem Try.prog 4)
      simpa [setD] using this
    case round =>
      obtain ⟨k, hk, rfl, hown, hs, hb⟩ := hrel
      by_cases hlt : k < n
      · obtain ⟨b, off, x, rfl, hFb, hx, hcell, x0⟩ := HR.out.str hlt
        rw [← hb.cell (p := ⟨b, off + k, none⟩) (hF b hFb)] at hcell
        rw [drop_cons hx, bookGo] at hs
        have ht := take_snoc hx
        have hlk := lookup_bool hown Try.underlying9 Try.underlying120 Try.underlying4 (HZ.out wr) x x0
        simp only [List.mem_reverse] at hlk hs
        have HO := Lib.hid hown
        have HB := Lib.hid hb
        have HT := Lib.hid ht
        have HX := Lib.hid hx
        have kx := Lib.hid (WideMaps.keyOf_string_mk (P := Try.prog) Try.underlying9 (s := ⟨x.toArray⟩) (by rw [bsize]; unfold maxLen; exact x0))
        clear hown hb ht hx
        by_cases h4 : 4000 < x.length
        · rw [if_pos h4] at hs
          have HS := Lib.hid hs
          clear hs hlk
          go_wp2
          go_ret
          exact ⟨ret_int HS.out, HB.out⟩
        · rw [if_neg h4] at hs
          by_cases hm : x ∈ texts.take k
          · rw [if_pos hm] at hs
            rw [decide_eq_true hm] at hlk
            have HS := Lib.hid hs
            clear hs hm
            go_wp2
            go_ret
            exact ⟨ret_int HS.out, HB.out⟩
          · rw [if_neg hm] at hs
            rw [decide_eq_false hm] at hlk
            have HS := Lib.hid hs
            clear hs hm
            go_wp2_with (at_mapUpdate; refine wpList_mapUpdate_own _ rfl _ _ _ 120 rfl 9 4 (Maps.string_keyed Try.underlying9) Try.underlying120 (plainElem Try.prog 4) (w.heap.size + 1) k _ rfl HO.out (by unfold maxLen; omega) _ _ (.string x) rfl rfl kx.out (.lit (.bool true)) [] (plainElem_bool Try.underlying4 true) ?_; intro w1 hown1 hgr1)
            go_roundw
            case measure => simp [intOf]; omega
            case rel =>
              refine ⟨k + 1, by omega, by go_num, ?_, ?_, HB.out.grown hgr1 HB.out.size (fun j hj => by injection hj with hj; omega)⟩
              · rw [HT.out, List.reverse_append]; exact hown1
              · rw [HT.out, List.reverse_append]; exact HS.out
      · obtain rfl : k = n := by omega
        have HS := Lib.hid hs
        clear hs
        go_wp2
        go_ret
        have := HS.out
        rw [List.drop_eq_nil_of_le (by have := HR.out.1; omega), bookGo] at this
        exact ⟨ret_int this, hb⟩

/-- The blocks that a call has made. -/
def Mid (w w' : World) : Nat → Prop := fun b => w.heap.size ≤ b ∧ b < w'.heap.size
/-- Three results, the first a slice of texts. -/
def RetStrs (w : World) (l : List (List UInt8)) (a b : Int) (e : Ending) (w' : World) : Prop :=
  ∃ A n c, e = .returned (.tuple #[.slice A n c, .int .i64 a, .int .i64 b]) ∧ Rds shStr w' (Mid w w') l A n c ∧ Below w.heap.size w w'

def nameL (l : List (List UInt8)) (s : List UInt8) : List (List UInt8) := if 0 ≤ idx l s then l else if l.length = 120 then [] else l ++ [s]
def nameN (l : List (List UInt8)) (s : List UInt8) : Int := if 0 ≤ idx l s then idx l s + 1 else if l.length = 120 then 0 else l.length + 1
def nameE (l : List (List UInt8)) (s : List UInt8) : Int := if 0 ≤ idx l s then 0 else if l.length = 120 then 12 else 0

theorem str_info : ∃ i z, Try.prog.info? 9 = some i ∧ i.zero = some z ∧ i.size = 1 ∧ i.bytes = 16 ∧ z.cells.size = 1 := by
  have h1 : (Try.prog.info? 9).map (fun i => (i.zero.map (·.cells.size), i.size, i.bytes)) = some (some 1, 1, 16) := by kernel_rfl
  match hh : Try.prog.info? 9, h1 with
  | some i, h1 =>
    simp only [Option.map_some, Option.some.injEq, Prod.mk.injEq] at h1
    match hz : i.zero, h1 with
    | some z, h1 => exact ⟨i, z, rfl, hz, h1.2.1, h1.2.2, by simpa using h1.1⟩


theorem name_any (l : List (List UInt8)) (s : List UInt8) (A : Option Addr) (n c : Nat) (w : World) (F : Nat → Prop) (h : Rds shStr w F l A n c) (hF : ∀ b, F b → b < w.heap.size) (hn : n ≤ 1000000) (hs : s.length ≤ 9223372036854775807) :
    Calls Try.prog 72 #[.slice A n c, .string ⟨s.toArray⟩] w (RetStrs w (nameL l s) (nameN l s) (nameE l s)) := by
  have hbd := idx_bd l s
  have hln := h.1
  have hc := h.2.1
  have hcc := h.2.2.1
  by_cases h0 : 0 ≤ idx l s
  · have e1 : nameL l s = l := by simp only [nameL]; rw [if_pos h0]
    have e2 : nameN l s = idx l s + 1 := by simp only [nameN]; rw [if_pos h0]
    have e3 : nameE l s = 0 := by simp only [nameE]; rw [if_pos h0]
    rw [e1, e2, e3]
    have b1 : idx l s ≤ 1000000 := by omega
    have HR := Lib.hid h
    clear e1 e2 e3 h hbd hln
    go_enter Try.func72, Try.ntmps72
    go_wp2_with fail
    refine (index_str _ _ _ _ _ _ _ HR.out).mono ?_; rintro e w' ⟨rfl, rfl⟩
    go_wp2_with fail
    refine (clone_str _ _ _ _ _ _ HR.out hF (by omega)).mono ?_; rintro e w1 ⟨v, zs, rfl, z1, z2, hown, hb⟩
    obtain ⟨A1, c1, rfl, hr1⟩ := Rds.of_own (S := shStr) (F := Mid w w1) hown (by have := congrArg List.length z1; simp at this; have := HR.out.1; omega) (fun z hz => z2 z hz) (fun g h1 h2 => ⟨h1, h2⟩)
    rw [z1] at hr1
    have H1 := Lib.hid hr1
    have HB := Lib.hid hb
    clear hr1 hb hown z1 z2
    go_wp2_with fail
    refine bodyPost_ret (results_tmp3 rfl _ _ _) rfl ?_
    exact ⟨_, _, _, rfl, H1.out, HB.out⟩
  · by_cases hf : l.length = 120
    · have e1 : nameL l s = [] := by simp only [nameL]; rw [if_neg h0, if_pos hf]
      have e2 : nameN l s = 0 := by simp only [nameN]; rw [if_neg h0, if_pos hf]
      have e3 : nameE l s = 12 := by simp only [nameE]; rw [if_neg h0, if_pos hf]
      rw [e1, e2, e3]
      have b1 : idx l s < 0 := by omega
      have b2 : ((n : Int) == 120) = true := by simp; omega
      have HR := Lib.hid h
      clear e1 e2 e3 h hbd hln h0 hf
      go_enter Try.func72, Try.ntmps72
      go_wp2_with fail
      refine (index_str _ _ _ _ _ _ _ HR.out).mono ?_; rintro e w' ⟨rfl, rfl⟩
      go_wp2_with fail
      refine bodyPost_ret (results_tmp3 rfl _ _ _) rfl ?_
      exact ⟨_, _, _, rfl, Rds.nil _ _ _, Below.refl _ _⟩
    · have e1 : nameL l s = l ++ [s] := by simp only [nameL]; rw [if_neg h0, if_neg hf]
      have e2 : nameN l s = n + 1 := by simp only [nameN]; rw [if_neg h0, if_neg hf, hln]
      have e3 : nameE l s = 0 := by simp only [nameE]; rw [if_neg h0, if_neg hf]
      rw [e1, e2, e3]
      have b1 : idx l s < 0 := by omega
      have b2 : ((n : Int) == 120) = false := by simp; omega
      have HR := Lib.hid h
      obtain ⟨i0, zv, hi, hz0, hz1, hz2, hz3⟩ := str_info
      clear e1 e2 e3 h hbd hln h0 hf
      go_enter Try.func72, Try.ntmps72
      go_wp2_with fail
      refine (index_str _ _ _ _ _ _ _ HR.out).mono ?_; rintro e w' ⟨rfl, rfl⟩
      go_wp2_with fail
      refine (clone_str _ _ _ _ _ _ HR.out hF (by omega)).mono ?_; rintro e w1 ⟨v, zs, rfl, z1, z2, hown, hb⟩
      have hz : zs.length = n := by have := congrArg List.length z1; simp at this; have := HR.out.1; omega
      have HO := Lib.hid hown
      have HB := Lib.hid hb
      have Z1 := Lib.hid z1
      have Z2 := Lib.hid z2
      clear hown hb z1 z2
      go_wp2_with (at_builtin; refine wpList_append_own_at _ rfl _ _ 37 rfl w.heap.size 9 i0 zv 1 16 Try.underlying37 hi hz0 hz1 hz2 hz3 (by omega) _ n (flat zs) rfl (HO.out.alloc _) ⟨w1.heap.size, 0, none⟩ 1 1 [.string ⟨s.toArray⟩] rfl rfl (cell_one_new _ _ _) (by intro u hu; simp at hu; subst hu; rfl) (by unfold maxLen; omega) (by omega) (by have := HB.out.size; simp; omega) ?_; intro v2 w2 hown2 hgr2 _ _)
      refine bodyPost_ret (results_tmp3 rfl _ _ _) rfl ?_
      have hb2 : Below w.heap.size w w2 := (HB.out.alloc HB.out.size _).grown hgr2 (by have := HB.out.size; simp; omega) (fun k hk => by
        exact own_ge HO.out hk)
      have e4 : flat zs ++ [Value.string ⟨s.toArray⟩] = flat (zs ++ [(s, [Value.string ⟨s.toArray⟩])]) := by rw [flat_append]; simp [flat]
      rw [e4] at hown2
      obtain ⟨A2, c2, rfl, hr2⟩ := Rds.of_own (S := shStr) (F := Mid w w2) hown2 (by simp [hz]) (by
        intro z hz'
        rcases List.mem_append.1 hz' with h | h
        · obtain ⟨e, h'⟩ := Z2.out z h; exact ⟨e, h'⟩
        · simp at h; subst h; exact ⟨rfl, hs⟩) (fun g h1 h2 => ⟨h1, h2⟩)
      rw [List.map_append, Z1.out] at hr2
      exact ⟨_, _, _, rfl, hr2, hb2⟩

def lookS (bk : Book) (n : Int) : List UInt8 := if bookCheck bk ≠ 0 then [] else if n < 1 ∨ (bk.texts.length : Int) < n then [] else (bk.texts[(n - 1).toNat]?).getD []
def lookE (bk : Book) (n : Int) : Int := if bookCheck bk ≠ 0 then bookCheck bk else if n < 1 ∨ (bk.texts.length : Int) < n then 5 else 0
theorem look_any (bk : Book) (cs : List Value) (n : Int) (w : World) (F : Nat → Prop) (h : shBook.rep w F bk cs) (hF : ∀ b, F b → b < w.heap.size) :
    Calls Try.prog 31 #[.agg cs.toArray, .int .i64 n] w fun e w' => e = .returned (.tuple #[.string ⟨(lookS bk n).toArray⟩, .int .i64 (lookE bk n)]) ∧ Below w.heap.size w w' := by
  have hck := fun (W : World) (hW : Agree F w W) (hs : ∀ b, F b → b < W.heap.size) => bookCheck_any bk cs W F (shBook.keep hW h) hs
  obtain ⟨A, l, c, rfl, hr⟩ := rep_book h
  have hbox : Below w.heap.size w (w.alloc (.cells #[.slice A l c] 39)) := (Below.refl _ _).alloc (Nat.le_refl _) _
  have hck1 := hck (w.alloc (.cells #[.slice A l c] 39)) ((Agree.below hbox).mono hF) (fun b hb => by have := hF b hb; simp; omega)
  have HC := Lib.hid hck1
  have HR := Lib.hid hr
  have hln := hr.1
  have hlc := hr.2.1
  have hcc := hr.2.2.1
  clear hck hck1 h hr
  by_cases h0 : bookCheck bk = 0
  · have E0 := Lib.hid h0
    by_cases hb : n < 1 ∨ (bk.texts.length : Int) < n
    · have e1 : lookS bk n = [] := by simp only [lookS]; rw [if_neg (by simp [h0]), if_pos hb]
      have e2 : lookE bk n = 5 := by simp only [lookE]; rw [if_neg (by simp [h0]), if_pos hb]
      rw [e1, e2]
      rw [hln] at hb
      clear e1 e2 h0 hln
      go_enter Try.func31, Try.ntmps31
      go_wp2_with fail
      refine HC.out.mono ?_; rintro e w1 ⟨rfl, hb1⟩
      rw [E0.out]
      have hc1 : w1.cell? ⟨w.heap.size, 0, none⟩ = some (.slice A l c) := by rw [hb1.cell (by simp)]; simp [go_sem]
      have hb2 := hbox.trans (hb1.mono (by simp))
      clear hb1
      go_wp2_with fail
      all_goals (go_ret2; exact ⟨rfl, hb2⟩)
    · have e1 : lookS bk n = (bk.texts[(n - 1).toNat]?).getD [] := by simp only [lookS]; rw [if_neg (by simp [h0]), if_neg hb]
      have e2 : lookE bk n = 0 := by simp only [lookE]; rw [if_neg (by simp [h0]), if_neg hb]
      obtain ⟨m, rfl⟩ : ∃ m : Nat, n = (m : Int) + 1 := ⟨(n - 1).toNat, by omega⟩
      rw [e1, e2]
      have hml : m < l := by omega
      have hm1 : (m : Int) + 1 ≤ (l : Int) := by omega
      obtain ⟨b, off, x, rfl, hFb, hx, hcell, x0⟩ := HR.out.str hml
      have e3 : (bk.texts[((m : Int) + 1 - 1).toNat]?).getD [] = x := by rw [show ((m : Int) + 1 - 1).toNat = m by omega, hx]; rfl
      rw [e3]
      clear e1 e2 e3 h0 hln hb hx
      go_enter Try.func31, Try.ntmps31
      go_wp2_with fail
      refine HC.out.mono ?_; rintro e w1 ⟨rfl, hb1⟩
      rw [E0.out]
      have hc1 : w1.cell? ⟨w.heap.size, 0, none⟩ = some (.slice (some ⟨b, off, none⟩) l c) := by rw [hb1.cell (by simp)]; simp [go_sem]
      have hc2 : w1.cell? ⟨b, off + m, none⟩ = some (.string ⟨x.toArray⟩) := by
        rw [hb1.cell (p := ⟨b, off + m, none⟩) (by have := hF b hFb; simp; omega), World.cell?_alloc_lt w _ _ (hF b hFb)]; exact hcell
      have hb2 := hbox.trans (hb1.mono (by simp))
      clear hb1 hcell
      go_wp2_with fail
      go_ret2
      exact ⟨rfl, hb2⟩
  · have e1 : lookS bk n = [] := by simp only [lookS]; rw [if_pos h0]
    have e2 : lookE bk n = bookCheck bk := by simp only [lookE]; rw [if_pos h0]
    rw [e1, e2]
    have hd : (bookCheck bk == 0) = false := by simpa using h0
    clear e1 e2 h0 hln
    go_enter Try.func31, Try.ntmps31
    go_wp2_with fail
    refine HC.out.mono ?_; rintro e w1 ⟨rfl, hb1⟩
    have hb2 := hbox.trans (hb1.mono (by simp))
    clear hb1
    go_wp2_with fail
    go_ret2
    exact ⟨rfl, hb2⟩

theorem bookCheck_len {bk : Book} (h : bookCheck bk = 0) : bk.texts.length ≤ 120 := by
  unfold bookCheck at h
  split at h
  · cases h
  · omega
/-- Three results, the first a book. -/
def RetBook (w : World) (l : List (List UInt8)) (a b : Int) (e : Ending) (w' : World) : Prop :=
  ∃ A n c, e = .returned (.tuple #[.agg #[.slice A n c], .int .i64 a, .int .i64 b]) ∧ Rds shStr w' (Mid w w') l A n c ∧ Below w.heap.size w w'
def bNameL (bk : Book) (s : List UInt8) : List (List UInt8) := if bookCheck bk ≠ 0 then [] else if 4000 < s.length then [] else nameL bk.texts s
def bNameN (bk : Book) (s : List UInt8) : Int := if bookCheck bk ≠ 0 then 0 else if 4000 < s.length then 0 else nameN bk.texts s
def bNameE (bk : Book) (s : List UInt8) : Int := if bookCheck bk ≠ 0 then bookCheck bk else if 4000 < s.length then 2 else nameE bk.texts s


theorem bName_any (bk : Book) (cs : List Value) (s : List UInt8) (w : World) (F : Nat → Prop) (h : shBook.rep w F bk cs) (hF : ∀ b, F b → b < w.heap.size) (hs : s.length ≤ 9223372036854775807) :
    Calls Try.prog 28 #[.agg cs.toArray, .string ⟨s.toArray⟩] w (RetBook w (bNameL bk s) (bNameN bk s) (bNameE bk s)) := by
  have hck := fun (W : World) (hW : Agree F w W) (hs : ∀ b, F b → b < W.heap.size) => bookCheck_any bk cs W F (shBook.keep hW h) hs
  obtain ⟨A, l, c, rfl, hr⟩ := rep_book h
  have hbox : Below w.heap.size w ((w.alloc (.cells #[.slice A l c] 39)).alloc (.cells #[.slice none 0 0] 39)) := ((Below.refl _ _).alloc (Nat.le_refl _) _).alloc (by simp) _
  have hck1 := hck _ ((Agree.below hbox).mono hF) (fun b hb => by have := hF b hb; simp; omega)
  have HC := Lib.hid hck1
  have HR := Lib.hid hr
  clear hck hck1 h hr
  by_cases h0 : bookCheck bk = 0
  · have E0 := Lib.hid h0
    by_cases hb : 4000 < s.length
    · have e1 : bNameL bk s = [] := by simp only [bNameL]; rw [if_neg (by simp [h0]), if_pos hb]
      have e2 : bNameN bk s = 0 := by simp only [bNameN]; rw [if_neg (by simp [h0]), if_pos hb]
      have e3 : bNameE bk s = 2 := by simp only [bNameE]; rw [if_neg (by simp [h0]), if_pos hb]
      rw [e1, e2, e3]
      clear e1 e2 e3 h0
      go_enter Try.func28, Try.ntmps28
      go_wp2_with fail
      refine HC.out.mono ?_; rintro e w1 ⟨rfl, hb1⟩
      rw [E0.out]
      obtain ⟨hc1, hc2, hf1, hf2, hz⟩ := box2 hb1
      replace hc1 := hc1 0
      replace hc2 := hc2 0
      replace hf2 := hf2 0
      simp only [List.getElem?_toArray, List.getElem?_cons_zero] at hc1 hc2
      have hb2 := hbox.trans (hb1.mono (by simp; omega))
      have hb3 := hb2.setCell (p := ⟨w.heap.size + 1, 0, none⟩) (by simp) (.slice none 0 0)
      have HB := Lib.hid hb3
      clear hb1 hb2 hb3 hf1
      go_wp2_with fail
      refine bodyPost_ret (v := .tuple #[.agg #[.slice none 0 0], .int .i64 0, .int .i64 2]) (by simp [results, Try.results28, go_sem, hc2]) rfl ⟨_, _, _, rfl, Rds.nil _ _ _, HB.out⟩
    · have e1 : bNameL bk s = nameL bk.texts s := by simp only [bNameL]; rw [if_neg (by simp [h0]), if_neg hb]
      have e2 : bNameN bk s = nameN bk.texts s := by simp only [bNameN]; rw [if_neg (by simp [h0]), if_neg hb]
      have e3 : bNameE bk s = nameE bk.texts s := by simp only [bNameE]; rw [if_neg (by simp [h0]), if_neg hb]
      rw [e1, e2, e3]
      have hl := bookCheck_len h0
      have hln := HR.out.1
      clear e1 e2 e3 h0
      go_enter Try.func28, Try.ntmps28
      go_wp2_with fail
      refine HC.out.mono ?_; rintro e w1 ⟨rfl, hb1⟩
      rw [E0.out]
      obtain ⟨hc1, hc2, hf1, hf2, hz⟩ := box2 hb1
      replace hc1 := hc1 0
      replace hc2 := hc2 0
      replace hf2 := hf2 0
      simp only [List.getElem?_toArray, List.getElem?_cons_zero] at hc1 hc2
      have hb2 := hbox.trans (hb1.mono (by simp; omega))
      have HB := Lib.hid hb2
      have hr1 := HR.out.keep ((Agree.below hb2).mono hF)
      have H1 := Lib.hid hr1
      clear hb1 hb2 hf1 hr1
      go_wp2_with fail
      refine (name_any _ _ _ _ _ _ _ H1.out (fun b hb => by have := hF b hb; omega) (by omega) hs).mono ?_
      rintro e w2 ⟨A2, n2, c2, rfl, hr2, hb2⟩
      have hc3 : w2.cell? ⟨w.heap.size + 1, 0, none⟩ = some (.slice none 0 0) := by rw [hb2.cell (p := ⟨w.heap.size + 1, 0, none⟩) hz]; exact hc2
      have hf3 : w2.frozen? ⟨w.heap.size + 1, 0, none⟩ = false := by rw [hb2.frozen (p := ⟨w.heap.size + 1, 0, none⟩) hz]; exact hf2
      have hb4 := HB.out.trans (hb2.mono HB.out.size)
      have hzz := hb2.size
      have HR2 := Lib.hid hr2
      have HB4 := Lib.hid hb4
      clear hr2 hb2 hb4 hc1 hc2 hf2
      have hd : (nameE bk.texts s == 0) = true ∨ (nameE bk.texts s == 0) = false := by cases (nameE bk.texts s == 0) <;> simp
      rcases hd with hd | hd
      · have e0 : nameE bk.texts s = 0 := by simpa using hd
        have E1 := Lib.hid e0
        rw [e0]
        clear hd e0
        go_wp2_with fail
        refine bodyPost_ret (v := .tuple #[.agg #[.slice A2 n2 c2], .int .i64 (nameN bk.texts s), .int .i64 0]) (by simp [results, Try.results28, go_sem, hc3]) rfl ⟨_, _, _, by rw [E1.out], ?_, HB4.out.setCell (by simp) _⟩
        have hs1 := HB.out.size
        refine (HR2.out.keep fun b hb => Below.heap_setCell _ _ _ _ ?_).more fun b hb => ⟨by have := hb.1; omega, by simpa using hb.2⟩
        have := hb.1
        simp
        omega
      · have hx : nameL bk.texts s = [] ∧ nameN bk.texts s = 0 := by
          have : nameE bk.texts s ≠ 0 := by simpa using hd
          unfold nameE at this
          unfold nameL nameN
          split at this
          · simp at this
          · split at this
            · rename_i a b; simp [a, b]
            · simp at this
        obtain ⟨x1, x2⟩ := hx
        have X1 := Lib.hid x1
        have X2 := Lib.hid x2
        clear x1 x2
        go_wp2_with fail
        refine bodyPost_ret (v := .tuple #[.agg #[.slice none 0 0], .int .i64 0, .int .i64 (nameE bk.texts s)]) (by simp [results, Try.results28, go_sem, hc3]) rfl ⟨none, 0, 0, by rw [X2.out], by rw [X1.out]; exact Rds.nil _ _ _, HB4.out.setCell (by simp) _⟩
  · have e1 : bNameL bk s = [] := by simp only [bNameL]; rw [if_pos h0]
    have e2 : bNameN bk s = 0 := by simp only [bNameN]; rw [if_pos h0]
    have e3 : bNameE bk s = bookCheck bk := by simp only [bNameE]; rw [if_pos h0]
    rw [e1, e2, e3]
    have hd : (bookCheck bk == 0) = false := by simpa using h0
    clear e1 e2 e3 h0
    go_enter Try.func28, Try.ntmps28
    go_wp2_with fail
    refine HC.out.mono ?_; rintro e w1 ⟨rfl, hb1⟩
    obtain ⟨hc1, hc2, hf1, hf2, hz⟩ := box2 hb1
    replace hc2 := hc2 0
    replace hf2 := hf2 0
    simp only [List.getElem?_toArray, List.getElem?_cons_zero] at hc2
    have hb2 := hbox.trans (hb1.mono (by simp; omega))
    have hb3 := hb2.setCell (p := ⟨w.heap.size + 1, 0, none⟩) (by simp) (.slice none 0 0)
    have HB := Lib.hid hb3
    clear hb1 hb2 hb3 hf1 hc1
    go_wp2_with fail
    refine bodyPost_ret (v := .tuple #[.agg #[.slice none 0 0], .int .i64 0, .int .i64 (bookCheck bk)]) (by simp [results, Try.results28, go_sem, hc2]) rfl ⟨_, _, _, rfl, Rds.nil _ _ _, HB.out⟩

end Go.Proofs.Ytnnbnjanekibpaa
