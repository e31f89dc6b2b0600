/- Transactions: their check. -/
import Derived.Test.YtnnbnjanekibpaaLock
import Derived.Test.YtnnbnjanekibpaaCoin
namespace Go.Proofs.Ytnnbnjanekibpaa
open Go.RowKit
set_option linter.unusedVariables false
set_option maxRecDepth 100000

theorem Rds.inn {w : World} {F : Nat → Prop} {xs : List In} {A : Option Addr} {n c k : Nat} (h : Rds shIn w F xs A n c) (hk : k < n) :
    ∃ b off x A' n' c', A = some ⟨b, off, none⟩ ∧ F b ∧ xs[k]? = some x ∧ (w.cell? ⟨b, off + k * 3, none⟩ = some (.int .i64 x.p.tx) ∧ w.cell? ⟨b, off + k * 3 + 1, none⟩ = some (.int .i64 x.p.at_) ∧ w.cell? ⟨b, off + k * 3 + 2, none⟩ = some (.slice A' n' c')) ∧ I64 x.p.tx ∧ I64 x.p.at_ ∧ Rds shOp w F x.key A' n' c' := by
  obtain ⟨b, off, x, cs, e, hF, hx, hr, hc⟩ := h.at_ hk
  obtain ⟨A', n', c', rfl, h1, h2, h3⟩ := rep_in hr
  exact ⟨b, off, x, A', n', c', e, hF, hx, ⟨by simpa [shIn, shPoint, shS2, shInt, shSlice] using hc 0 _ rfl, by simpa [shIn, shPoint, shS2, shInt, shSlice] using hc 1 _ rfl, by simpa [shIn, shPoint, shS2, shInt, shSlice] using hc 2 _ rfl⟩, h1, h2, h3⟩
theorem Rds.out_ {w : World} {F : Nat → Prop} {xs : List Out} {A : Option Addr} {n c k : Nat} (h : Rds shOut w F xs A n c) (hk : k < n) :
    ∃ b off x A' n' c', A = some ⟨b, off, none⟩ ∧ F b ∧ xs[k]? = some x ∧ (w.cell? ⟨b, off + k * 2, none⟩ = some (.int .i64 x.coin) ∧ w.cell? ⟨b, off + k * 2 + 1, none⟩ = some (.slice A' n' c')) ∧ I64 x.coin ∧ Rds shOp w F x.lock A' n' c' := by
  obtain ⟨b, off, x, cs, e, hF, hx, hr, hc⟩ := h.at_ hk
  obtain ⟨A', n', c', rfl, h1, h2⟩ := rep_out hr
  exact ⟨b, off, x, A', n', c', e, hF, hx, ⟨by simpa [shOut, shS2, shInt, shSlice] using hc 0 _ rfl, by simpa [shOut, shS2, shInt, shSlice] using hc 1 _ rfl⟩, h1, h2⟩


theorem txSame_any (y : In) (A : Option Addr) (n c g : Nat) (x : In) (w : World) (h0 : w.cell? ⟨g, 0, none⟩ = some (.int .i64 x.p.tx)) (h1 : w.cell? ⟨g, 1, none⟩ = some (.int .i64 x.p.at_)) (hg : g < w.heap.size) :
    Calls Try.prog 115 #[.agg #[.int .i64 y.p.tx, .int .i64 y.p.at_, .slice A n c], .pointer (some ⟨g, 0, none⟩)] w fun e w' => e = .returned (.bool (decide (y.p = x.p))) ∧ Below w.heap.size w w' := by
  have hb : Below w.heap.size w (w.alloc (.cells #[.int .i64 y.p.tx, .int .i64 y.p.at_, .slice A n c] 91)) := (Below.refl _ _).alloc (Nat.le_refl _) _
  have HB := Lib.hid hb
  have g0 : (w.alloc (.cells #[.int .i64 y.p.tx, .int .i64 y.p.at_, .slice A n c] 91)).cell? ⟨g, 0, none⟩ = some (.int .i64 x.p.tx) := by rw [World.cell?_alloc_lt w _ _ hg]; exact h0
  have g1 : (w.alloc (.cells #[.int .i64 y.p.tx, .int .i64 y.p.at_, .slice A n c] 91)).cell? ⟨g, 1, none⟩ = some (.int .i64 x.p.at_) := by rw [World.cell?_alloc_lt w _ _ hg]; exact h1
  clear hb h0 h1
  obtain ⟨⟨yt, ya⟩, yk⟩ := y
  obtain ⟨⟨xt, xa⟩, xk⟩ := x
  simp only at g0 g1 HB ⊢
  by_cases e1 : yt = xt
  · subst e1
    by_cases e2 : ya = xa
    · subst e2
      go_enter Try.func115, Try.ntmps115
      go_wp2
      all_goals first | omega | skip
      go_ret
      exact ⟨ret_bool (by simp), HB.out⟩
    · go_enter Try.func115, Try.ntmps115
      go_wp2
      go_ret
      exact ⟨ret_bool (by simp [e2]), HB.out⟩
  · go_enter Try.func115, Try.ntmps115
    go_wp2
    go_ret
    exact ⟨ret_bool (by simp [e1]), HB.out⟩

def inIdx (xs : List In) (p : Point) (k : Nat) : Int := match xs with
  | [] => -1
  | y :: l => if y.p = p then k else inIdx l p (k + 1)


theorem inIndex_any (xs : List In) (A : Option Addr) (n c g : Nat) (x : In) (w : World) (F : Nat → Prop) (h : Rds shIn w F xs A n c) (hF : ∀ b, F b → b < w.heap.size) (h0 : w.cell? ⟨g, 0, none⟩ = some (.int .i64 x.p.tx)) (h1 : w.cell? ⟨g, 1, none⟩ = some (.int .i64 x.p.at_)) (hg : g < w.heap.size) :
    Calls Try.prog 97 #[.slice A n c, .func (.func 115) #[] #[.pointer (some ⟨g, 0, none⟩)]] w fun e w' => e = .returned (.int .i64 (inIdx xs x.p 0)) ∧ Below w.heap.size w w' := by
  have hn := h.2.1
  have hc := h.2.2.1
  have hl := h.1
  have HR := Lib.hid h
  have HLN := Lib.hid hl
  have H0 := Lib.hid h0
  have H1 := Lib.hid h1
  clear h hl h0 h1
  go_enter Try.func97, Try.ntmps97
  go_wp2
  go_loopw [5, 8] (fun _ i wr => ∃ k : Nat, k ≤ n ∧ i = .int .i64 k ∧ Below w.heap.size w wr ∧ inIdx (xs.drop k) x.p k = inIdx xs x.p 0) (fun _ i _ => n - (intOf i).toNat)
  case atStart => exact ⟨0, by omega, rfl, Below.refl _ _, rfl⟩
  case round =>
    obtain ⟨k, hk, rfl, hb, hs⟩ := hrel
    by_cases hlt : k < n
    · obtain ⟨b, off, y, A', n', c', rfl, hFb, hx, ⟨hc1, hc2, hc3⟩, -, -, -⟩ := HR.out.inn hlt
      rw [drop_cons hx, inIdx] at hs
      rw [← hb.cell (p := ⟨b, off + k * 3, none⟩) (hF b hFb)] at hc1
      rw [← hb.cell (p := ⟨b, off + k * 3 + 1, none⟩) (hF b hFb)] at hc2
      rw [← hb.cell (p := ⟨b, off + k * 3 + 2, none⟩) (hF b hFb)] at hc3
      have HB := Lib.hid hb
      have i1 : (0 : Int) ≤ (k : Int) := by omega
      have i2 : (k : Int) < (n : Int) := by omega
      have hcall := fun (W : World) (hW : Below w.heap.size w W) => txSame_any y A' n' c' g x W (by rw [hW.cell (p := ⟨g, 0, none⟩) hg]; exact H0.out) (by rw [hW.cell (p := ⟨g, 1, none⟩) hg]; exact H1.out) (Nat.lt_of_lt_of_le hg hW.size)
      have HC := Lib.hid hcall
      clear hx hb hcall
      by_cases hy : y.p = x.p
      · rw [if_pos hy] at hs
        have HS := Lib.hid hs
        have hd : decide (y.p = x.p) = true := by simpa using hy
        have HD := Lib.hid hd
        clear hs hy hd
        go_wp2_with (go_at_call 115; refine (HC.out _ HB.out).mono ?_; rintro e w2 ⟨rfl, hb2⟩; rw [HD.out])
        go_ret
        exact ⟨ret_int HS.out, HB.out.trans (hb2.mono HB.out.size)⟩
      · rw [if_neg hy] at hs
        have HS := Lib.hid hs
        have hd : decide (y.p = x.p) = false := by simpa using hy
        have HD := Lib.hid hd
        clear hs hy hd
        go_wp2_with (go_at_call 115; refine (HC.out _ HB.out).mono ?_; rintro e w2 ⟨rfl, hb2⟩; rw [HD.out])
        go_roundw
        case measure => simp [intOf]; omega
        case rel => exact ⟨k + 1, by omega, by go_num, HB.out.trans (hb2.mono HB.out.size), HS.out⟩
    · obtain rfl : k = n := by omega
      rw [List.drop_eq_nil_of_le (by rw [HLN.out]; omega), inIdx] at hs
      have HS := Lib.hid hs
      clear hs
      go_wp2
      go_ret
      exact ⟨ret_int HS.out, hb⟩


theorem inContains_any (xs : List In) (A : Option Addr) (n c g : Nat) (x : In) (w : World) (F : Nat → Prop) (h : Rds shIn w F xs A n c) (hF : ∀ b, F b → b < w.heap.size) (h0 : w.cell? ⟨g, 0, none⟩ = some (.int .i64 x.p.tx)) (h1 : w.cell? ⟨g, 1, none⟩ = some (.int .i64 x.p.at_)) (hg : g < w.heap.size) :
    Calls Try.prog 53 #[.slice A n c, .func (.func 115) #[] #[.pointer (some ⟨g, 0, none⟩)]] w fun e w' => e = .returned (.bool (decide (0 ≤ inIdx xs x.p 0))) ∧ Below w.heap.size w w' := by
  have HC := Lib.hid (inIndex_any xs A n c g x w F h hF h0 h1 hg)
  clear h hF h0 h1 hg
  generalize inIdx xs x.p 0 = j at HC ⊢
  go_enter Try.func53, Try.ntmps53
  go_wp2_with fail
  refine HC.out.mono ?_
  rintro e w1 ⟨rfl, hb⟩
  rcases Classical.em (0 ≤ j) with hj | hj
  · go_wp2_with fail
    go_ret
    exact ⟨ret_bool (by simp [hj]), hb⟩
  · go_wp2_with fail
    go_ret
    exact ⟨ret_bool (by first | (simp; done) | (simp; omega)), hb⟩

def inBad (x : In) : Int := if x.p.tx < 1 ∨ 120 < x.p.tx ∨ x.p.at_ < 0 ∨ 6 ≤ x.p.at_ then 3 else opsCheck x.key
def insGo : List In → List In → Int
  | [], _ => 0
  | x :: l, seen => if inBad x ≠ 0 then inBad x else if 0 ≤ inIdx seen x.p 0 then 6 else insGo l (seen ++ [x])
def outBad (x : Out) : Int := if x.coin < 1 then 3 else opsCheck x.lock
def outsGo : List Out → Int
  | [] => 0
  | x :: l => if outBad x ≠ 0 then outBad x else outsGo l
def txHead (t : Tx) : Int := if 6 < t.ins.length ∨ 6 < t.outs.length then 2 else if t.outs.length = 0 then 4 else if (t.ins.length = 0 ∧ (t.height < 1 ∨ 1000 < t.height)) ∨ (0 < t.ins.length ∧ t.height ≠ 0) then 3 else 0
def txCheck (t : Tx) : Int := if txHead t ≠ 0 then txHead t else if insGo t.ins [] ≠ 0 then insGo t.ins [] else if outsGo t.outs ≠ 0 then outsGo t.outs else (coinSum (t.outs.map Out.coin)).2


set_option maxHeartbeats 1000000 in
theorem txCheck_any (t : Tx) (cs : List Value) (w : World) (F : Nat → Prop) (h : shTx.rep w F t cs) (hF : ∀ b, F b → b < w.heap.size) :
    Calls Try.prog 90 #[.agg cs.toArray] w fun e w' => e = .returned (.int .i64 (txCheck t)) ∧ Below w.heap.size w w' := by
  obtain ⟨A1, n1, c1, A2, n2, c2, rfl, hh, hi, ho⟩ := rep_tx h
  obtain ⟨th, ins, outs⟩ := t
  simp only at hi ho hh ⊢
  have hl1 := hi.1
  have hn1 := hi.2.1
  have hc1 := hi.2.2.1
  have hl2 := ho.1
  have hn2 := ho.2.1
  have hc2 := ho.2.2.1
  have HI := Lib.hid hi
  have HO := Lib.hid ho
  have hB := (Below.refl w.heap.size w).alloc (Nat.le_refl _) (.cells #[.int .i64 th, .slice A1 n1 c1, .slice A2 n2 c2] 81)
  have hblk := heap_alloc_new w (.cells #[.int .i64 th, .slice A1 n1 c1, .slice A2 n2 c2] 81)
  have HB := Lib.hid hB
  have HK := Lib.hid hblk
  clear hi ho h hh hB hblk
  by_cases h0 : txHead ⟨th, ins, outs⟩ = 0
  · simp only [txHead] at h0
    rw [hl1, hl2] at h0
    have a1 : ¬ (6 < n1 ∨ 6 < n2) := fun e => by rw [if_pos e] at h0; cases h0
    rw [if_neg a1] at h0
    have a2 : ¬ n2 = 0 := fun e => by rw [if_pos e] at h0; cases h0
    rw [if_neg a2] at h0
    have a3 : ¬ ((n1 = 0 ∧ (th < 1 ∨ 1000 < th)) ∨ (0 < n1 ∧ th ≠ 0)) := fun e => by rw [if_pos e] at h0; cases h0
    have e : txCheck ⟨th, ins, outs⟩ = if insGo ins [] ≠ 0 then insGo ins [] else if outsGo outs ≠ 0 then outsGo outs else (coinSum (outs.map Out.coin)).2 := by
      have : ¬ txHead ⟨th, ins, outs⟩ ≠ 0 := by simp only [txHead]; rw [hl1, hl2, if_neg a1, if_neg a2, if_neg a3]; decide
      simp only [txCheck]; rw [if_neg this]
    obtain ⟨R, hR⟩ : ∃ R, R = if insGo ins [] ≠ 0 then insGo ins [] else if outsGo outs ≠ 0 then outsGo outs else (coinSum (outs.map Out.coin)).2 := ⟨_, rfl⟩
    rw [e, ← hR]
    have R1 := Lib.hid (show ∀ v, v = insGo ins [] → v ≠ 0 → v = R from fun v hv h => by rw [hR, ← hv, if_pos h])
    have R2 := Lib.hid (show insGo ins [] = 0 → ∀ v, v = outsGo outs → v ≠ 0 → v = R from fun h0 v hv h => by rw [hR, h0, ← hv, if_neg (by decide), if_pos h])
    have R3 := Lib.hid (show insGo ins [] = 0 → outsGo outs = 0 → (coinSum (outs.map Out.coin)).2 = R from fun h0 h1 => by rw [hR, h0, h1, if_neg (by decide), if_neg (by decide)])
    clear hR
    have m1 : n1 ≤ 6 := by omega
    have m2 : n2 ≤ 6 := by omega
    have m3 : 0 < n2 := by omega
    have L1 := Lib.hid hl1
    have L2 := Lib.hid hl2
    clear e h0 a1 a2 hl1 hl2 hn1 hn2 hc1 hc2
    obtain ⟨i0, zv, hi, hz0, hz1, hz2, hz3⟩ := int_info2
    have hi1 := HI.out.2.1
    have hi2 := HI.out.2.2.1
    have ho1 := HO.out.2.1
    have ho2 := HO.out.2.2.1
    go_enter Try.func90, Try.ntmps90
    rcases (show (n1 = 0 ∧ ¬ th < 1 ∧ ¬ 1000 < th) ∨ (0 < n1 ∧ th = 0) by omega) with ⟨g1, g2, g3⟩ | ⟨g1, g2⟩
    case' inl =>
      have q1 : ((n1 : Int) == 0) = true := by simp [g1]
      have q4 : ¬ (0 : Int) < (n1 : Int) := by omega
      clear a3 g1
      go_wp2
      rename_i z0 z1 z2 z3
      clear z1 z0
    case' inr =>
      have q1 : ((n1 : Int) == 0) = false := by simp; omega
      have q4 : (0 : Int) < (n1 : Int) := by omega
      have q5 : (th != 0) = false := by simp [g2]
      clear a3 g1 g2
      go_wp2
    all_goals (
      go_loopw [3, 4, 5, 54] (fun _ _ _ i wr => ∃ k : Nat, k ≤ n1 ∧ i = .int .i64 k ∧ Below w.heap.size w wr ∧ wr.heap[w.heap.size]? = some (.cells #[.int .i64 th, .slice A1 n1 c1, .slice A2 n2 c2] 81 (0, 0)) ∧ insGo (ins.drop k) (ins.take k) = insGo ins []) (fun _ _ _ i _ => n1 - (intOf i).toNat)
      case atStart => exact ⟨0, by omega, rfl, HB.out, HK.out, rfl⟩
      case round =>
        obtain ⟨k, hk, rfl, hb, hbox, hs⟩ := hrel
        have Hb := Lib.hid hb
        have Hbox := Lib.hid hbox
        have hwz := blk_lt hbox
        clear hb hbox q1 q4
        rcases Classical.em (k < n1) with hlt | hlt
        · obtain ⟨b, off, x, A', n', c', rfl, hFb, hx, ⟨hc1, hc2, hc3⟩, -, -, hrk⟩ := HI.out.inn hlt
          have hbx := blk_cell (i := 1) Hbox.out
          have hFw := hF b hFb
          rw [← Hb.out.cell (p := ⟨b, off + k * 3, none⟩) hFw] at hc1
          rw [← Hb.out.cell (p := ⟨b, off + k * 3 + 1, none⟩) hFw] at hc2
          rw [← Hb.out.cell (p := ⟨b, off + k * 3 + 2, none⟩) hFw] at hc3
          rw [drop_cons hx, insGo] at hs
          have HT := Lib.hid (take_snoc hx)
          have HW := Lib.hid (Hb.out.alloc Hb.out.size (.cells #[.int .i64 x.p.tx, .int .i64 x.p.at_, .slice A' n' c'] 91))
          have HRK := Lib.hid ((hrk.keep ((Agree.below HW.out).mono hF)).more (F' := Lt (wr.alloc (.cells #[.int .i64 x.p.tx, .int .i64 x.p.at_, .slice A' n' c'] 91)).heap.size) fun b hb => by have := hF b hb; show b < _; simp; omega)
          have HBX := Lib.hid (blk_below (g := w.heap.size) Hbox.out ((Below.refl wr.heap.size wr).alloc (Nat.le_refl _) (.cells #[.int .i64 x.p.tx, .int .i64 x.p.at_, .slice A' n' c'] 91)) hwz)
          have HNW := Lib.hid (heap_alloc_new wr (.cells #[.int .i64 x.p.tx, .int .i64 x.p.at_, .slice A' n' c'] 91))
          have i1 : (0 : Int) ≤ (k : Int) := by omega
          have i2 : (k : Int) < (n1 : Int) := by omega
          clear hx hrk hFb
          by_cases hp : x.p.tx < 1 ∨ 120 < x.p.tx ∨ x.p.at_ < 0 ∨ 6 ≤ x.p.at_
          · have e : inBad x = 3 := by simp only [inBad]; rw [if_pos hp]
            rw [e, if_pos (by decide)] at hs
            have HS := Lib.hid (R1.out 3 hs (by decide))
            clear e hs
            obtain ⟨⟨xt, xa⟩, xk⟩ := x
            simp only at hc1 hc2 hp HW
            rcases Classical.em (xt < 1) with p1 | p1
            · clear hp
              go_wp2_with fail
              go_ret
              exact ⟨ret_int HS.out, HW.out⟩
            · rcases Classical.em (120 < xt) with p2 | p2
              · clear hp
                go_wp2_with fail
                go_ret
                exact ⟨ret_int HS.out, HW.out⟩
              · rcases Classical.em (xa < 0) with p3 | p3
                · clear hp
                  go_wp2_with fail
                  go_ret
                  exact ⟨ret_int HS.out, HW.out⟩
                · have p4 : 6 ≤ xa := by omega
                  clear hp
                  go_wp2_with fail
                  go_ret
                  exact ⟨ret_int HS.out, HW.out⟩
          · have e : inBad x = opsCheck x.key := by simp only [inBad]; rw [if_neg hp]
            rw [e] at hs
            have p1 : ¬ x.p.tx < 1 := by omega
            have p2 : ¬ 120 < x.p.tx := by omega
            have p3 : ¬ x.p.at_ < 0 := by omega
            have p4 : ¬ 6 ≤ x.p.at_ := by omega
            have HS := Lib.hid hs
            clear e hp hs
            go_wp2_with fail
            generalize hW1 : wr.alloc (.cells #[.int .i64 x.p.tx, .int .i64 x.p.at_, .slice A' n' c'] 91) = W1 at HW HRK HBX HNW ⊢
            have hsW : wr.heap.size < W1.heap.size := by rw [← hW1]; simp
            clear hW1
            refine (lockCheck_any _ _ _ _ _ _ HRK.out (fun b hb => hb)).mono ?_
            rintro e w2 ⟨rfl, hb2⟩
            have HW2 := Lib.hid (HW.out.trans (hb2.mono HW.out.size))
            have HBX2 := Lib.hid (blk_below HBX.out hb2 (by omega))
            have HNW2 := Lib.hid (blk_below HNW.out hb2 hsW)
            have hz2' := hb2.size
            clear hb2 HW HRK HBX HNW
            by_cases he : opsCheck x.key = 0
            · rw [he]
              have hs := HS.out
              rw [he, if_neg (by decide)] at hs
              clear HS he
              have hbx2 := blk_cell (i := 1) HBX2.out
              go_wp2_with fail
              refine (inContains_any (ins.take k) _ k _ wr.heap.size x w2 (Lt w2.heap.size) (((HI.out.take (by omega)).keep ((Agree.below HW2.out).mono hF)).more fun b hb => by have := hF b hb; have := HW2.out.size; show b < _; omega) (fun b hb => hb) (by rw [blk_cell HNW2.out]; rfl) (by rw [blk_cell HNW2.out]; rfl) (by omega)).mono ?_
              rintro e w3 ⟨rfl, hb3⟩
              have HW3 := Lib.hid (HW2.out.trans (hb3.mono HW2.out.size))
              have HBX3 := Lib.hid (blk_below HBX2.out hb3 (by omega))
              clear hb3 HW2 HBX2 HNW2 hbx2
              by_cases hx : 0 ≤ inIdx (ins.take k) x.p 0
              · rw [if_pos hx] at hs
                have hd : decide (0 ≤ inIdx (ins.take k) x.p 0) = true := by simpa using hx
                rw [hd]
                have HS := Lib.hid (R1.out 6 hs (by decide))
                clear hd hx hs
                go_wp2_with fail
                go_ret
                exact ⟨ret_int HS.out, HW3.out⟩
              · rw [if_neg hx] at hs
                have hd : decide (0 ≤ inIdx (ins.take k) x.p 0) = false := by simpa using hx
                rw [hd]
                have HS := Lib.hid hs
                clear hd hx hs
                go_wp2_with fail
                go_roundw
                case measure => simp [intOf]; omega
                case rel => exact ⟨k + 1, by omega, by go_num, HW3.out, HBX3.out, by rw [HT.out]; exact HS.out⟩
            · have hs := HS.out
              rw [if_pos he] at hs
              have hd : (opsCheck x.key != 0) = true := by simpa using he
              have HS' := Lib.hid (R1.out _ hs he)
              clear HS he hs
              go_wp2_with fail
              go_ret
              exact ⟨ret_int HS'.out, HW2.out⟩
        · obtain rfl : n1 = k := by omega
          rw [List.drop_eq_nil_of_le (by rw [L1.out]; omega), insGo] at hs
          have HS := Lib.hid hs.symm
          have hbx := blk_cell (i := 2) Hbox.out
          clear hs
          go_wp2_with fail
          go_loopw [6, 8, 9, 97] (fun o _ _ i wr => ∃ k : Nat, k ≤ n2 ∧ i = .int .i64 k ∧ Below w.heap.size w wr ∧ w.heap.size < wr.heap.size ∧ wr.ownsRow (w.heap.size + 1) 3 1 o k (((outs.take k).map Out.coin).map (Value.int .i64)) ∧ (∀ y ∈ outs.take k, I64 y.coin) ∧ outsGo (outs.drop k) = outsGo outs) (fun _ _ _ i _ => n2 - (intOf i).toNat)
          case atStart => exact ⟨0, by omega, rfl, Hb.out, hwz, World.ownsRow_nil _ _ _ _, by simp, rfl⟩
          case round =>
            obtain ⟨k, hk, rfl, hb, hwq, hown, hob, hs'⟩ := hrel
            rcases Classical.em (k < n2) with hlt2 | hlt2
            · obtain ⟨b, off, x, A', n', c', rfl, hFb, hx, ⟨hc1, hc2⟩, xi, hrk⟩ := HO.out.out_ hlt2
              have hFw := hF b hFb
              rw [← hb.cell (p := ⟨b, off + k * 2, none⟩) hFw] at hc1
              rw [← hb.cell (p := ⟨b, off + k * 2 + 1, none⟩) hFw] at hc2
              rw [drop_cons hx, outsGo] at hs'
              have HT := Lib.hid (take_snoc hx)
              have hW := hb.alloc hb.size (.cells #[.int .i64 x.coin, .slice A' n' c'] 98)
              have HW := Lib.hid hW
              have HRK := Lib.hid ((hrk.keep ((Agree.below hW).mono hF)).more (F' := Lt (wr.alloc (.cells #[.int .i64 x.coin, .slice A' n' c'] 98)).heap.size) fun b hb => by have := hF b hb; show b < _; simp; omega)
              have HNW := Lib.hid (heap_alloc_new wr (.cells #[.int .i64 x.coin, .slice A' n' c'] 98))
              have HOW := Lib.hid (own_below hown ((Below.refl wr.heap.size wr).alloc (Nat.le_refl _) (.cells #[.int .i64 x.coin, .slice A' n' c'] 98)))
              have HOB := Lib.hid hob
              have i1 : (0 : Int) ≤ (k : Int) := by omega
              have i2 : (k : Int) < (n2 : Int) := by omega
              clear hx hrk hFb hW hown hob hb
              by_cases hp : x.coin < 1
              · have e : outBad x = 3 := by simp only [outBad]; rw [if_pos hp]
                rw [e, if_pos (by decide)] at hs'
                have HS2 := Lib.hid (R2.out HS.out 3 hs' (by decide))
                clear e hs'
                go_wp2_with fail
                go_ret
                exact ⟨ret_int HS2.out, HW.out⟩
              · have e : outBad x = opsCheck x.lock := by simp only [outBad]; rw [if_neg hp]
                rw [e] at hs'
                have HS2 := Lib.hid hs'
                clear e hs'
                go_wp2_with fail
                generalize hW1 : wr.alloc (.cells #[.int .i64 x.coin, .slice A' n' c'] 98) = W1 at HW HRK HNW HOW ⊢
                have hsW : wr.heap.size < W1.heap.size := by rw [← hW1]; simp
                clear hW1
                refine (lockCheck_any _ _ _ _ _ _ HRK.out (fun b hb => hb)).mono ?_
                rintro e w2 ⟨rfl, hb2⟩
                have HW2 := Lib.hid (HW.out.trans (hb2.mono HW.out.size))
                have HNW2 := Lib.hid (blk_below HNW.out hb2 hsW)
                have HOW2 := Lib.hid (own_below HOW.out hb2)
                have hz2' := hb2.size
                clear hb2 HW HRK HNW HOW
                by_cases he : opsCheck x.lock = 0
                · rw [he]
                  have hs := HS2.out
                  rw [he, if_neg (by decide)] at hs
                  have HS3 := Lib.hid hs
                  clear HS2 he hs
                  have hcx := blk_cell (i := 0) HNW2.out
                  go_wp2_with (at_builtin; refine wpList_append_own_at _ rfl _ _ 24 rfl (w.heap.size + 1) 3 i0 zv 1 8 Try.underlying24 hi hz0 hz1 hz2 hz3 (by omega) _ k (((outs.take k).map Out.coin).map (Value.int .i64)) rfl (HOW2.out.alloc _) ⟨w2.heap.size, 0, none⟩ 1 1 [.int .i64 x.coin] rfl rfl (cell_one_new _ _ _) (by intro u hu; simp at hu; subst hu; rfl) (by unfold maxLen; omega) (by omega) (by simp; omega) ?_; intro v5 w5 hown5 hgr5 _ hob5)
                  have hgr : (w2.alloc (.cells #[.int .i64 x.coin] 3)).grownBy w5 u6.ownBlock := hgr5
                  have hge := fun k hk => own_ge HOW2.out (k := k) hk
                  go_roundw
                  case measure => simp [intOf]; omega
                  case rel =>
                    have hs5 := hgr.size
                    simp only [World.size_alloc] at hs5
                    refine ⟨k + 1, by omega, by go_num, (HW2.out.alloc HW2.out.size _).grown hgr (by have := HW2.out.size; simp; omega) (fun k hk => by have := hge _ hk; omega), by omega, by rw [HT.out, List.map_append, List.map_append]; exact hown5, ?_, HS3.out⟩
                    intro y hy
                    rw [HT.out] at hy
                    rcases List.mem_append.1 hy with h | h
                    · exact HOB.out y h
                    · simp at h; subst h; exact xi
                · have hs := HS2.out
                  rw [if_pos he] at hs
                  have hd : (opsCheck x.lock != 0) = true := by simpa using he
                  have HS3 := Lib.hid (R2.out HS.out _ hs he)
                  clear HS2 he hs
                  go_wp2_with fail
                  go_ret
                  exact ⟨ret_int HS3.out, HW2.out⟩
            · obtain rfl : n2 = k := by omega
              rw [List.drop_eq_nil_of_le (by rw [L2.out]; omega), outsGo] at hs'
              have HS2 := Lib.hid (R3.out HS.out hs'.symm)
              rw [List.take_of_length_le (by rw [L2.out]; omega)] at hown hob
              have HBq := Lib.hid hb
              obtain ⟨A', c', ev, hri⟩ := Rds.of_own_int hown (fun x hx => by obtain ⟨y, hy, rfl⟩ := List.mem_map.1 hx; exact hob y hy)
              subst ev
              have HRI := Lib.hid hri
              clear hs' hown hob hb hri
              go_wp2_with fail
              refine (sum_any _ _ _ _ _ _ HRI.out).mono ?_
              rintro e w2 ⟨rfl, rfl⟩
              go_wp2_with fail
              go_ret
              exact ⟨ret_int HS2.out, HBq.out⟩)
  · have e : txCheck ⟨th, ins, outs⟩ = txHead ⟨th, ins, outs⟩ := by simp only [txCheck]; rw [if_pos h0]
    rw [e]
    clear e
    by_cases a1 : 6 < n1 ∨ 6 < n2
    · have e : txHead ⟨th, ins, outs⟩ = 2 := by simp only [txHead]; rw [if_pos (by rw [hl1, hl2]; exact a1)]
      rw [e]
      clear e h0 hl1 hl2
      by_cases a : 6 < n1
      · clear a1
        go_enter Try.func90, Try.ntmps90
        go_wp2
        go_ret
        exact ⟨rfl, HB.out⟩
      · have a2 : 6 < n2 := by omega
        clear a1
        go_enter Try.func90, Try.ntmps90
        go_wp2
        go_ret
        exact ⟨rfl, HB.out⟩
    · by_cases a2 : n2 = 0
      · have e : txHead ⟨th, ins, outs⟩ = 4 := by simp only [txHead]; rw [if_neg (by rw [hl1, hl2]; exact a1), if_pos (by rw [hl2]; exact a2)]
        rw [e]
        subst a2
        clear e h0 hl1 hl2
        go_enter Try.func90, Try.ntmps90
        go_wp2
        go_ret
        exact ⟨rfl, HB.out⟩
      · have a3 : (n1 = 0 ∧ (th < 1 ∨ 1000 < th)) ∨ (0 < n1 ∧ th ≠ 0) := by
          apply Classical.byContradiction
          intro a3
          exact h0 (by simp only [txHead]; rw [if_neg (by rw [hl1, hl2]; exact a1), if_neg (by rw [hl2]; exact a2), if_neg (by rw [hl1]; exact a3)])
        have e : txHead ⟨th, ins, outs⟩ = 3 := by simp only [txHead]; rw [if_neg (by rw [hl1, hl2]; exact a1), if_neg (by rw [hl2]; exact a2), if_pos (by rw [hl1]; exact a3)]
        rw [e]
        have a4 : 0 < n2 := by omega
        clear e h0 hl1 hl2 a2
        rcases a3 with ⟨rfl, a3⟩ | ⟨a3, a5⟩
        · rcases Classical.em (th < 1) with a5 | a5
          · clear a3
            go_enter Try.func90, Try.ntmps90
            go_wp2
            go_ret
            exact ⟨rfl, HB.out⟩
          · have a6 : 1000 < th := by omega
            clear a3
            go_enter Try.func90, Try.ntmps90
            go_wp2
            go_ret
            exact ⟨rfl, HB.out⟩
        · have a6 : (th != 0) = true := by simpa using a5
          clear a5
          go_enter Try.func90, Try.ntmps90
          go_wp2
          go_ret
          exact ⟨rfl, HB.out⟩
end Go.Proofs.Ytnnbnjanekibpaa
