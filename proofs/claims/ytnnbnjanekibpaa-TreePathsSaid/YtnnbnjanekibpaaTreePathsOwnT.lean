/- Own texts, put together by wip/bundle.py: Map, RefTreeLaw, RefTree. -/
import Derived.Maps.OwnOps
import Derived.Maps.Views
import Derived.Test.YtnnbnjanekibpaaTreePathsOwnB2
import Derived.Test.YtnnbnjanekibpaaTreePathsOwnC2
import Derived.Test.YtnnbnjanekibpaaTreePathsOwnR
namespace Go.Proofs.Ytnnbnjanekibpaa
open Go.RowKit
set_option linter.unusedVariables false
set_option linter.unusedSimpArgs false
def look : List (Int × Int) → Int → Option Int
  | [], _ => none
  | (k, v) :: l, x => if x = k then some v else look l x
def setI : List (Int × Int) → DataW Unit
  | [] => .map []
  | (k, v) :: l => (setI l).put (.int .i64 k) (.lit (.int .i64 v))
theorem setI_map (l : List (Int × Int)) : Maps.IsMap (setI l) := by
  induction l with
  | nil => exact ⟨[], rfl⟩
  | cons s l ih =>
    obtain ⟨es, h⟩ := ih
    rw [setI, h]
    exact ⟨_, rfl⟩
theorem setI_at (l : List (Int × Int)) (x : Int) (z : DataW Unit) : (setI l).atKey (.int .i64 x) z = match look l x with | some v => .lit (.int .i64 v) | none => z := by
  induction l with
  | nil => rfl
  | cons p l ih =>
    obtain ⟨k, v⟩ := p
    rw [setI, look]
    by_cases h : x = k
    · subst h
      rw [if_pos rfl, Maps.atKey_put_same (setI_map l) (by trivial)]
    · rw [if_neg h, Maps.atKey_put_other (by intro e; injection e with _ e; exact h e), ih]
theorem lookup_ok {P : Program} {k e t : TypeId} {w : World} {b n : Nat} {l : List (Int × Int)} (h : w.ownsMap P k (plainElem P e) b n (setI l)) (hk : P.underlying k = some (.int .i64)) (ht : P.underlying t = some (.map k e)) (he : P.underlying e = some (.int .i64))
    (hz : (zeroValue e).run P w = .ok (.int .i64 0) w) (x : Int) (hx : I64 x) :
    (Instr.lookup t (.map (some b)) (.int .i64 x) true).run P w = .ok (.tuple #[.int .i64 ((look l x).getD 0), .bool (look l x).isSome]) w := by
  have hkey : keyOf P k (.int .i64 x) = some (.int .i64 x) := by
    obtain ⟨h1, h2⟩ := hx
    have hw : (Lit.int .i64 x).wf = true := by simp [Lit.wf, IntKind.min, IntKind.max, IntKind.signed, IntKind.bits]; omega
    simp [keyOf, hk, mapKey, hw]
  obtain ⟨es, clock, hb, F, hs, hD⟩ := h
  have hat := setI_at l x
  rw [hD] at hat
  rcases Maps.fit_look true (Maps.int_keyed hk) ht hz hb F hkey with ⟨hrun, _, h0⟩ | ⟨e0, y, _, _, hrun, hR, h1, _⟩
  · cases hl : look l x with
    | none => rw [hrun]; rfl
    | some v =>
      exfalso
      have h2 := hat (.lit (.int .i64 (v + 1)))
      rw [h0, hl] at h2
      injection h2 with h2
      injection h2 with _ h2
      omega
  · obtain ⟨c, hc1, hc2, _⟩ := plainElem_int_inv he hR
    cases hl : look l x with
    | none =>
      exfalso
      have h2 := hat (.lit (.int .i64 (c + 1)))
      rw [h1, hl] at h2
      rw [hc2] at h2
      injection h2 with h2
      injection h2 with _ h2
      omega
    | some v =>
      have h2 := hat (.lit (.int .i64 0))
      rw [h1, hl, hc2] at h2
      injection h2 with h2
      injection h2 with _ h2
      rw [hrun, hc1, h2]; rfl
def imap (P : Program) (k e : TypeId) (b : Nat) (l : List (Int × Int)) : Res := {
  block := some b
  holds h0 _ W := h0 ≤ b ∧ ∃ n, n ≤ l.length ∧ W.ownsMap P k (plainElem P e) b n (setI l)
  keep := fun ha hF hb h => ⟨h.1, by
    obtain ⟨n, hn, es, clock, hh, r⟩ := h.2
    exact ⟨n, hn, es, clock, (hb b rfl).trans hh, r⟩⟩
  lt := fun h e => by
    injection e with e
    subst e
    obtain ⟨n, _, hm⟩ := h.2
    exact ⟨h.1, hm.lt⟩ }
section
variable {P : Program} {w0 W : World} {F0 : Nat → Prop} {Γ Γ1 : List Res} {k e t : TypeId} {b : Nat} {l : List (Int × Int)}
theorem Sep.newMap (h : Sep w0 F0 Γ W) : Sep w0 F0 (imap P k e W.heap.size [] :: Γ) (W.alloc (.map #[] 0)) :=
  h.grow (World.grownBy_alloc W _ none) ⟨h.size, 0, Nat.le_refl _, World.ownsMap_made W P k _⟩ (fun g hg => by injection hg with hg; omega)
theorem Sep.lookMap (h : Sep w0 F0 Γ W) (hm : At Γ (imap P k e b l)) (hk : P.underlying k = some (.int .i64)) (ht : P.underlying t = some (.map k e)) (he : P.underlying e = some (.int .i64)) (hz : (zeroValue e).run P W = .ok (.int .i64 0) W) (x : Int) (hx : I64 x) :
    (Instr.lookup t (.map (some b)) (.int .i64 x) true).run P W = .ok (.tuple #[.int .i64 ((look l x).getD 0), .bool (look l x).isSome]) W := by
  obtain ⟨_, n, _, ho⟩ := h.get hm
  exact lookup_ok ho hk ht he hz x hx
theorem Sep.putMap (h : Sep w0 F0 Γ W) (hd : Del Γ (imap P k e b l) Γ1) (hk : P.underlying k = some (.int .i64)) (ht : P.underlying t = some (.map k e)) (he : P.underlying e = some (.int .i64)) {x v : Int} (hx : I64 x) (hv : I64 v) (hl : l.length ≤ 1000000) :
    ∃ W', (Instr.mapUpdate t (.map (some b)) (.int .i64 x) (.int .i64 v)).run P W = .ok () W' ∧ Sep w0 F0 (imap P k e b ((x, v) :: l) :: Γ1) W' := by
  have wf : ∀ y : Int, I64 y → (Lit.int .i64 y).wf = true := by
    intro y hy
    obtain ⟨h1, h2⟩ := hy
    simp [Lit.wf, IntKind.min, IntKind.max, IntKind.signed, IntKind.bits]; omega
  have hkey : keyOf P k (.int .i64 x) = some (.int .i64 x) := by
    have := wf x hx
    simp [keyOf, hk, mapKey, this]
  have h1 := h.front hd
  obtain ⟨hb, n, hn, ho⟩ := h1.get At.z
  obtain ⟨W', hrun, ho', hg⟩ := ho.update (Maps.int_keyed hk) ht (by unfold maxLen; omega) hkey (plainElem_int he (wf v hv))
  exact ⟨W', hrun, h1.put (r' := imap P k e b ((x, v) :: l)) Put.z hg (fun g hg' => .inl hg') (fun _ _ _ => ⟨hb, n + 1, by simp; omega, ho'⟩)⟩
section
variable {ops : Array Oper} {Q : Exit → Act → World → Prop} {a : Act} {rest : List Oper} {o : Oper} {mx kx vx : Operand}
theorem Sep.wmakeMap (h : Sep w0 F0 Γ W) (hgd : Region.wanted o (yielded ops a.tmps) = true) (ho : o.op = .makeMap t none) (kk : ∀ b W', Sep w0 F0 (imap P k e b [] :: Γ) W' → wpList P ops Q rest (a.put o.dst (.map (some b))) W') : wpList P ops Q (o :: rest) a W :=
  BigFrame.wpList_want hgd fun K hK => by
    have hr : (Instr.makeMap t none).run P W = .ok (.map (some W.heap.size)) (W.alloc (.map #[] 0)) := rfl
    unfold Oper.wp execOp
    simp only [ho, Sem.run_bind, hr, Result.andThen_ok, Sem.run_pure]
    exact hK _ _ (kk _ _ h.newMap)
theorem Sep.wputMap (h : Sep w0 F0 Γ W) (hgd : Region.wanted o (yielded ops a.tmps) = true) (ho : o.op = .mapUpdate t mx kx vx ∨ o.op = .insert t mx kx vx) (hd : Del Γ (imap P k e b l) Γ1) {x v : Int} (hm : a.eval mx = .map (some b)) (hk' : a.eval kx = .int .i64 x) (hv' : a.eval vx = .int .i64 v)
    (hk : P.underlying k = some (.int .i64)) (ht : P.underlying t = some (.map k e)) (he : P.underlying e = some (.int .i64)) (hx : I64 x) (hv : I64 v) (hl : l.length ≤ 1000000)
    (kk : ∀ W', Sep w0 F0 (imap P k e b ((x, v) :: l) :: Γ1) W' → wpList P ops Q rest (a.put o.dst undef) W') : wpList P ops Q (o :: rest) a W :=
  BigFrame.wpList_want hgd fun K hK => by
    obtain ⟨W', hrun, hS⟩ := h.putMap hd hk ht he hx hv hl
    unfold Oper.wp execOp
    rcases ho with ho | ho <;>
    · simp only [ho, hm, hk', hv', Sem.run_bind, hrun, Result.andThen_ok, Sem.run_pure]
      exact hK _ _ (kk _ hS)
theorem Sep.wlookMap (h : Sep w0 F0 Γ W) (hgd : Region.wanted o (yielded ops a.tmps) = true) (ho : o.op = .lookup t mx kx true) (hat : At Γ (imap P k e b l)) {x : Int} (hm : a.eval mx = .map (some b)) (hk' : a.eval kx = .int .i64 x)
    (hk : P.underlying k = some (.int .i64)) (ht : P.underlying t = some (.map k e)) (he : P.underlying e = some (.int .i64)) (hz : ∀ W, (zeroValue e).run P W = .ok (.int .i64 0) W) (hx : I64 x)
    (kk : wpList P ops Q rest (a.put o.dst (.tuple #[.int .i64 ((look l x).getD 0), .bool (look l x).isSome])) W) : wpList P ops Q (o :: rest) a W :=
  BigFrame.wpList_want hgd fun K hK => by
    have hrun := h.lookMap hat hk ht he (hz W) x hx
    unfold Oper.wp execOp
    simp only [ho, hm, hk', Sem.run_bind, hrun, Result.andThen_ok, Sem.run_pure]
    exact hK _ _ kk
end
end
attribute [irreducible] imap
end Go.Proofs.Ytnnbnjanekibpaa
namespace Go.Proofs.Ytnnbnjanekibpaa
open Go.RowKit
set_option linter.unusedVariables false
def hts (ns : List Int) (bs : List Block) : Nat → List (Int × Int)
  | 0 => [(0, 0)]
  | k + 1 => (nameAt ns k, (blkAt bs k).height) :: hts ns bs k
theorem hts_len (ns : List Int) (bs : List Block) (k : Nat) : (hts ns bs k).length = k + 1 := by
  induction k with
  | zero => rfl
  | succ k ih => rw [hts, List.length_cons, ih]
theorem take_name {ns : List Int} {k : Nat} (hk : k < ns.length) : ns.take (k + 1) = ns.take k ++ [nameAt ns k] := by
  rw [take_snoc (List.getElem?_eq_getElem hk)]
  simp [nameAt, List.getElem?_eq_getElem hk]
theorem look_zero {ns : List Int} {bs : List Block} {k : Nat} (ok : ∀ j, j < k → treeStep ns bs j (nameAt ns j) (blkAt bs j) = 0) : look (hts ns bs k) 0 = some 0 := by
  induction k with
  | zero => rfl
  | succ k ih =>
    rw [hts, look, if_neg (by have := (treeStep_ok (ok k (by omega))).1; omega)]
    exact ih fun j hj => ok j (by omega)
theorem look_hts {ns : List Int} {bs : List Block} {k : Nat} (ok : ∀ j, j < k → treeStep ns bs j (nameAt ns j) (blkAt bs j) = 0) (hk : k ≤ ns.length) {x : Int} (hx : x ≠ 0) :
    look (hts ns bs k) x = if 0 ≤ idx (ns.take k) x then some (blkAt bs (idx (ns.take k) x)).height else none := by
  induction k with
  | zero =>
    rw [hts, look, if_neg hx, look, if_neg]
    simp [idx, idxGo]
  | succ k ih =>
    have hst := (treeStep_ok (ok k (by omega))).2.2.1
    have hlt : idx (ns.take k) (nameAt ns k) < 0 := by
      apply Classical.byContradiction
      intro h
      exact hst ((idx_mem _ _).1 (by omega))
    have ihk := ih (fun j hj => ok j (by omega)) (by omega)
    rw [hts, look, take_name (by omega)]
    by_cases h : x = nameAt ns k
    · rw [if_pos h, h, idx_new hlt, if_pos (by omega)]
      congr 3
      simp; omega
    · rw [if_neg h, ihk]
      by_cases hi : 0 ≤ idx (ns.take k) x
      · rw [if_pos hi, if_pos (idx_prefix_ge (List.prefix_append _ _) hi), idx_prefix (List.prefix_append _ _) hi]
      · rw [if_neg hi, if_neg]
        intro hc
        have := (idx_mem _ _).1 hc
        simp only [List.mem_append, List.mem_singleton] at this
        rcases this with h1 | h1
        · exact hi ((idx_mem _ _).2 h1)
        · exact h h1
theorem stands_look {ns : List Int} {bs : List Block} {k : Nat} (ok : ∀ j, j < k → treeStep ns bs j (nameAt ns j) (blkAt bs j) = 0) (hk : k ≤ ns.length) (b : Block) :
    standsE ns bs b k = match look (hts ns bs k) b.parent with | none => 5 | some h => if h + 1 ≠ b.height then 4 else 0 := by
  unfold standsE
  by_cases h0 : b.parent = 0
  · rw [if_pos h0, h0, look_zero ok]
    by_cases h1 : b.height = 1
    · rw [if_neg (by simp [h1])]
      exact (if_neg (show ¬ ((0 : Int) + 1 ≠ b.height) by omega)).symm
    · rw [if_pos h1]
      exact (if_pos (show (0 : Int) + 1 ≠ b.height by omega)).symm
  · rw [if_neg h0, look_hts ok hk h0]
    by_cases hi : 0 ≤ idx (ns.take k) b.parent
    · rw [if_neg (by omega), if_pos hi]
      by_cases h1 : b.height = (blkAt bs (idx (ns.take k) b.parent)).height + 1
      · rw [if_neg (by simp [h1])]
        exact (if_neg (show ¬ ((blkAt bs (idx (ns.take k) b.parent)).height + 1 ≠ b.height) by omega)).symm
      · rw [if_pos h1]
        exact (if_pos (show (blkAt bs (idx (ns.take k) b.parent)).height + 1 ≠ b.height by omega)).symm
    · rw [if_pos (by omega), if_neg hi]
theorem there_look {ns : List Int} {bs : List Block} {k : Nat} (ok : ∀ j, j < k → treeStep ns bs j (nameAt ns j) (blkAt bs j) = 0) (hk : k ≤ ns.length) {n : Int} (hn : n ≠ 0) : (look (hts ns bs k) n).isSome = memB (ns.take k) n := by
  rw [look_hts ok hk hn]
  by_cases hi : 0 ≤ idx (ns.take k) n
  · rw [if_pos hi, (memB_iff _ _).2 hi]; rfl
  · rw [if_neg hi]
    cases h : memB (ns.take k) n with
    | false => rfl
    | true => exact absurd ((memB_iff _ _).1 h) hi
end Go.Proofs.Ytnnbnjanekibpaa
namespace Go.Proofs.Ytnnbnjanekibpaa
open Go.RowKit
set_option linter.unusedVariables false
set_option linter.unusedSimpArgs false
set_option maxRecDepth 100000
theorem Sep.elemI2 {w0 W : World} {F0 : Nat → Prop} {Γ : List Res} (h : Sep w0 F0 Γ W) {xs : List Int} {A : Option Addr} {n c i : Nat} (hm : At Γ (rds xs A n c shInt)) (hi : i < n) :
    ∃ b off z, A = some ⟨b, off, none⟩ ∧ xs[i]? = some z ∧ I64 z ∧ W.cell? ⟨b, off + i, none⟩ = some (.int .i64 z) := by
  obtain ⟨b, off, z, cs, e, hz, hS⟩ := h.elem hm hi
  obtain ⟨rfl, hI⟩ := hS.open_int (At.s At.z)
  rw [show shInt.size = 1 from rfl, Nat.mul_one] at hS
  exact ⟨b, off, z, e, hz, hI, by simpa using hS.cellsAt At.z 0 _ rfl⟩
theorem Sep.elemB2 {w0 W : World} {F0 : Nat → Prop} {Γ : List Res} (h : Sep w0 F0 Γ W) {xs : List Block} {A : Option Addr} {n c i : Nat} (hm : At Γ (rds xs A n c shBlock)) (hi : i < n) :
    ∃ b off z A1 n1 c1, A = some ⟨b, off, none⟩ ∧ xs[i]? = some z ∧ I64 z.parent ∧ I64 z.height ∧ Sep w0 F0 (cells b (off + i * 5) [.int .i64 z.parent, .int .i64 z.height, .int .i64 z.work, .int .i64 z.nonce, .slice A1 n1 c1] :: rep z [.int .i64 z.parent, .int .i64 z.height, .int .i64 z.work, .int .i64 z.nonce, .slice A1 n1 c1] shBlock :: Γ) W := by
  obtain ⟨b, off, z, cs, e, hz, hS⟩ := h.elem hm hi
  obtain ⟨A1, n1, c1, rfl, h1, h2, -, -, -⟩ := hS.open_block (At.s At.z)
  rw [show shBlock.size = 5 from rfl] at hS
  exact ⟨b, off, z, A1, n1, c1, e, hz, h1, h2, hS⟩
theorem look_bd {ns : List Int} {bs : List Block} {k : Nat} (ok : ∀ j, j < k → treeStep ns bs j (nameAt ns j) (blkAt bs j) = 0) {x h : Int} (hl : look (hts ns bs k) x = some h) : 0 ≤ h ∧ h ≤ 1000 := by
  induction k with
  | zero =>
    rw [hts, look] at hl
    split at hl
    · injection hl with hl; omega
    · simp [look] at hl
  | succ k ih =>
    rw [hts, look] at hl
    split at hl
    · injection hl with hl
      rw [← hl]
      exact blkCheck_height (treeStep_ok (ok k (by omega))).2.1
    · exact ih (fun j hj => ok j (by omega)) hl
theorem treeGo_bad {ns : List Int} {bs : List Block} {k f : Nat} {r m : Int} (h : treeGo ns bs k (f + 1) = r) (hb : treeStep ns bs k (nameAt ns k) (blkAt bs k) = m) (hm : m ≠ 0) : m = r := by rw [← h, treeGo, hb, if_pos hm]
theorem treeGo_good {ns : List Int} {bs : List Block} {k f : Nat} {r : Int} (h : treeGo ns bs k (f + 1) = r) (hb : treeStep ns bs k (nameAt ns k) (blkAt bs k) = 0) : treeGo ns bs (k + 1) f = r := by rw [← h, treeGo, hb, if_neg (by simp)]
set_option maxHeartbeats 4000000 in
theorem refTree_c (t : Tree) (cs : List Value) {w0 W : World} {F0 : Nat → Prop} {Γ : List Res} (hS : Sep w0 F0 Γ W) (ht : At Γ (rep t cs shTree)) :
    Calls Try.prog 46 #[.agg cs.toArray] W (RV w0 F0 Γ (.int .i64 (treeCheck t))) := by
  obtain ⟨R, hR⟩ : ∃ R, R = treeCheck t := ⟨_, rfl⟩
  rw [← hR]
  (have hO := hS.open_tree ht; clear hS; obtain ⟨A, n, c, A2, n2, c2, rfl, hS⟩ := hO)
  obtain ⟨ns, bs⟩ := t
  simp only at hS
  obtain ⟨l1, l2, l3⟩ := hS.len (xs := ns) (by repeat (first | with_reducible exact At.z | assumption | apply At.s))
  obtain ⟨l4, l5, l6⟩ := hS.len (xs := bs) (by repeat (first | with_reducible exact At.z | assumption | apply At.s))
  have L1 := Lib.hid l1
  have L4 := Lib.hid l4
  have B1 : Hid (n ≠ n2 → 4 = R) := Lib.hid (fun h => by rw [hR, treeCheck, if_pos (show ns.length ≠ bs.length by omega)])
  have B2 : Hid (n = n2 → 24 < n → 2 = R) := Lib.hid (fun h h2 => by rw [hR, treeCheck, if_neg (show ¬ ns.length ≠ bs.length by omega), if_pos (show 24 < ns.length by omega)])
  have BG : Hid (n = n2 → ¬ 24 < n → treeGo ns bs 0 n = R) := Lib.hid (fun h h2 => by rw [hR, treeCheck, if_neg (show ¬ ns.length ≠ bs.length by omega), if_neg (show ¬ 24 < ns.length by omega), l1])
  clear hR l1 l4
  go_enter Try.func46, Try.ntmps46
  (go_wp2_with (first | (refine Sep.wbox hS (by rfl) rfl rfl ?_; clear hS; intro gt W hS; refine Stop.go ?_) | (refine Sep.walloc hS (by rfl) rfl (by first | exact z_op | exact z_point | exact z_in | exact z_out | exact z_tx | exact z_book | exact z_coin | exact z_undo | exact z_block | exact z_tree | exact z_int | exact z_errno | exact z_bool | exact z_str) ?_; clear hS; intro gt W hS; refine Stop.go ?_) | (first | (refine Sep.wload1b hS (by rfl) rfl rfl (one_of rfl) (by repeat (first | with_reducible exact At.z | assumption | apply At.s)) rfl ?_) | (refine Sep.wloadNb hS (by rfl) rfl rfl (by repeat (first | with_reducible exact At.z | assumption | apply At.s)) (agg_of rfl) ?_) | (refine Sep.wload1z hS (by rfl) rfl rfl (one_of rfl) (by repeat (first | with_reducible exact At.z | assumption | apply At.s)) rfl ?_) | (refine Sep.wload1c hS (by rfl) rfl rfl (one_of rfl) (by repeat (first | with_reducible exact At.z | assumption | apply At.s)) rfl ?_) | (refine Sep.wloadNz hS (by rfl) rfl rfl (by repeat (first | with_reducible exact At.z | assumption | apply At.s)) (agg_of rfl) ?_) | (refine Sep.walloc hS (by rfl) rfl (by first | exact z_op | exact z_point | exact z_in | exact z_out | exact z_tx | exact z_book | exact z_coin | exact z_undo | exact z_block | exact z_tree | exact z_int | exact z_errno | exact z_bool | exact z_str) ?_; clear hS; intro g W hS) | (refine Sep.wbox hS (by rfl) rfl rfl ?_; clear hS; intro g W hS) | (refine Sep.wstoreNb hS (by rfl) rfl rfl rfl (agg_of rfl) (by simp [Ones, Value.oneCell']) (by repeat (first | with_reducible exact At.z | assumption | apply At.s)) (by rfl) (by repeat (first | with_reducible exact Put.z | apply Put.s)) ?_; clear hS; intro W hS))); refine Stop.mk ?_)
  have t0 := hS.boxCell (g := gt) (by repeat (first | with_reducible exact At.z | assumption | apply At.s)) 0 _ rfl
  have t1 := hS.boxCell (g := gt) (by repeat (first | with_reducible exact At.z | assumption | apply At.s)) 1 _ rfl
  rcases Classical.em (n = n2) with e1 | e1
  rotate_left
  · have q : ((n : Int) != (n2 : Int)) = true := by simp; omega
    have E1 := Lib.hid e1
    clear e1
    go_wp2_with fail
    go_ret
    go_light
    exact ⟨ret_int (B1.out E1.out), hS.sub (by repeat (first | with_reducible exact Sub.refl | with_reducible exact Sub.nil | refine Sub.take (by repeat (first | with_reducible exact Del.z | apply Del.s)) ?_ | apply Sub.skip))⟩
  subst e1
  rcases Classical.em ((24 : Int) < (n : Int)) with e2 | e2
  · go_wp2_with fail
    go_ret
    go_light
    exact ⟨ret_int (B2.out (by first | rfl | trivial) (by omega)), hS.sub (by repeat (first | with_reducible exact Sub.refl | with_reducible exact Sub.nil | refine Sub.take (by repeat (first | with_reducible exact Del.z | apply Del.s)) ?_ | apply Sub.skip))⟩
  have HG := Lib.hid (BG.out (by first | rfl | trivial) (by omega))
  clear B1 B2 BG
  go_wp2_with (first
    | (refine Sep.wmakeMap (k := 3) (e := 3) hS (by rfl) rfl ?_; clear hS; intro m W hS)
    | (refine Sep.wputMap (x := 0) (v := 0) (l := []) hS (by rfl) (.inr rfl) (by repeat (first | with_reducible exact Del.z | apply Del.s)) rfl rfl rfl Try.underlying3 Try.underlying129 Try.underlying3 ⟨by decide, by decide⟩ ⟨by decide, by decide⟩ (by simp) ?_; clear hS t0 t1; intro W hS; refine Stop.go ?_))
  refine Stop.mk ?_
  have t0 := hS.boxCell (g := gt) (by repeat (first | with_reducible exact At.z | assumption | apply At.s)) 0 _ rfl
  go_wp2_with fail
  clear t0
  (have hO := hS; clear hS; have hS : Sep w0 F0 (imap Try.prog 3 3 m (hts ns bs 0) :: box gt [.slice A n c, .slice A2 n c2] 56 :: rds ns A n c shInt :: rds bs A2 n c2 shBlock :: Γ) _ := hO; clear hO)
  go_loopw [4, 5, 6, 7, 8, 9, 10, 11, 28] (fun _ _ _ _ _ _ _ _ i wr => ∃ k : Nat, k ≤ n ∧ i = .int .i64 k ∧ Hid (∀ j, j < k → treeStep ns bs j (nameAt ns j) (blkAt bs j) = 0) ∧ Hid (treeGo ns bs k (n - k) = R) ∧ Sep w0 F0 (imap Try.prog 3 3 m (hts ns bs k) :: box gt [.slice A n c, .slice A2 n c2] 56 :: rds ns A n c shInt :: rds bs A2 n c2 shBlock :: Γ) wr) (fun _ _ _ _ _ _ _ _ i _ => n - (intOf i).toNat)
  case atStart => exact ⟨0, by omega, rfl, Lib.hid (fun j hj => by omega), HG, hS.sub (by repeat (first | with_reducible exact Sub.refl | with_reducible exact Sub.nil | refine Sub.take (by repeat (first | with_reducible exact Del.z | apply Del.s)) ?_ | apply Sub.skip))⟩
  case round =>
    clear hS HG
    obtain ⟨k, hk, rfl, hok, hs, hS⟩ := hrel
    rcases Classical.em (k < n) with hlt | hlt
    · obtain ⟨b1, o1, z, rfl, hz, hzI, c0⟩ := hS.elemI2 (xs := ns) (by repeat (first | with_reducible exact At.z | assumption | apply At.s)) hlt
      (have hO := hS.elemB2 (xs := bs) (by repeat (first | with_reducible exact At.z | assumption | apply At.s)) hlt; clear hS; obtain ⟨b2, o2, zb, A5, n5, c5, rfl, hzb, p1, p2, hS⟩ := hO)
      have hnz : nameAt ns k = z := by simp [nameAt, hz]
      have hnb : blkAt bs (k : Int) = zb := by simp [blkAt, hzb]
      have hs1 : Hid (treeGo ns bs k ((n - k - 1) + 1) = R) := Lib.hid (by have := hs.out; rwa [show n - k = (n - k - 1) + 1 by omega] at this)
      have hst : treeStep ns bs k (nameAt ns k) (blkAt bs k) = if z < 1 ∨ 120 < z then 3 else if blkCheck zb ≠ 0 then blkCheck zb else if memB (ns.take k) z = true then 6 else standsE ns bs zb k := by rw [hnz, hnb]; rfl
      have hkl : k ≤ ns.length := by have := L1.out; omega
      have HST := Lib.hid hst
      have HNZ := Lib.hid (And.intro hnz hnb)
      have HSL := Lib.hid (stands_look hok.out hkl zb)
      have k1 : (0 : Int) ≤ (k : Int) := by omega
      have k2 : (k : Int) < (n : Int) := by omega
      have t1 := hS.boxCell (g := gt) (cs := [.slice (some ⟨b1, o1, none⟩) n c, .slice (some ⟨b2, o2, none⟩) n c2]) (by repeat (first | with_reducible exact At.z | assumption | apply At.s)) 1 _ rfl
      clear hz hzb hnz hnb hst hs
      (go_wp2_with (first | (refine Sep.wloadNz hS (by rfl) rfl rfl (by repeat (first | with_reducible exact At.z | assumption | apply At.s)) (agg_of rfl) ?_) | (refine Sep.walloc hS (by rfl) rfl (by first | exact z_op | exact z_point | exact z_in | exact z_out | exact z_tx | exact z_book | exact z_coin | exact z_undo | exact z_block | exact z_tree | exact z_int | exact z_errno | exact z_bool | exact z_str) ?_; clear hS; intro g W hS) | (refine Sep.wstoreNb hS (by rfl) rfl rfl rfl (agg_of rfl) (by simp [Ones, Value.oneCell']) (by repeat (first | with_reducible exact At.z | assumption | apply At.s)) (by rfl) (by repeat (first | with_reducible exact Put.z | apply Put.s)) ?_; clear hS; intro W hS; refine Stop.go ?_)); refine Stop.mk ?_)
      clear c0 t1
      have x0 := hS.boxCell (g := g) (cs := [.int .i64 zb.parent, .int .i64 zb.height, .int .i64 zb.work, .int .i64 zb.nonce, .slice A5 n5 c5]) (by repeat (first | with_reducible exact At.z | assumption | apply At.s)) 0 _ rfl; have x1 := hS.boxCell (g := g) (cs := [.int .i64 zb.parent, .int .i64 zb.height, .int .i64 zb.work, .int .i64 zb.nonce, .slice A5 n5 c5]) (by repeat (first | with_reducible exact At.z | assumption | apply At.s)) 1 _ rfl; have x2 := hS.boxCell (g := g) (cs := [.int .i64 zb.parent, .int .i64 zb.height, .int .i64 zb.work, .int .i64 zb.nonce, .slice A5 n5 c5]) (by repeat (first | with_reducible exact At.z | assumption | apply At.s)) 2 _ rfl; have x3 := hS.boxCell (g := g) (cs := [.int .i64 zb.parent, .int .i64 zb.height, .int .i64 zb.work, .int .i64 zb.nonce, .slice A5 n5 c5]) (by repeat (first | with_reducible exact At.z | assumption | apply At.s)) 3 _ rfl; have x4 := hS.boxCell (g := g) (cs := [.int .i64 zb.parent, .int .i64 zb.height, .int .i64 zb.work, .int .i64 zb.nonce, .slice A5 n5 c5]) (by repeat (first | with_reducible exact At.z | assumption | apply At.s)) 4 _ rfl
      rcases Classical.em (z < 1) with d1 | d1
      · go_wp2_with fail
        go_ret
        go_light
        exact ⟨ret_int (treeGo_bad hs1.out (by rw [HST.out, if_pos (by omega)]) (by decide)), hS.sub (by repeat (first | with_reducible exact Sub.refl | with_reducible exact Sub.nil | refine Sub.take (by repeat (first | with_reducible exact Del.z | apply Del.s)) ?_ | apply Sub.skip))⟩
      rcases Classical.em (120 < z) with d2 | d2
      · go_wp2_with fail
        go_ret
        go_light
        exact ⟨ret_int (treeGo_bad hs1.out (by rw [HST.out, if_pos (by omega)]) (by decide)), hS.sub (by repeat (first | with_reducible exact Sub.refl | with_reducible exact Sub.nil | refine Sub.take (by repeat (first | with_reducible exact Del.z | apply Del.s)) ?_ | apply Sub.skip))⟩
      have hst1 : Hid (treeStep ns bs k (nameAt ns k) (blkAt bs k) = if blkCheck zb ≠ 0 then blkCheck zb else if memB (ns.take k) z = true then 6 else standsE ns bs zb k) := Lib.hid (by rw [HST.out, if_neg (by omega)])
      have hTL := Lib.hid (there_look hok.out hkl (show z ≠ 0 by omega))
      go_wp2_with fail
      refine (refBlk_c zb [_, _, _, _, _] hS (by repeat (first | with_reducible exact At.z | assumption | apply At.s))).mono ?_
      clear hS x0 x1 x2 x3 x4; rintro e W ⟨rfl, hS⟩
      rcases Classical.em (blkCheck zb = 0) with d3 | d3
      rotate_left
      · have hb : (blkCheck zb != 0) = true := by simpa using d3
        have D3 := Lib.hid d3
        clear d3
        go_wp2_with fail
        go_ret
        go_light
        exact ⟨ret_int (treeGo_bad hs1.out (by rw [hst1.out, if_pos D3.out]) D3.out), hS.sub (by repeat (first | with_reducible exact Sub.refl | with_reducible exact Sub.nil | refine Sub.take (by repeat (first | with_reducible exact Del.z | apply Del.s)) ?_ | apply Sub.skip))⟩
      have hst2 : Hid (treeStep ns bs k (nameAt ns k) (blkAt bs k) = if memB (ns.take k) z = true then 6 else standsE ns bs zb k) := Lib.hid (by rw [hst1.out, if_neg (by simp [d3])])
      have hht := blkCheck_height d3
      rw [d3]
      clear d3
      have x0 := hS.boxCell (g := g) (cs := [.int .i64 zb.parent, .int .i64 zb.height, .int .i64 zb.work, .int .i64 zb.nonce, .slice A5 n5 c5]) (by repeat (first | with_reducible exact At.z | assumption | apply At.s)) 0 _ rfl; have x1 := hS.boxCell (g := g) (cs := [.int .i64 zb.parent, .int .i64 zb.height, .int .i64 zb.work, .int .i64 zb.nonce, .slice A5 n5 c5]) (by repeat (first | with_reducible exact At.z | assumption | apply At.s)) 1 _ rfl; have x2 := hS.boxCell (g := g) (cs := [.int .i64 zb.parent, .int .i64 zb.height, .int .i64 zb.work, .int .i64 zb.nonce, .slice A5 n5 c5]) (by repeat (first | with_reducible exact At.z | assumption | apply At.s)) 2 _ rfl; have x3 := hS.boxCell (g := g) (cs := [.int .i64 zb.parent, .int .i64 zb.height, .int .i64 zb.work, .int .i64 zb.nonce, .slice A5 n5 c5]) (by repeat (first | with_reducible exact At.z | assumption | apply At.s)) 3 _ rfl; have x4 := hS.boxCell (g := g) (cs := [.int .i64 zb.parent, .int .i64 zb.height, .int .i64 zb.work, .int .i64 zb.nonce, .slice A5 n5 c5]) (by repeat (first | with_reducible exact At.z | assumption | apply At.s)) 4 _ rfl
      have hz0 : Hid (∀ W : World, (zeroValue 3).run Try.prog W = .ok (.int .i64 0) W) := Lib.hid (fun W => by kernel_rfl)
      cases hlk0 : look (hts ns bs k) z with
      | some h =>
        have hlk := Lib.hid hlk0
        have hm : Hid (memB (ns.take k) z = true) := Lib.hid (by rw [← hTL.out, hlk0]; rfl)
        clear hlk0
        go_wp2_with (refine Sep.wlookMap hS (by rfl) rfl (by repeat (first | with_reducible exact At.z | assumption | apply At.s)) (x := z) rfl rfl Try.underlying3 Try.underlying129 Try.underlying3 hz0.out hzI ?_; rw [hlk.out])
        go_ret
        go_light
        exact ⟨ret_int (treeGo_bad hs1.out (by rw [hst2.out, if_pos hm.out]) (by decide)), hS.sub (by repeat (first | with_reducible exact Sub.refl | with_reducible exact Sub.nil | refine Sub.take (by repeat (first | with_reducible exact Del.z | apply Del.s)) ?_ | apply Sub.skip))⟩
      | none =>
        have hlk := Lib.hid hlk0
        have hm : Hid (¬ memB (ns.take k) z = true) := Lib.hid (by rw [← hTL.out, hlk0]; simp)
        have hst3 : Hid (treeStep ns bs k (nameAt ns k) (blkAt bs k) = standsE ns bs zb k) := Lib.hid (by rw [hst2.out, if_neg hm.out])
        clear hlk0
        cases hlp0 : look (hts ns bs k) zb.parent with
        | none =>
          have hlp := Lib.hid hlp0
          clear hlp0
          go_wp2_with (first | (refine Sep.wlookMap hS (by rfl) rfl (by repeat (first | with_reducible exact At.z | assumption | apply At.s)) (x := z) rfl rfl Try.underlying3 Try.underlying129 Try.underlying3 hz0.out hzI ?_; rw [hlk.out]) | (refine Sep.wlookMap hS (by rfl) rfl (by repeat (first | with_reducible exact At.z | assumption | apply At.s)) (x := zb.parent) rfl rfl Try.underlying3 Try.underlying129 Try.underlying3 hz0.out p1 ?_; rw [hlp.out]))
          go_ret
          go_light
          exact ⟨ret_int (treeGo_bad hs1.out (by rw [hst3.out, HSL.out, hlp.out]) (by decide)), hS.sub (by repeat (first | with_reducible exact Sub.refl | with_reducible exact Sub.nil | refine Sub.take (by repeat (first | with_reducible exact Del.z | apply Del.s)) ?_ | apply Sub.skip))⟩
        | some h =>
          have hlp := Lib.hid hlp0
          have hbd := look_bd hok.out hlp0
          clear hlp0
          rcases Classical.em (h + 1 = zb.height) with d4 | d4
          · have q : (h + 1 != zb.height) = false := by simp [d4]
            have hst4 : Hid (treeStep ns bs k (nameAt ns k) (blkAt bs k) = 0) := Lib.hid (by rw [hst3.out, HSL.out, hlp.out]; exact if_neg (by simp [d4]))
            have hnx : Hid (treeGo ns bs (k + 1) (n - (k + 1)) = R) := Lib.hid (by have := treeGo_good hs1.out hst4.out; rwa [show n - (k + 1) = n - k - 1 by omega])
            have hok2 : Hid (∀ j, j < k + 1 → treeStep ns bs j (nameAt ns j) (blkAt bs j) = 0) := Lib.hid (fun j hj => by
              rcases Nat.lt_or_ge j k with h1 | h1
              · exact hok.out j h1
              · obtain rfl : j = k := by omega
                exact hst4.out)
            have hput : Hid ((z, zb.height) :: hts ns bs k = hts ns bs (k + 1)) := Lib.hid (by rw [hts, HNZ.out.1, HNZ.out.2])
            have hll : (hts ns bs k).length ≤ 1000000 := by rw [hts_len]; omega
            have HLL := Lib.hid hll
            clear d4 hll
            go_wp2_with (first | (refine Sep.wlookMap hS (by rfl) rfl (by repeat (first | with_reducible exact At.z | assumption | apply At.s)) (x := z) rfl rfl Try.underlying3 Try.underlying129 Try.underlying3 hz0.out hzI ?_; rw [hlk.out]) | (refine Sep.wlookMap hS (by rfl) rfl (by repeat (first | with_reducible exact At.z | assumption | apply At.s)) (x := zb.parent) rfl rfl Try.underlying3 Try.underlying129 Try.underlying3 hz0.out p1 ?_; rw [hlp.out]) | (refine Sep.wputMap (x := z) (v := zb.height) (l := hts ns bs k) hS (by rfl) (.inl rfl) (by repeat (first | with_reducible exact Del.z | apply Del.s)) rfl rfl rfl Try.underlying3 Try.underlying129 Try.underlying3 hzI p2 HLL.out ?_; clear hS; intro W hS))
            rw [hput.out] at hS
            go_roundw
            case measure => go_light; simp [intOf]; omega
            case rel => go_light; exact ⟨k + 1, by omega, by go_num, hok2, hnx, hS.sub (by repeat (first | with_reducible exact Sub.refl | with_reducible exact Sub.nil | refine Sub.take (by repeat (first | with_reducible exact Del.z | apply Del.s)) ?_ | apply Sub.skip))⟩
          · have q : (h + 1 != zb.height) = true := by simpa using d4
            have D4 := Lib.hid d4
            clear d4
            go_wp2_with (first | (refine Sep.wlookMap hS (by rfl) rfl (by repeat (first | with_reducible exact At.z | assumption | apply At.s)) (x := z) rfl rfl Try.underlying3 Try.underlying129 Try.underlying3 hz0.out hzI ?_; rw [hlk.out]) | (refine Sep.wlookMap hS (by rfl) rfl (by repeat (first | with_reducible exact At.z | assumption | apply At.s)) (x := zb.parent) rfl rfl Try.underlying3 Try.underlying129 Try.underlying3 hz0.out p1 ?_; rw [hlp.out]))
            go_ret
            go_light
            exact ⟨ret_int (treeGo_bad hs1.out (by rw [hst3.out, HSL.out, hlp.out]; exact if_pos D4.out) (by decide)), hS.sub (by repeat (first | with_reducible exact Sub.refl | with_reducible exact Sub.nil | refine Sub.take (by repeat (first | with_reducible exact Del.z | apply Del.s)) ?_ | apply Sub.skip))⟩
    · obtain rfl : k = n := by omega
      have hz : Hid (0 = R) := Lib.hid (by have := hs.out; rw [Nat.sub_self, treeGo] at this; exact this)
      clear hs
      go_wp2_with fail
      go_ret
      go_light
      exact ⟨ret_int hz.out, hS.sub (by repeat (first | with_reducible exact Sub.refl | with_reducible exact Sub.nil | refine Sub.take (by repeat (first | with_reducible exact Del.z | apply Del.s)) ?_ | apply Sub.skip))⟩
end Go.Proofs.Ytnnbnjanekibpaa
