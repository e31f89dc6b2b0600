/- Regions that draw their order, over 'Sep': those that only read (one walk), and those that call or store (the reads taken first). Own text, of no program. -/
import Derived.Test.YtnnbnjanekibpaaSep
import Derived.Deep.Quiet
import Derived.OrdersHeld
import Derived.KernelRfl
namespace Go.Proofs.Ytnnbnjanekibpaa
open Go.RowKit
set_option linter.unusedVariables false

/-- What an operation yields in every world of the kind. -/
def Yl (P : Program) (w0 : World) (F0 : Nat → Prop) (Γ : List Res) (o : Oper) (a : Act) (v : Value) : Prop := ∀ W, Sep w0 F0 Γ W → (execOp a.eval o).run P W = .ok (.value v) W

section
variable {P : Program} {w0 W : World} {F0 : Nat → Prop} {Γ : List Res} {ops : Array Oper} {a : Act} {rest : List Oper} {o : Oper} {t : TypeId} {x y : Operand}

theorem Yl.pure {v : Value} (h : ∀ W, (execOp a.eval o).run P W = .ok (.value v) W) : Yl P w0 F0 Γ o a v := fun W _ => h W
theorem Yl.move (ho : o.op = .move x) : Yl P w0 F0 Γ o a (a.eval x) := fun W _ => by unfold execOp; simp only [ho]; rfl
theorem Yl.assign (ho : o.op = .assign x) : Yl P w0 F0 Γ o a (a.eval x) := fun W _ => by unfold execOp; simp only [ho]; rfl
theorem Yl.load (ho : o.op = .load t x) {p : Addr} {v : Value} (hx : a.eval x = .pointer (some p)) (hr : ∀ W, Sep w0 F0 Γ W → (loadVar t p).run P W = .ok v W) : Yl P w0 F0 Γ o a v := fun W hS => by
  unfold execOp
  simp only [ho, Instr.loadAt, Instr.sureAddr, Sem.run_bind, Result.andThen_ok, Sem.run_pure, hx, hr W hS]
theorem Yl.load1b (ho : o.op = .load t x) {g j ty : Nat} {cs : List Value} {v : Value} (hx : a.eval x = .pointer (some ⟨g, j, none⟩)) (h1 : OneT P t) (hm : At Γ (box g cs ty)) (hv : cs[j]? = some v) : Yl P w0 F0 Γ o a v :=
  Yl.load ho hx fun W hS => h1.load (by have := hS.boxAt hm j v hv; rwa [Nat.zero_add] at this)
theorem Yl.loadNb (ho : o.op = .load t x) {g ty : Nat} {cs : List Value} (hx : a.eval x = .pointer (some ⟨g, 0, none⟩)) (hm : At Γ (box g cs ty)) (h1 : AggN P t cs.length) : Yl P w0 F0 Γ o a (.agg cs.toArray) :=
  Yl.load ho hx fun W hS => h1.load (hS.boxAt hm)
theorem Yl.loadPb (ho : o.op = .load t x) {g j n ty : Nat} {cs cs' : List Value} (hx : a.eval x = .pointer (some ⟨g, j, none⟩)) (h1 : AggN P t n) (hm : At Γ (box g cs ty)) (hc : (cs.drop j).take n = cs') (hn : cs'.length = n) : Yl P w0 F0 Γ o a (.agg cs'.toArray) :=
  Yl.load ho hx fun W hS => by
    subst hn
    have := range_part (hS.boxAt hm) hc
    rw [Nat.zero_add] at this
    exact h1.load this
theorem Yl.load1c (ho : o.op = .load t x) {b q j : Nat} {cs : List Value} {v : Value} (hx : a.eval x = .pointer (some ⟨b, q + j, none⟩)) (h1 : OneT P t) (hm : At Γ (cells b q cs)) (hv : cs[j]? = some v) : Yl P w0 F0 Γ o a v :=
  Yl.load ho hx fun W hS => h1.load (hS.cellsAt hm j v hv)
theorem Yl.load1z (ho : o.op = .load t x) {b q : Nat} {cs : List Value} {v : Value} (hx : a.eval x = .pointer (some ⟨b, q, none⟩)) (h1 : OneT P t) (hm : At Γ (cells b q cs)) (hv : cs[0]? = some v) : Yl P w0 F0 Γ o a v :=
  Yl.load ho hx fun W hS => h1.load (hS.cellsAt hm 0 v hv)
theorem Yl.loadNz (ho : o.op = .load t x) {b q : Nat} {cs : List Value} (hx : a.eval x = .pointer (some ⟨b, q, none⟩)) (hm : At Γ (cells b q cs)) (h1 : AggN P t cs.length) : Yl P w0 F0 Γ o a (.agg cs.toArray) :=
  Yl.load ho hx fun W hS => h1.load (hS.cellsAt hm)
theorem Yl.loadPz (ho : o.op = .load t x) {b q n : Nat} {cs cs' : List Value} (hx : a.eval x = .pointer (some ⟨b, q, none⟩)) (h1 : AggN P t n) (hm : At Γ (cells b q cs)) (hc : cs.take n = cs') (hn : cs'.length = n) : Yl P w0 F0 Γ o a (.agg cs'.toArray) :=
  Yl.load ho hx fun W hS => by
    subst hn
    exact h1.load (range_part (j := 0) (hS.cellsAt hm) (by simpa using hc))
theorem Yl.loadPc (ho : o.op = .load t x) {b q j n : Nat} {cs cs' : List Value} (hx : a.eval x = .pointer (some ⟨b, q + j, none⟩)) (h1 : AggN P t n) (hm : At Γ (cells b q cs)) (hc : (cs.drop j).take n = cs') (hn : cs'.length = n) : Yl P w0 F0 Γ o a (.agg cs'.toArray) :=
  Yl.load ho hx fun W hS => by
    subst hn
    exact h1.load (range_part (hS.cellsAt hm) hc)

/-! Regions that only read, and make calls that hand back no memory. -/
theorem Sep.region (h : Sep w0 F0 Γ W) {id : Nat} {Q : Exit → Act → World → Prop} {l : List Oper} (hm : P.follows .mixedOrders = true) (hB : Region.lexB .any l.toArray = true)
    (k : wpQuiet P l.toArray (Sep w0 F0 Γ) (fun a' => ∀ W', Sep w0 F0 Γ W' → Q .normal a' W') l a) : (Code.region id l.toArray true).wp P Q a W :=
  wp_region_quiet (C := Sep w0 F0 Γ) hm hB h.drew (by simpa using k)
theorem q_y {Q : Act → Prop} {v : Value} (hw : Region.wanted o (yielded ops a.tmps) = true) (hy : Yl P w0 F0 Γ o a v) (k : wpQuiet P ops (Sep w0 F0 Γ) Q rest (a.put o.dst v)) : wpQuiet P ops (Sep w0 F0 Γ) Q (o :: rest) a :=
  wpQuiet_step fun K hK => by
    rw [if_pos hw]
    exact ⟨v, fun W hS => by unfold Oper.quietAt; rw [hy W hS]; exact ⟨rfl, rfl⟩, hK _ k⟩
theorem q_skip {Q : Act → Prop} (hw : Region.wanted o (yielded ops a.tmps) = false) (k : wpQuiet P ops (Sep w0 F0 Γ) Q rest (a.put o.dst undef)) : wpQuiet P ops (Sep w0 F0 Γ) Q (o :: rest) a :=
  wpQuiet_step fun K hK => by rw [if_neg (by rw [hw]; exact Bool.false_ne_true)]; exact hK _ k
theorem q_call {Q : Act → Prop} {v : Value} {f : FuncId} {args : Array Value} (hw : Region.wanted o (yielded ops a.tmps) = true) (he : ∀ W, (execOp a.eval o).run P W = .ok (.enter f args) W)
    (hc : ∀ W, Sep w0 F0 Γ W → Calls P f args W (RV w0 F0 Γ v)) (k : wpQuiet P ops (Sep w0 F0 Γ) Q rest (a.put o.dst v)) : wpQuiet P ops (Sep w0 F0 Γ) Q (o :: rest) a :=
  wpQuiet_step fun K hK => by
    rw [if_pos hw]
    exact ⟨v, fun W hS => by unfold Oper.quietAt; rw [he W]; exact ⟨rfl, hc W hS⟩, hK _ k⟩

/-! Regions that call or store: the reads are taken first; 'late': the stores, which wait for all reads. -/
def lateOn (late : List Nat) (listed : Array Bool) : Bool := late.any fun s => listed.getD s false
/-- Operation s waits for operation i, perhaps by way of others. -/
def reach (md : Region.Mode) (ops : Array Oper) : Nat → Nat → Nat → Bool
  | 0, _, _ => false
  | n + 1, s, i => match ops[s]? with
    | some o => o.after.any fun e => Region.binds md e && (e.on == i || reach md ops n e.on i)
    | none => false
def lateWaits (md : Region.Mode) (ops : Array Oper) (late : List Nat) (i : Nat) : Bool := late.all fun s => s != i && reach md ops ops.size s i
/-- What has come up had all that it waits for ahead of it. -/
def closedB (md : Region.Mode) (ops : Array Oper) (listed : Array Bool) : Bool := (List.range ops.size).all fun j => !listed.getD j false || match ops[j]? with
  | some o => o.after.all fun e => !Region.binds md e || listed.getD e.on false
  | none => true
def Closed (md : Region.Mode) (ops : Array Oper) (listed : Array Bool) : Prop := ∀ j o, ops[j]? = some o → listed.getD j false = true → ∀ e ∈ o.after, Region.binds md e = true → listed.getD e.on false = true
theorem closed_of {md : Region.Mode} {ops : Array Oper} {listed : Array Bool} (h : closedB md ops listed = true) : Closed md ops listed := by
  intro j o hj hl e he hb
  have hlt := (Array.getElem?_eq_some_iff.1 hj).1
  have := (List.all_eq_true.1 h) j (List.mem_range.2 hlt)
  simp only [hl, hj, Bool.not_true, Bool.false_or] at this
  have h2 := Array.all_eq_true'.1 this e he
  simpa [hb] using h2
theorem closed_set {md : Region.Mode} {ops : Array Oper} {listed : Array Bool} {j : Nat} (h : Closed md ops listed) (hj : j ∈ Region.ready md ops listed) : Closed md ops (listed.setIfInBounds j true) := by
  obtain ⟨_, oj, hoj, hall⟩ := mem_ready.1 hj
  intro k o hk hl e he hb
  by_cases hjk : j = k
  · subst hjk
    rw [hoj] at hk
    injection hk with hk
    subst hk
    exact getD_set_true (hall e he hb)
  · rw [getD_set_ne false hjk] at hl
    exact getD_set_true (h k o hk hl e he hb)
theorem reach_listed {md : Region.Mode} {ops : Array Oper} {listed : Array Bool} (h : Closed md ops listed) {i : Nat} : ∀ (n s : Nat), reach md ops n s i = true → listed.getD s false = true → listed.getD i false = true
  | 0, s, hr, _ => by cases hr
  | n + 1, s, hr, hl => by
    unfold reach at hr
    split at hr
    · rename_i o ho
      obtain ⟨e, he, hb⟩ := Array.any_eq_true'.1 hr
      simp only [Bool.and_eq_true, Bool.or_eq_true, beq_iff_eq] at hb
      have h1 := h s o ho hl e he hb.1
      rcases hb.2 with h2 | h2
      · rw [← h2]; exact h1
      · exact reach_listed h n e.on h2 h1
    · cases hr
theorem reach_ready {md : Region.Mode} {ops : Array Oper} {listed : Array Bool} (h : Closed md ops listed) {i s n : Nat} (hr : reach md ops n s i = true) (hs : s ∈ Region.ready md ops listed) : listed.getD i false = true := by
  obtain ⟨_, o, ho, hall⟩ := mem_ready.1 hs
  cases n with
  | zero => cases hr
  | succ n =>
    unfold reach at hr
    simp only [ho] at hr
    obtain ⟨e, he, hb⟩ := Array.any_eq_true'.1 hr
    simp only [Bool.and_eq_true, Bool.or_eq_true, beq_iff_eq] at hb
    have h1 := hall e he hb.1
    rcases hb.2 with h2 | h2
    · rw [← h2]; exact h1
    · exact reach_listed h n e.on h2 h1
theorem getD_ft {listed : Array Bool} {i : Nat} (h : listed.getD i true = false) : listed.getD i false = false := by
  rcases Nat.lt_or_ge i listed.size with h' | h'
  · simp [h'] at h ⊢; exact h
  · simp [Array.getElem?_eq_none h'] at h
variable {md : Region.Mode} {Q : Exit → Act → World → Prop} {S : World → Prop} {late : List Nat}
def wpAnyT (P : Program) (md : Region.Mode) (ops : Array Oper) (Q : Exit → Act → World → Prop) (S : World → Prop) (late : List Nat) : Nat → Array Bool → Act → World → Prop
  | 0, listed, a, w => Region.ready md ops listed = [] ∧ Q .normal a w
  | fuel + 1, listed, a, w =>
    (Region.ready md ops listed = [] → Q .normal a w) ∧
    ∀ i ∈ Region.ready md ops listed, wpOp P ops Q i (fun a' w' => (lateOn late (listed.setIfInBounds i true) = false → S w') ∧ wpAnyT P md ops Q S late fuel (listed.setIfInBounds i true) a' w') a w
theorem wpAny_of_T : ∀ (fuel : Nat) (listed : Array Bool) (a : Act) (w : World), wpAnyT P md ops Q S late fuel listed a w → wpAny P md ops Q fuel listed a w
  | 0, _, _, _, h => h
  | fuel + 1, _, _, _, h => ⟨h.1, fun i hi => wpOp_mono (fun a' w' h' => wpAny_of_T fuel _ a' w' h'.2) (h.2 i hi)⟩
theorem lateOn_set {listed : Array Bool} {j : Nat} (h : lateOn late listed = false) (hj : j ∉ late) : lateOn late (listed.setIfInBounds j true) = false := by
  rw [lateOn, List.any_eq_false] at h ⊢
  intro s hs
  have hne : j ≠ s := fun e => hj (e ▸ hs)
  rw [getD_set_ne false hne]
  exact h s hs
theorem wpAnyT_first {i : Nat} {oi : Oper} {v : Value} (hi : ops[i]? = some oi) (hsel : ∀ (j : Nat) (o : Oper) cs b, ops[j]? = some o → o.op ≠ .select cs b)
    (hQ : ∀ c a w, Q (.panic c) (a.put oi.dst v) w → Q (.panic c) a w) (hlw : lateWaits md ops late i = true) :
    ∀ (fuel : Nat) (listed : Array Bool) (a : Act) (w : World),
      (∀ j oj, ops[j]? = some oj → j ≠ i → listed.getD j true = false → (∀ e ∈ oj.after, Region.binds md e = true → e.on ≠ i) → oi.apart ops oj = true) →
      i ∈ Region.ready md ops listed → YieldsIf P ops S oi v a → S w → lateOn late listed = false → Closed md ops listed →
      wpAnyT P md ops Q S late fuel (listed.setIfInBounds i true) (a.put oi.dst v) w → wpAnyT P md ops Q S late (fuel + 1) listed a w := by
  have hil : i ∉ late := fun h => by
    have := (List.all_eq_true.1 hlw) i h
    simp at this
  intro fuel
  induction fuel with
  | zero =>
    intro listed a w _ hr hy hS hl hcl H
    refine ⟨fun h => (by rw [h] at hr; cases hr), fun j hj => ?_⟩
    by_cases hji : j = i
    · subst hji; exact hy.wpOp hi hS ⟨fun _ => hS, H⟩
    · have := ready_mono hj hji
      rw [H.1] at this
      cases this
  | succ fuel ih =>
    intro listed a w hfree hr hy hS hl hcl H
    refine ⟨fun h => (by rw [h] at hr; cases hr), fun j hj => ?_⟩
    by_cases hji : j = i
    · subst hji; exact hy.wpOp hi hS ⟨fun _ => hS, H⟩
    · have h1 := H.2 j (ready_mono hj hji)
      obtain ⟨hjun, oj, hoj, hall⟩ := mem_ready.1 hj
      have hnot : ∀ e ∈ oj.after, Region.binds md e = true → e.on ≠ i := fun e he hb heq => by
        have h1 := hall e he hb
        have h0 := (mem_ready.1 hr).1
        rw [heq] at h1
        rcases Nat.lt_or_ge i listed.size with h' | h'
        · simp [h'] at h0 h1; rw [h0] at h1; cases h1
        · simp [Array.getElem?_eq_none h'] at h1
      have hjl : j ∉ late := fun hmem => by
        have := (List.all_eq_true.1 hlw) j hmem
        simp only [Bool.and_eq_true] at this
        have h5 := reach_ready hcl this.2 hj
        rw [getD_ft (mem_ready.1 hr).1] at h5
        cases h5
      have hl' := lateOn_set hl hjl
      have h2 := wpOp_putIf hoj (hfree j oj hoj hji hjun hnot) (fun cs b => hsel i oi cs b hi) (fun cs b => hsel j oj cs b hoj) hQ hy h1
      have hfree' : ∀ k ok, ops[k]? = some ok → k ≠ i → (listed.setIfInBounds j true).getD k true = false →
          (∀ e ∈ ok.after, Region.binds md e = true → e.on ≠ i) → oi.apart ops ok = true := fun k ok hk hki hun hno => by
        refine hfree k ok hk hki ?_ hno
        by_cases hjk : j = k
        · subst hjk; exact hjun
        · rw [getD_set_ne true hjk] at hun; exact hun
      have hl2 : lateOn late ((listed.setIfInBounds i true).setIfInBounds j true) = false := by
        rw [Array.setIfInBounds_comm _ _ (Ne.symm hji)]
        exact lateOn_set hl' hil
      refine wpOp_mono (fun a' w' h3 => ⟨fun _ => h3.2.1 hl2, ih (listed.setIfInBounds j true) a' w' hfree' (ready_mono hr (Ne.symm hji)) h3.1 (h3.2.1 hl2) hl' (closed_set hcl hj) ?_⟩) h2
      rw [Array.setIfInBounds_comm _ _ hji]
      exact h3.2.2
theorem wpAnyT_take (i : Nat) {oi : Oper} {v : Value} {fuel : Nat} {listed : Array Bool} (hi : ops[i]? = some oi) (hw : Region.wanted oi (yielded ops a.tmps) = true) (hy : Yl P w0 F0 Γ oi a v) (h : Sep w0 F0 Γ W)
    (hs : (Region.noSelect ops && Region.free md ops listed i && (Region.ready md ops listed).contains i && lateWaits md ops late i && !lateOn late listed && closedB md ops listed) = true)
    (hQ : ∀ c a w, Q (.panic c) (a.put oi.dst v) w → Q (.panic c) a w)
    (k : wpAnyT P md ops Q (Sep w0 F0 Γ) late fuel (listed.setIfInBounds i true) (a.put oi.dst v) W) : wpAnyT P md ops Q (Sep w0 F0 Γ) late (fuel + 1) listed a W := by
  simp only [Bool.and_eq_true, Bool.not_eq_true'] at hs
  obtain ⟨⟨⟨⟨⟨h1, h2⟩, h3⟩, h4⟩, h5⟩, h6⟩ := hs
  exact wpAnyT_first hi (Region.noSelect_spec h1) hQ h4 fuel listed a W (Region.free_spec hi h2) (by simpa using h3) (.inl ⟨hw, fun W hS => hy W hS⟩) h h5 (closed_of h6) k
/-- What stands behind an operation of such a region. -/
structure NextT (P : Program) (md : Region.Mode) (ops : Array Oper) (Q : Exit → Act → World → Prop) (S : World → Prop) (late : List Nat) (fuel : Nat) (listed : Array Bool) (a : Act) (w : World) : Prop where
  s : lateOn late listed = false → S w
  t : wpAnyT P md ops Q S late fuel listed a w
theorem wp_chQ {Q Q' : Exit → Act → World → Prop} {K K' : Act → World → Prop} {w : World} (hK : ∀ a w, K' a w → K a w) (hp : ∀ c w, Q' (.panic c) a w → Q (.panic c) a w) (hl : LetsOut Q' → LetsOut Q) (h : o.wp P a w K' Q') : o.wp P a w K Q := by
  unfold Oper.wp at *
  generalize (execOp a.eval o).run P w = r at *
  cases r with
  | ok n w' =>
    cases n <;> simp only [Oper.upon] at h ⊢ <;>
      first
        | exact hK _ _ h
        | exact Calls.mono h (fun e w'' he => by cases e <;> first | exact hK _ _ he | exact hp _ _ he | exact hl he)
        | exact Rows.mono h (fun _ _ he => hK _ _ he)
  | halt x w' => cases x <;> simp only [Oper.upon] at h ⊢ <;> first | exact hp _ _ h | exact h
theorem wpAnyT_one (i : Nat) {fuel : Nat} {listed : Array Bool} {w : World} (hr : (Region.ready md ops listed == [i]) = true) (ho : ops[i]? = some o)
    (h : wpList P ops (Exit.then (NextT P md ops Q S late fuel (listed.setIfInBounds i true)) Q) [o] a w) : wpAnyT P md ops Q S late (fuel + 1) listed a w := by
  have hr' : Region.ready md ops listed = [i] := by simpa using hr
  refine ⟨fun h0 => (by rw [h0] at hr'; cases hr'), fun j hj => ?_⟩
  rw [hr'] at hj
  have hji : j = i := by simpa using hj
  subst hji
  unfold wpOp
  simp only [ho]
  unfold wpList at h
  split
  · rename_i hw
    rw [if_pos hw] at h
    rcases h with h | ⟨h1, h2⟩
    · exact .inl (wp_chQ (fun a w hk => ⟨hk.s, hk.t⟩) (fun c w hp => hp) (fun hl => hl) h)
    · exact .inr ⟨h1, h2⟩
  · rename_i hw
    rw [if_neg hw] at h
    exact ⟨h.s, h.t⟩
theorem wpAnyT_skip (i : Nat) {fuel : Nat} {listed : Array Bool} {w : World} (hr : (Region.ready md ops listed == [i]) = true) (ho : ops[i]? = some o) (hw : Region.wanted o (yielded ops a.tmps) = false)
    (h : NextT P md ops Q S late fuel (listed.setIfInBounds i true) (a.put o.dst undef) w) : wpAnyT P md ops Q S late (fuel + 1) listed a w := by
  have hr' : Region.ready md ops listed = [i] := by simpa using hr
  refine ⟨fun h0 => (by rw [h0] at hr'; cases hr'), fun j hj => ?_⟩
  rw [hr'] at hj
  have hji : j = i := by simpa using hj
  subst hji
  unfold wpOp
  simp only [ho]
  rw [if_neg (by rw [hw]; exact Bool.false_ne_true)]
  exact ⟨h.s, h.t⟩
theorem wpAnyT_done {fuel : Nat} {listed : Array Bool} {w : World} (hr : ((Region.ready md ops listed) == []) = true) (h : Q .normal a w) : wpAnyT P md ops Q S late fuel listed a w := by
  have hr' : Region.ready md ops listed = [] := by simpa using hr
  cases fuel with
  | zero => exact ⟨hr', h⟩
  | succ n => exact ⟨fun _ => h, by rw [hr']; simp⟩
theorem takeL {l : List Oper} (i : Nat) {oi : Oper} {v : Value} {fuel : Nat} {listed : Array Bool} (hi : l[i]? = some oi) (hw : Region.wanted oi (yielded l.toArray a.tmps) = true) (hy : Yl P w0 F0 Γ oi a v) (h : Sep w0 F0 Γ W)
    (hs : (Region.noSelect l.toArray && Region.free md l.toArray listed i && (Region.ready md l.toArray listed).contains i && lateWaits md l.toArray late i && !lateOn late listed && closedB md l.toArray listed) = true)
    (hQ : ∀ c a w, Q (.panic c) (a.put oi.dst v) w → Q (.panic c) a w)
    (k : wpAnyT P md l.toArray Q (Sep w0 F0 Γ) late fuel (listed.setIfInBounds i true) (a.put oi.dst v) W) : wpAnyT P md l.toArray Q (Sep w0 F0 Γ) late (fuel + 1) listed a W :=
  wpAnyT_take i (by simpa using hi) hw hy h hs hQ k
theorem oneL {l : List Oper} (i : Nat) {fuel : Nat} {listed : Array Bool} {w : World} (hr : (Region.ready md l.toArray listed == [i]) = true) (ho : l[i]? = some o)
    (h : wpList P l.toArray (Exit.then (NextT P md l.toArray Q S late fuel (listed.setIfInBounds i true)) Q) [o] a w) : wpAnyT P md l.toArray Q S late (fuel + 1) listed a w :=
  wpAnyT_one i hr (by simpa using ho) h
theorem twoL {l : List Oper} (i j : Nat) {o' : Oper} {fuel : Nat} {listed : Array Bool} {w : World} (hr : (Region.ready md l.toArray listed == [i, j]) = true) (ho : l[i]? = some o) (ho' : l[j]? = some o')
    (h : wpList P l.toArray (Exit.then (NextT P md l.toArray Q S late fuel (listed.setIfInBounds i true)) Q) [o] a w) (h' : wpList P l.toArray (Exit.then (NextT P md l.toArray Q S late fuel (listed.setIfInBounds j true)) Q) [o'] a w) : wpAnyT P md l.toArray Q S late (fuel + 1) listed a w := by
  have hr' : Region.ready md l.toArray listed = [i, j] := by simpa using hr
  have key : ∀ (i : Nat) (o : Oper), l[i]? = some o → wpList P l.toArray (Exit.then (NextT P md l.toArray Q S late fuel (listed.setIfInBounds i true)) Q) [o] a w → wpOp P l.toArray Q i (fun a' w' => (lateOn late (listed.setIfInBounds i true) = false → S w') ∧ wpAnyT P md l.toArray Q S late fuel (listed.setIfInBounds i true) a' w') a w := by
    intro i o ho h
    have ho2 : l.toArray[i]? = some o := by simpa using ho
    unfold wpOp
    simp only [ho2]
    unfold wpList at h
    split
    · rename_i hw
      rw [if_pos hw] at h
      rcases h with h | ⟨h1, h2⟩
      · exact .inl (wp_chQ (fun a w hk => ⟨hk.s, hk.t⟩) (fun c w hp => hp) (fun hl => hl) h)
      · exact .inr ⟨h1, h2⟩
    · rename_i hw
      rw [if_neg hw] at h
      exact ⟨h.s, h.t⟩
  refine ⟨fun h0 => (by rw [h0] at hr'; cases hr'), fun k hk => ?_⟩
  rw [hr'] at hk
  simp only [List.mem_cons, List.not_mem_nil, or_false] at hk
  rcases hk with rfl | rfl
  · exact key _ o ho h
  · exact key _ o' ho' h'
theorem late_no {late : List Nat} {listed : Array Bool} {p : Prop} (h : lateOn late listed = true) (h' : lateOn late listed = false) : p := by rw [h] at h'; cases h'
theorem Sep.regionT (h : Sep w0 F0 Γ W) (late : List Nat) {id : Nat} {l : List Oper} (hm : P.follows .mixedOrders = true) (k : ∀ W', Sep w0 F0 Γ W' → wpAnyT P .any l.toArray Q (Sep w0 F0 Γ) late l.length (Array.replicate l.length false) a W') : (Code.region id l.toArray true).wp P Q a W := by
  refine wp_region_any hm (wpAny_of_T (S := Sep w0 F0 Γ) (late := late) _ _ _ _ ?_)
  have := k W.drew h.drew
  simpa using this
/-- The same, the reads leaning on a part of what is known. -/
theorem Sep.regionS (h : Sep w0 F0 Γ W) (late : List Nat) {Γs : List Res} (hs : Sub Γs Γ) {id : Nat} {l : List Oper} (hm : P.follows .mixedOrders = true) (k : ∀ W', Sep w0 F0 Γ W' → wpAnyT P .any l.toArray Q (Sep w0 F0 Γs) late l.length (Array.replicate l.length false) a W') : (Code.region id l.toArray true).wp P Q a W := by
  refine wp_region_any hm (wpAny_of_T (S := Sep w0 F0 Γs) (late := late) _ _ _ _ ?_)
  have := k W.drew h.drew
  simpa using this
end
/-! What a function hands back. -/
def Got (P : Program) (W : World) (tmps : Array Value) : ResultVar → Value → Prop
  | .tmp t, v => tmps.getD t undef = v
  | .cell a t, v => ∃ p, tmps.getD a undef = .pointer (some p) ∧ (loadVar t p).run P W = .ok v W
def getR (tmps : Array Value) : ResultVar → Sem Value
  | .tmp t => Pure.pure (tmps.getD t undef)
  | .cell a t => do loadVar t (← asAddr (tmps.getD a undef))
theorem Got.run {P : Program} {W : World} {tmps : Array Value} {r : ResultVar} {v : Value} (h : Got P W tmps r v) : (getR tmps r).run P W = .ok v W := by
  cases r with
  | tmp t => simp only [Got] at h; simp only [getR, h, Sem.run_pure]
  | cell a t => obtain ⟨p, h1, h2⟩ := h; simp only [getR, h1, asAddr, Sem.run_bind, Sem.run_pure, Result.andThen_ok, h2]
theorem results_eq (fn : Func) (tmps : Array Value) : results fn tmps = (do let vs ← fn.results.mapM (getR tmps); Pure.pure (if h : vs.size = 1 then vs[0] else .tuple vs)) := rfl
section
variable {P : Program} {w0 W : World} {F0 : Nat → Prop} {Γ : List Res} {fn : Func} {tmps : Array Value} {r s q p : ResultVar} {v u x y : Value}
theorem Got.tmp {t : Tmp} (h : tmps.getD t undef = v) : Got P W tmps (.tmp t) v := h
theorem Got.boxN (hS : Sep w0 F0 Γ W) {a g t ty : Nat} {cs : List Value} (hx : tmps.getD a undef = .pointer (some ⟨g, 0, none⟩)) (hm : At Γ (box g cs ty)) (h1 : AggN P t cs.length) : Got P W tmps (.cell a t) (.agg cs.toArray) := ⟨_, hx, h1.load (hS.boxAt hm)⟩
theorem Got.box1 (hS : Sep w0 F0 Γ W) {a g t ty : Nat} {v : Value} (hx : tmps.getD a undef = .pointer (some ⟨g, 0, none⟩)) (hm : At Γ (box g [v] ty)) (h1 : OneT P t) : Got P W tmps (.cell a t) v := ⟨_, hx, h1.load (by have := hS.boxAt hm 0 v rfl; simpa using this)⟩
theorem results1 (h : fn.results = #[r]) (g : Got P W tmps r v) : (results fn tmps).run P W = .ok v W := by
  rw [results_eq, h]; simp [g.run]
theorem results2 (h : fn.results = #[r, s]) (g : Got P W tmps r v) (g' : Got P W tmps s u) : (results fn tmps).run P W = .ok (.tuple #[v, u]) W := by
  rw [results_eq, h]; simp [g.run, g'.run]
theorem results3 (h : fn.results = #[r, s, q]) (g : Got P W tmps r v) (g' : Got P W tmps s u) (g2 : Got P W tmps q x) : (results fn tmps).run P W = .ok (.tuple #[v, u, x]) W := by
  rw [results_eq, h]; simp [g.run, g'.run, g2.run]
theorem results4 (h : fn.results = #[r, s, q, p]) (g : Got P W tmps r v) (g' : Got P W tmps s u) (g2 : Got P W tmps q x) (g3 : Got P W tmps p y) : (results fn tmps).run P W = .ok (.tuple #[v, u, x, y]) W := by
  rw [results_eq, h]; simp [g.run, g'.run, g2.run, g3.run]
end
attribute [irreducible] Yl wpAnyT
end Go.Proofs.Ytnnbnjanekibpaa
