/- Rows of the call's own: their elements read and written, over 'Sep'. Own text, of no program. -/
import Derived.Test.YtnnbnjanekibpaaDraw
import Derived.Test.YtnnbnjanekibpaaOwnSet
namespace Go.Proofs.Ytnnbnjanekibpaa
open Go.RowKit
set_option linter.unusedVariables false

def setL {α : Type} : List α → Nat → List α → List α
  | l, _, [] => l
  | l, o, v :: vs => setL (l.set o v) (o + 1) vs
theorem own_setCells {base e size n c g : Nat} {A : Option Addr} (hA : A = some ⟨g, 0, none⟩) : ∀ (vs : List Value) (i : Nat) (w : World) (xs : List Value), w.ownsRow base e size (.slice A n c) n xs →
    (w.setCells g i vs).ownsRow base e size (.slice A n c) n (setL xs i vs)
  | [], _, _, _, h => h
  | v :: vs, i, w, xs, h => own_setCells hA vs (i + 1) _ _ (own_set h hA v)
theorem setL_length {α : Type} : ∀ (vs : List α) (i : Nat) (l : List α), (setL l i vs).length = l.length
  | [], _, _ => rfl
  | v :: vs, i, l => by rw [setL, setL_length vs]; simp
theorem setL_get {α : Type} : ∀ (vs : List α) (i : Nat) (l : List α), i + vs.length ≤ l.length → ∀ j, (setL l i vs)[j]? = if i ≤ j ∧ j < i + vs.length then vs[j - i]? else l[j]?
  | [], i, l, h, j => by rw [setL, if_neg (by simp only [List.length_nil]; omega)]
  | v :: vs, i, l, h, j => by
    simp only [List.length_cons] at h
    rw [setL, setL_get vs (i + 1) (l.set i v) (by simp; omega)]
    by_cases h1 : j = i
    · subst h1
      rw [if_neg (by omega), if_pos (by simp), List.getElem?_set_self (by omega)]; simp
    · by_cases h2 : i + 1 ≤ j ∧ j < i + 1 + vs.length
      · rw [if_pos h2, if_pos (by simp; omega), show j - i = (j - (i + 1)) + 1 by omega, List.getElem?_cons_succ]
      · rw [if_neg h2, if_neg (by simp; omega), List.getElem?_set_ne (by omega)]
theorem setL_all {α : Type} (l vs : List α) (h : l.length = vs.length) : setL l 0 vs = vs := by
  apply List.ext_getElem?
  intro j
  rw [setL_get vs 0 l (by omega)]
  by_cases hj : j < vs.length
  · rw [if_pos ⟨by omega, by omega⟩, Nat.sub_zero]
  · rw [if_neg (by omega), List.getElem?_eq_none (by omega), List.getElem?_eq_none (by omega)]
theorem setL_flat {α : Type} {s : Nat} {zs : List (α × List Value)} (hz : ∀ z ∈ zs, z.2.length = s) {k : Nat} {z : α × List Value} (hk : zs[k]? = some z) (x : α) : ∀ (vs : List Value) (j : Nat) (cs : List Value), z.2.length = cs.length → j + vs.length ≤ s →
    setL (flat (zs.set k (x, cs))) (k * s + j) vs = flat (zs.set k (x, setL cs j vs))
  | [], j, cs, _, _ => rfl
  | v :: vs, j, cs, hl, h => by
    simp only [List.length_cons] at h
    have hzl : z.2.length = s := hz z (List.mem_of_getElem? hk)
    have hkl := (List.getElem?_eq_some_iff.1 hk).1
    have h1 : ∀ y ∈ zs.set k (x, cs), y.2.length = s := fun y hy => by
      rcases List.mem_or_eq_of_mem_set hy with h' | h'
      · exact hz y h'
      · subst h'; simp; omega
    rw [setL, flat_set h1 (k := k) (j := j) (z := (x, cs)) (List.getElem?_set_self (by omega)) (by omega) v x, List.set_set, Nat.add_assoc, setL_flat hz hk x vs (j + 1) (cs.set j v) (by simp; omega) (by omega)]
    rfl

section
variable {P : Program} {w0 W : World} {F0 : Nat → Prop} {Γ Γ' Γ1 : List Res}
variable {ops : Array Oper} {Q : Exit → Act → World → Prop} {a : Act} {rest : List Oper} {o : Oper} {t : TypeId} {x y : Operand}

/-- A row with an element lies somewhere. -/
theorem Sep.rowSome (h : Sep w0 F0 Γ W) {α : Type} {S : Sh α} {e n c k : Nat} {A : Option Addr} {xs : List α} (hm : At Γ (row e (.slice A n c) xs S)) (hk : k < xs.length) : ∃ g, A = some ⟨g, 0, none⟩ ∧ n = xs.length ∧ n ≤ c ∧ c ≤ 9223372036854775807 := by
  obtain ⟨zs, hz1, hz2, hz3⟩ := h.getRow hm
  rcases hz2.2 with ⟨hv, h0⟩ | ⟨g, cap, cur, hv, hg, hh, hnc, hcm, r⟩
  · omega
  · simp only [Value.slice.injEq] at hv
    exact ⟨g, hv.1, hv.2.1, by omega, by unfold maxLen at hcm; omega⟩
theorem Sep.rowLen (h : Sep w0 F0 Γ W) {α : Type} {S : Sh α} {e n c : Nat} {A : Option Addr} {xs : List α} (hm : At Γ (row e (.slice A n c) xs S)) : n = xs.length ∧ n ≤ c ∧ c ≤ 9223372036854775807 := by
  obtain ⟨A', c', e1, h1, h2⟩ := h.rowSlice hm
  simp only [Value.slice.injEq] at e1
  obtain ⟨_, rfl, rfl⟩ := e1
  exact ⟨rfl, h1, h2⟩

/-- An element of a row, its cells where they lie. -/
theorem Sep.rowCells (h : Sep w0 F0 Γ W) {α : Type} {S : Sh α} {e n c k g : Nat} {xs : List α} {z : α} (hm : At Γ (row e (.slice (some ⟨g, 0, none⟩) n c) xs S)) (hk : xs[k]? = some z) :
    ∃ cs, Sep w0 F0 (rep z cs S :: Γ) W ∧ W.rangeAt g (k * S.size) cs ∧ W.there g (k * S.size) S.size := by
  obtain ⟨zs, hz1, hz2, hz3⟩ := h.getRow hm
  obtain ⟨q, hq, rfl⟩ : ∃ q, zs[k]? = some q ∧ q.1 = z := by
    rw [← hz1, List.getElem?_map] at hk
    obtain ⟨q, hq, e⟩ := Option.map_eq_some_iff.1 hk
    exact ⟨q, hq, e⟩
  have hall : ∀ z ∈ zs, z.2.length = S.size := fun z hz => S.len (hz3 z hz)
  have hql := hall q (List.mem_of_getElem? hq)
  have hxl : (flat zs).length = zs.length * S.size := flat_length hall
  have hkl := (List.getElem?_eq_some_iff.1 hq).1
  have hle : (k + 1) * S.size ≤ zs.length * S.size := Nat.mul_le_mul_right _ hkl
  rw [Nat.succ_mul] at hle
  have hn : n = xs.length := (h.rowLen hm).1
  subst hn
  refine ⟨q.2, h.addRep (hz3 q (List.mem_of_getElem? hq)), fun j v hj => ?_, fun j hj => ?_⟩
  · have hjl := (List.getElem?_eq_some_iff.1 hj).1
    obtain ⟨g', e1, _, _, hc, _⟩ := own_cell hz2 (i := k * S.size + j) (by omega)
    simp only [Option.some.injEq, Addr.mk.injEq] at e1
    obtain ⟨rfl, _⟩ := e1
    rw [hc, flat_cell hall hq (by omega)]; exact hj
  · obtain ⟨g', e1, _, _, hc, hf⟩ := own_cell hz2 (i := k * S.size + j) (by omega)
    simp only [Option.some.injEq, Addr.mk.injEq] at e1
    obtain ⟨rfl, _⟩ := e1
    refine ⟨?_, hf⟩
    rw [hc, flat_cell hall hq hj, List.getElem?_eq_getElem (by omega)]; rfl
theorem Sep.wloadNr (h : Sep w0 F0 Γ W) (hgd : Region.wanted o (yielded ops a.tmps) = true) (ho : o.op = .load t x) {α : Type} {S : Sh α} {g k e n c : Nat} {xs : List α} (hx : a.eval x = .pointer (some ⟨g, k * S.size, none⟩)) (hm : At Γ (row e (.slice (some ⟨g, 0, none⟩) n c) xs S)) (h1 : AggN P t S.size) (hk : k < xs.length)
    (kk : ∀ z cs, Hid (xs[k]? = some z) → Sep w0 F0 (rep z cs S :: Γ) W → wpList P ops Q rest (a.put o.dst (.agg cs.toArray)) W) : wpList P ops Q (o :: rest) a W := by
  obtain ⟨cs, h2, h3, _⟩ := h.rowCells hm (List.getElem?_eq_getElem hk)
  have hl : cs.length = S.size := S.len (h2.getRep At.z)
  exact wload hgd ho hx (by rw [← hl] at h1; exact h1.load h3) (kk _ _ (Lib.hid (List.getElem?_eq_getElem hk)) h2)

/-- Cells of an element are written: it is another datum now. -/
theorem Sep.rowSet (h : Sep w0 F0 Γ W) {α : Type} {S : Sh α} {e n c k j g : Nat} {xs : List α} {z z' : α} {vs : List Value} (hd : Del Γ (row e (.slice (some ⟨g, 0, none⟩) n c) xs S) Γ1) (hk : xs[k]? = some z) (hj : j + vs.length ≤ S.size)
    (hr : ∀ cs, S.rep W (Free w0.heap.size F0 (row e (.slice (some ⟨g, 0, none⟩) n c) xs S :: Γ1) W) z cs → S.rep W (Free w0.heap.size F0 (row e (.slice (some ⟨g, 0, none⟩) n c) xs S :: Γ1) W) z' (setL cs j vs)) :
    Sep w0 F0 (row e (.slice (some ⟨g, 0, none⟩) n c) (xs.set k z') S :: Γ1) (W.setCells g (k * S.size + j) vs) := by
  have h1 := h.front hd
  have hn : n = xs.length := (h1.rowLen At.z).1
  subst hn
  have hfar : ∀ (vs : List Value) (i : Nat) (w : World) (b : Nat), b ≠ g → (w.setCells g i vs).heap[b]? = w.heap[b]? := by
    intro vs
    induction vs with
    | nil => intro i w b hb; rfl
    | cons v vs ih => intro i w b hb; rw [World.setCells, ih _ _ _ hb]; exact Below.heap_setCell _ _ _ _ hb
  have hsz : ∀ (vs : List Value) (i : Nat) (w : World), (w.setCells g i vs).heap.size = w.heap.size ∧ (w.setCells g i vs).os = w.os ∧ (w.setCells g i vs).tape = w.tape ∧ (w.setCells g i vs).output = w.output := by
    intro vs
    induction vs with
    | nil => intro i w; exact ⟨rfl, rfl, rfl, rfl⟩
    | cons v vs ih => intro i w; rw [World.setCells]; obtain ⟨a1, a2, a3, a4⟩ := ih (i + 1) (w.setCell ⟨g, i, none⟩ v); exact ⟨by rw [a1]; simp [World.setCell], a2, a3, a4⟩
  obtain ⟨s1, s2, s3, s4⟩ := hsz vs (k * S.size + j) W
  have hgr : W.grownBy (W.setCells g (k * S.size + j) vs) (some g) := ⟨s2, s3, s4, by omega, fun b _ hb => hfar _ _ _ _ (fun e => hb (by rw [e]))⟩
  refine h1.putRow hgr ?_
  intro hfree hag zs hz1 hz2 hz3
  obtain ⟨q, hq, rfl⟩ : ∃ q, zs[k]? = some q ∧ q.1 = z := by
    rw [← hz1, List.getElem?_map] at hk
    obtain ⟨q, hq, e⟩ := Option.map_eq_some_iff.1 hk
    exact ⟨q, hq, e⟩
  have hall : ∀ z ∈ zs, z.2.length = S.size := fun z hz => S.len (hz3 z hz)
  have hql := hall q (List.mem_of_getElem? hq)
  refine ⟨zs.set k (z', setL q.2 j vs), by rw [List.map_set, hz1], ?_, ?_⟩
  · have := own_setCells rfl vs (k * S.size + j) W (flat zs) hz2
    rw [List.length_set]
    have e2 := setL_flat hall hq z' vs j q.2 rfl hj
    have e3 : flat (zs.set k (z', q.2)) = flat zs := by
      have : ∀ (l : List (α × List Value)) (i : Nat) (q : α × List Value) (y : α), l[i]? = some q → flat (l.set i (y, q.2)) = flat l := by
        intro l
        induction l with
        | nil => intro i q y h; cases h
        | cons p l ih =>
          intro i q y h
          cases i with
          | zero => simp at h; subst h; rfl
          | succ i => simp only [List.set_cons_succ, flat_cons]; rw [ih i q y (by simpa using h)]
      exact this zs k q z' hq
    rw [e3] at e2
    rw [← e2]
    exact this
  · intro p hp
    rcases List.mem_or_eq_of_mem_set hp with h' | h'
    · exact S.more hfree (S.keep hag (hz3 p h'))
    · subst h'
      exact S.more hfree (S.keep hag (hr q.2 (hz3 q (List.mem_of_getElem? hq))))
theorem Sep.wstore1r (h : Sep w0 F0 Γ W) (hgd : Region.wanted o (yielded ops a.tmps) = true) (ho : o.op = .store t x y) {α : Type} {S : Sh α} {g k j e n c : Nat} {xs : List α} {z z' : α} {u : Value} (hx : a.eval x = .pointer (some ⟨g, k * S.size + j, none⟩)) (hy : a.eval y = u) (h1 : OneT P t) (hone : u.oneCell' = true)
    (hd : Del Γ (row e (.slice (some ⟨g, 0, none⟩) n c) xs S) Γ1) (hk : xs[k]? = some z) (hj : j < S.size)
    (hr : ∀ cs, S.rep W (Free w0.heap.size F0 (row e (.slice (some ⟨g, 0, none⟩) n c) xs S :: Γ1) W) z cs → S.rep W (Free w0.heap.size F0 (row e (.slice (some ⟨g, 0, none⟩) n c) xs S :: Γ1) W) z' (cs.set j u))
    (kk : ∀ W', Sep w0 F0 (row e (.slice (some ⟨g, 0, none⟩) n c) (xs.set k z') S :: Γ1) W' → wpList P ops Q rest (a.put o.dst undef) W') : wpList P ops Q (o :: rest) a W := by
  obtain ⟨cs, h2, h3, h4⟩ := (h.front hd).rowCells At.z hk
  obtain ⟨h5, h6⟩ := h4 j hj
  obtain ⟨v, hv⟩ := Option.isSome_iff_exists.1 h5
  refine wstore hgd ho hx hy (h1.store (u := v) hv h6 hone) (kk _ ?_)
  exact h.rowSet (vs := [u]) (j := j) hd hk (by simp; omega) (fun cs hc => hr cs hc)
theorem Sep.wstoreNr (h : Sep w0 F0 Γ W) (hgd : Region.wanted o (yielded ops a.tmps) = true) (ho : o.op = .store t x y) {α : Type} {S : Sh α} (hS1 : S.ones) {g k e n c : Nat} {xs : List α} {z z' : α} {cs : List Value} (hx : a.eval x = .pointer (some ⟨g, k * S.size, none⟩)) (hy : a.eval y = .agg cs.toArray) (h1 : AggN P t S.size)
    (hd : Del Γ (row e (.slice (some ⟨g, 0, none⟩) n c) xs S) Γ1) (hk : xs[k]? = some z) (hz : At Γ1 (rep z' cs S))
    (kk : ∀ W', Sep w0 F0 (row e (.slice (some ⟨g, 0, none⟩) n c) (xs.set k z') S :: Γ1) W' → wpList P ops Q rest (a.put o.dst undef) W') : wpList P ops Q (o :: rest) a W := by
  have h0 := h.front hd
  obtain ⟨cs0, h2, h3, h4⟩ := h0.rowCells At.z hk
  have hrep : S.rep W _ z' cs := h0.getRep (At.s hz)
  have hl := S.len hrep
  have hi : (P.info? t).map (·.size) = some cs.toArray.size := by obtain ⟨_, _, _, hi⟩ := h1; simpa [hl] using hi
  refine wstore hgd ho hx hy (run_storeVar_mid W g (k * S.size) t cs.toArray (by simpa [hl] using h4) hi (all_oneCell_toArray (hS1 hrep))) (kk _ ?_)
  have := h.rowSet (vs := cs) (j := 0) hd hk (by omega) (z' := z') (fun c hc => by rw [setL_all c cs (by rw [S.len hc, hl])]; exact hrep)
  simpa using this
end
end Go.Proofs.Ytnnbnjanekibpaa
