/- append onto a row of the call's own, the source a slice that reads as a list (nil let in). After the kit's page on words for memory. -/
import Derived.Test.YtnnbnjanekibpaaClones
import Derived.Lib.AppendZerosOnto
namespace Go.Proofs.Ytnnbnjanekibpaa
open Go.RowKit
set_option linter.unusedVariables false
set_option maxRecDepth 100000

section
variable {P : Program} (w : World)
theorem run_append_of_nil (base : Nat) (t ty e : TypeId) (i : TypeInfo) (size : Nat) (ht : P.underlying t = some (.slice e)) (hi : P.info? e = some i)
    (v : Value) (n : Nat) (xs : List Value) (hown : w.ownsRow base e size v n xs) (c : Nat) : (Builtin.append_ #[t, t] ty #[v, .slice none 0 c]).run P w = .ok v w := by
  rcases hown.2 with ⟨rfl, rfl⟩ | ⟨g, cap, cur, rfl, _, _, hnc, _⟩
  · simp [Builtin.append_, run_underlying ht, sizeOf, typeInfo, hi, Builtin.lenOf, Builtin.firstCells]
  · simp [Builtin.append_, run_underlying ht, sizeOf, typeInfo, hi, Builtin.lenOf, Builtin.firstCells, hnc, storeCells]

theorem run_append_rds {α : Type} {S : Sh α} (hS : S.ones) (base : Nat) (t ty e : TypeId) (i : TypeInfo) (z : Value) (bytes : Nat) (ht : P.underlying t = some (.slice e)) (hi : P.info? e = some i) (hz : i.zero = some z)
    (hsize : i.size = S.size) (hby : i.bytes = bytes) (hzs : z.cells.size = S.size) (hsz : 0 < S.size)
    (v : Value) (n : Nat) (cells : List Value) (hown : w.ownsRow base e S.size v n cells) {F : Nat → Prop} {xs : List α} {A : Option Addr} {m c : Nat} (hr : Rds S w F xs A m c)
    (h63 : n + m ≤ maxLen) (hbytes : (n + m) * bytes ≤ 140737488355328) (hbase : base ≤ w.heap.size) :
    ∃ v' w' ys, ys.map (·.1) = xs ∧ (∀ y ∈ ys, S.rep w F y.1 y.2) ∧ (Builtin.append_ #[t, t] ty #[v, .slice A m c]).run P w = .ok v' w' ∧ w'.ownsRow base e S.size v' (n + m) (cells ++ flat ys) ∧ w.grownBy w' v.ownBlock ∧
      (v'.ownBlock = v.ownBlock ∨ v'.ownBlock = some w.heap.size) := by
  obtain ⟨ys, y1, y2, y3⟩ := hr.pairs
  have hl : ys.length = m := by have := congrArg List.length y1; simp at this; have := hr.1; omega
  cases A with
  | none =>
    have h0 : m = 0 := by
      rcases Nat.eq_zero_or_pos m with h0 | h0
      · exact h0
      · obtain ⟨b, off, e, _⟩ := y3 h0; cases e
    subst h0
    have : ys = [] := List.eq_nil_of_length_eq_zero hl
    subst this
    exact ⟨v, w, [], y1, y2, run_append_of_nil w base t ty e i S.size ht hi v n cells hown c, by simpa [flat] using hown, World.grownBy.refl w _, .inl rfl⟩
  | some ad =>
    have hfl : (flat ys).length = m * S.size := by rw [flat_length (fun z hz => S.len (y2 z hz)), hl]
    have hnews : ∀ j u, (flat ys)[j]? = some u → w.cell? (ad.add j) = some u := by
      intro j u hj
      have hj' := (List.getElem?_eq_some_iff.1 hj).1
      have hm : 0 < m := by
        rcases Nat.eq_zero_or_pos m with h0 | h0
        · rw [h0, Nat.zero_mul] at hfl; omega
        · exact h0
      obtain ⟨b, off, e, hFb, hc⟩ := y3 hm
      injection e with e
      subst e
      rw [add_mk]
      exact hc j u hj
    obtain ⟨v', w', hrun, h2, h3, _, h5⟩ := run_append_own_at (P := P) w base t ty e i z S.size bytes ht hi hz hsize hby hzs hsz v n cells hown ad m c (flat ys) hfl hnews (ones_flat hS y2) h63 hbytes hbase
    exact ⟨v', w', ys, y1, y2, hrun, h2, h3, h5⟩

theorem wp_append_rds {o : Oper} {a : Act} {K : Act → World → Prop} {Q : Exit → Act → World → Prop} (s x : Operand) (t : TypeId)
    (ho : o.op = .call { callee := .builtin .append, args := #[s, x], argTypes := #[t, t] })
    {α : Type} {S : Sh α} (hS : S.ones) (base : Nat) (e : TypeId) (i : TypeInfo) (z : Value) (bytes : Nat) (ht : P.underlying t = some (.slice e)) (hi : P.info? e = some i) (hz : i.zero = some z)
    (hsize : i.size = S.size) (hby : i.bytes = bytes) (hzs : z.cells.size = S.size) (hsz : 0 < S.size)
    (v : Value) (n : Nat) (cells : List Value) (hs : a.eval s = v) (hown : w.ownsRow base e S.size v n cells) {F : Nat → Prop} {xs : List α} {A : Option Addr} {m c : Nat} (hx : a.eval x = .slice A m c) (hr : Rds S w F xs A m c)
    (h63 : n + m ≤ maxLen) (hbytes : (n + m) * bytes ≤ 140737488355328) (hbase : base ≤ w.heap.size)
    (h : ∀ v' w' ys, ys.map (·.1) = xs → (∀ y ∈ ys, S.rep w F y.1 y.2) → w'.ownsRow base e S.size v' (n + m) (cells ++ flat ys) → w.grownBy w' v.ownBlock → (v'.ownBlock = v.ownBlock ∨ v'.ownBlock = some w.heap.size) → K (a.put o.dst v') w') : o.wp P a w K Q := by
  obtain ⟨v', w', ys, y1, y2, hrun, h2, h3, h4⟩ := run_append_rds (P := P) w hS base t o.type e i z bytes ht hi hz hsize hby hzs hsz v n cells hown hr h63 hbytes hbase
  unfold Oper.wp execOp
  simp only [ho, resolve, invoke, builtin, Sem.run_bind, Sem.run_pure, Result.andThen_ok, List.map_toArray, List.map_cons, List.map_nil, hs, hx, hrun]
  exact h v' w' ys y1 y2 h2 h3 h4

theorem wpList_append_rds {ops : Array Oper} {rest : List Oper} {o : Oper} {a : Act} {Q : Exit → Act → World → Prop} (hgd : o.guard = none) (s x : Operand) (t : TypeId)
    (ho : o.op = .call { callee := .builtin .append, args := #[s, x], argTypes := #[t, t] })
    {α : Type} {S : Sh α} (hS : S.ones) (base : Nat) (e : TypeId) (i : TypeInfo) (z : Value) (bytes : Nat) (ht : P.underlying t = some (.slice e)) (hi : P.info? e = some i) (hz : i.zero = some z)
    (hsize : i.size = S.size) (hby : i.bytes = bytes) (hzs : z.cells.size = S.size) (hsz : 0 < S.size)
    (v : Value) (n : Nat) (cells : List Value) (hs : a.eval s = v) (hown : w.ownsRow base e S.size v n cells) {F : Nat → Prop} {xs : List α} {A : Option Addr} {m c : Nat} (hx : a.eval x = .slice A m c) (hr : Rds S w F xs A m c)
    (h63 : n + m ≤ maxLen) (hbytes : (n + m) * bytes ≤ 140737488355328) (hbase : base ≤ w.heap.size)
    (h : ∀ v' w' ys, ys.map (·.1) = xs → (∀ y ∈ ys, S.rep w F y.1 y.2) → w'.ownsRow base e S.size v' (n + m) (cells ++ flat ys) → w.grownBy w' v.ownBlock → (v'.ownBlock = v.ownBlock ∨ v'.ownBlock = some w.heap.size) → wpList P ops Q rest (a.put o.dst v') w') : wpList P ops Q (o :: rest) a w :=
  wpList_plain hgd fun _ hK => wp_append_rds w s x t ho hS base e i z bytes ht hi hz hsize hby hzs hsz v n cells hs hown hx hr h63 hbytes hbase fun v' w' ys h1 h2 h3 h4 h5 => hK _ _ (h v' w' ys h1 h2 h3 h4 h5)
end

/-- The operation 'append' by its run's equation. -/
theorem wpList_append_run {P : Program} {w w' : World} {v' : Value} {ops : Array Oper} {rest : List Oper} {o : Oper} {a : Act} {Q : Exit → Act → World → Prop} (hgd : o.guard = none) (s x : Operand) (t tn : TypeId)
    (ho : o.op = .call { callee := .builtin .append, args := #[s, x], argTypes := #[t, tn] }) (vs vx : Value) (hs : a.eval s = vs) (hx : a.eval x = vx)
    (hrun : (Builtin.append_ #[t, tn] o.type #[vs, vx]).run P w = .ok v' w') (h : wpList P ops Q rest (a.put o.dst v') w') : wpList P ops Q (o :: rest) a w :=
  wpList_plain hgd fun _ hK => by
    unfold Oper.wp execOp
    simp only [ho, resolve, invoke, builtin, Sem.run_bind, Sem.run_pure, Result.andThen_ok, List.map_toArray, List.map_cons, List.map_nil, hs, hx, hrun]
    exact hK _ _ h
theorem rds_at {α : Type} {S : Sh α} {w : World} {F : Nat → Prop} {xss : List (List α)} {A : Option Addr} {n c k : Nat} (h : Rds (shSlice S) w F xss A n c) (hk : k < n) :
    ∃ b off xs A' n' c', A = some ⟨b, off, none⟩ ∧ F b ∧ xss[k]? = some xs ∧ w.cell? ⟨b, off + k, none⟩ = some (.slice A' n' c') ∧ Rds S w F xs A' n' c' := by
  obtain ⟨b, off, xs, cs, e, hF, hx, ⟨A', n', c', rfl, hr⟩, hc⟩ := h.at_ hk
  exact ⟨b, off, xs, A', n', c', e, hF, hx, by simpa [shSlice] using hc 0 _ rfl, hr⟩
def total {α : Type} : List (List α) → Nat
  | [] => 0
  | xs :: l => xs.length + total l
theorem total_take {α : Type} {l : List (List α)} {k : Nat} {x : List α} (h : l[k]? = some x) : total (l.take (k + 1)) = total (l.take k) + x.length := by
  induction l generalizing k with
  | nil => simp at h
  | cons y l ih =>
    cases k with
    | zero => simp at h; subst h; simp [total]
    | succ k => simp at h; simp [total, ih h]; omega
theorem total_take_le {α : Type} (l : List (List α)) (k : Nat) : total (l.take k) ≤ total l := by
  induction l generalizing k with
  | nil => simp [total]
  | cons y l ih =>
    cases k with
    | zero => simp [total]
    | succ k => simp [total]; exact ih k
end Go.Proofs.Ytnnbnjanekibpaa
