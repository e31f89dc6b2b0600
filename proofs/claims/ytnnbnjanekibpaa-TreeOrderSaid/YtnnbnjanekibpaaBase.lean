/- How the program's data lie in memory: shapes, slices, and that they are kept behind later steps. Own text, of no program. -/
import Derived.WalkKit
import Derived.WalkLawsBesides
import Derived.BigQuiet
import Derived.Deep.QuietTactic
import Derived.Deep.DeepFit
import Derived.Deep.LoopGhost
import Derived.Lib.Hide
namespace Go.Proofs.Ytnnbnjanekibpaa
open Go.RowKit
set_option linter.unusedVariables false

theorem ret_int {k : IntKind} {a b : Int} (h : a = b) : Ending.returned (.int k a) = .returned (.int k b) := by rw [h]
theorem ret_bool {a b : Bool} (h : a = b) : Ending.returned (.bool a) = .returned (.bool b) := by rw [h]
theorem ret_int2 {k l : IntKind} {a b c d : Int} (h : a = b) (h' : c = d) : Ending.returned (.tuple #[.int k a, .int l c]) = .returned (.tuple #[.int k b, .int l d]) := by rw [h, h']
theorem val_int {k : IntKind} {a b : Int} (h : a = b) : Value.int k a = .int k b := by rw [h]

/-- Below a block number. -/
def Lt (B : Nat) : Nat → Prop := fun b => b < B

/-- Two worlds that agree on some blocks. -/
def Agree (F : Nat → Prop) (w w' : World) : Prop := ∀ b, F b → w'.heap[b]? = w.heap[b]?

theorem Agree.cell {F : Nat → Prop} {w w' : World} (h : Agree F w w') {p : Addr} (hp : F p.block) : w'.cell? p = w.cell? p := World.cell?_of_block (w := w) (h p.block hp)
theorem Agree.below {B : Nat} {w w' : World} (h : Below B w w') : Agree (Lt B) w w' := fun b hb => h.block b hb
theorem Agree.mono {F F' : Nat → Prop} {w w' : World} (h : Agree F w w') (hF : ∀ b, F' b → F b) : Agree F' w w' := fun b hb => h b (hF b hb)
theorem Agree.trans {F : Nat → Prop} {w w' w'' : World} (h : Agree F w w') (h' : Agree F w' w'') : Agree F w w'' := fun b hb => (h' b hb).trans (h b hb)

/-- A shape: how data of a kind lie in so many cells; what they lead to lies in the blocks of F. -/
structure Sh (α : Type) where
  size : Nat
  rep : World → (Nat → Prop) → α → List Value → Prop
  len : ∀ {w F x cs}, rep w F x cs → cs.length = size
  keep : ∀ {w w' : World} {F x cs}, Agree F w w' → rep w F x cs → rep w' F x cs
  more : ∀ {w F F' x cs}, (∀ b, F b → F' b) → rep w F x cs → rep w F' x cs

/-- A slice that reads as a list. -/
def Rds {α : Type} (S : Sh α) (w : World) (F : Nat → Prop) (xs : List α) (A : Option Addr) (n c : Nat) : Prop :=
  xs.length = n ∧ n ≤ c ∧ c ≤ 9223372036854775807 ∧ (0 < n → ∃ b off, A = some ⟨b, off, none⟩ ∧ F b ∧
    ∀ i (hi : i < xs.length), ∃ cs, S.rep w F xs[i] cs ∧ ∀ j v, cs[j]? = some v → w.cell? ⟨b, off + i * S.size + j, none⟩ = some v)

theorem Rds.keep {α : Type} {S : Sh α} {w w' : World} {F : Nat → Prop} {xs : List α} {A : Option Addr} {n c : Nat} (ha : Agree F w w') (h : Rds S w F xs A n c) : Rds S w' F xs A n c :=
  ⟨h.1, h.2.1, h.2.2.1, fun hn => by
    obtain ⟨b, off, e, hF, hc⟩ := h.2.2.2 hn
    refine ⟨b, off, e, hF, fun i hi => ?_⟩
    obtain ⟨cs, hr, hv⟩ := hc i hi
    exact ⟨cs, S.keep ha hr, fun j v hj => (ha.cell (p := ⟨b, _, none⟩) hF).trans (hv j v hj)⟩⟩
theorem Rds.more {α : Type} {S : Sh α} {w : World} {F F' : Nat → Prop} {xs : List α} {A : Option Addr} {n c : Nat} (hF' : ∀ b, F b → F' b) (h : Rds S w F xs A n c) : Rds S w F' xs A n c :=
  ⟨h.1, h.2.1, h.2.2.1, fun hn => by
    obtain ⟨b, off, e, hF, hc⟩ := h.2.2.2 hn
    refine ⟨b, off, e, hF' b hF, fun i hi => ?_⟩
    obtain ⟨cs, hr, hv⟩ := hc i hi
    exact ⟨cs, S.more hF' hr, hv⟩⟩
theorem Rds.take {α : Type} {S : Sh α} {w : World} {F : Nat → Prop} {xs : List α} {A : Option Addr} {n c k : Nat} (h : Rds S w F xs A n c) (hk : k ≤ n) : Rds S w F (xs.take k) A k c := by
  obtain ⟨h1, h2, h3, h4⟩ := h
  refine ⟨by rw [List.length_take, h1]; omega, by omega, h3, fun hn => ?_⟩
  obtain ⟨b, off, e, hF, hc⟩ := h4 (by omega)
  refine ⟨b, off, e, hF, fun i hi => ?_⟩
  rw [List.length_take] at hi
  obtain ⟨cs, hr, hv⟩ := hc i (by omega)
  exact ⟨cs, by rw [List.getElem_take]; exact hr, hv⟩
theorem Rds.nil {α : Type} (S : Sh α) (w : World) (F : Nat → Prop) : Rds S w F [] none 0 0 := ⟨rfl, by omega, by omega, fun h => by omega⟩
/-- Element k, with its cells. -/
theorem Rds.at_ {α : Type} {S : Sh α} {w : World} {F : Nat → Prop} {xs : List α} {A : Option Addr} {n c k : Nat} (h : Rds S w F xs A n c) (hk : k < n) :
    ∃ b off x cs, A = some ⟨b, off, none⟩ ∧ F b ∧ xs[k]? = some x ∧ S.rep w F x cs ∧ ∀ j v, cs[j]? = some v → w.cell? ⟨b, off + k * S.size + j, none⟩ = some v := by
  obtain ⟨b, off, e, hF, hc⟩ := h.2.2.2 (by omega)
  have hl : k < xs.length := by have := h.1; omega
  obtain ⟨cs, hr, hv⟩ := hc k hl
  exact ⟨b, off, xs[k], cs, e, hF, List.getElem?_eq_getElem hl, hr, hv⟩

/-- A slice as a shape of one cell. -/
def shSlice {α : Type} (S : Sh α) : Sh (List α) := {
  size := 1
  rep w F xs cs := ∃ A n c, cs = [.slice A n c] ∧ Rds S w F xs A n c
  len := by rintro w F x cs ⟨A, n, c, rfl, _⟩; rfl
  keep := by rintro w w' F x cs ha ⟨A, n, c, rfl, h⟩; exact ⟨A, n, c, rfl, h.keep ha⟩
  more := by rintro w F F' x cs hF ⟨A, n, c, rfl, h⟩; exact ⟨A, n, c, rfl, h.more hF⟩ }

def I64 (n : Int) : Prop := -9223372036854775808 ≤ n ∧ n ≤ 9223372036854775807

def shInt : Sh Int := {
  size := 1
  rep _ _ n cs := cs = [.int .i64 n] ∧ -9223372036854775808 ≤ n ∧ n ≤ 9223372036854775807
  len := by rintro w F x cs ⟨rfl, _⟩; rfl
  keep := fun _ h => h
  more := fun _ h => h }
def shBool : Sh Bool := {
  size := 1
  rep _ _ b cs := cs = [.bool b]
  len := by rintro w F x cs rfl; rfl
  keep := fun _ h => h
  more := fun _ h => h }
/-- A string as its bytes. -/
def shStr : Sh (List UInt8) := {
  size := 1
  rep _ _ s cs := cs = [.string ⟨s.toArray⟩] ∧ s.length ≤ 9223372036854775807
  len := by rintro w F x cs ⟨rfl, _⟩; rfl
  keep := fun _ h => h
  more := fun _ h => h }

/-- A number of a slice of numbers. -/
theorem Rds.int {w : World} {F : Nat → Prop} {xs : List Int} {A : Option Addr} {n c k : Nat} (h : Rds shInt w F xs A n c) (hk : k < n) :
    ∃ b off x, A = some ⟨b, off, none⟩ ∧ F b ∧ xs[k]? = some x ∧ w.cell? ⟨b, off + k, none⟩ = some (.int .i64 x) ∧ -9223372036854775808 ≤ x ∧ x ≤ 9223372036854775807 := by
  obtain ⟨b, off, x, cs, e, hF, hx, ⟨rfl, h1, h2⟩, hc⟩ := h.at_ hk
  exact ⟨b, off, x, e, hF, hx, by simpa [shInt] using hc 0 _ rfl, h1, h2⟩
theorem Rds.ints {w : World} {F : Nat → Prop} {xs : List Int} {A : Option Addr} {n c : Nat} (h : Rds shInt w F xs A n c) (hk : 0 < n) :
    ∃ b off, A = some ⟨b, off, none⟩ ∧ F b ∧ ∀ k x, xs[k]? = some x → w.cell? ⟨b, off + k, none⟩ = some (.int .i64 x) := by
  obtain ⟨b, off, e, hF, hc⟩ := h.2.2.2 hk
  refine ⟨b, off, e, hF, fun k x hx => ?_⟩
  obtain ⟨hi, rfl⟩ := List.getElem?_eq_some_iff.1 hx
  obtain ⟨cs, ⟨rfl, _⟩, hv⟩ := hc k hi
  simpa [shInt] using hv 0 _ rfl
theorem Rds.str {w : World} {F : Nat → Prop} {xs : List (List UInt8)} {A : Option Addr} {n c k : Nat} (h : Rds shStr w F xs A n c) (hk : k < n) :
    ∃ b off x, A = some ⟨b, off, none⟩ ∧ F b ∧ xs[k]? = some x ∧ w.cell? ⟨b, off + k, none⟩ = some (.string ⟨x.toArray⟩) ∧ x.length ≤ 9223372036854775807 := by
  obtain ⟨b, off, x, cs, e, hF, hx, ⟨rfl, h1⟩, hc⟩ := h.at_ hk
  exact ⟨b, off, x, e, hF, hx, by simpa [shStr] using hc 0 _ rfl, h1⟩

theorem madeCells_one (v : Value) (n : Nat) : (madeCells #[v] (n * 1)).toList = List.replicate n v := by
  apply List.ext_getElem?
  intro i
  by_cases h : i < n <;> simp [madeCells, h, Nat.mod_one]
/-- A row that is filled up from its head. -/
def filled {α : Type} (f : Nat → α) (z : α) (k q : Nat) : List α := (List.range q).map fun j => if j < k then f j else z
theorem filled_zero {α : Type} (f : Nat → α) (z : α) (q : Nat) : filled f z 0 q = List.replicate q z := by
  apply List.ext_getElem?
  intro i
  by_cases h : i < q <;> simp [filled, h]
theorem filled_all {α : Type} (f : Nat → α) (z : α) (q : Nat) : filled f z q q = (List.range q).map f := by
  apply List.map_congr_left
  intro i hi
  simp at hi
  simp [hi]
theorem filled_set {α : Type} (f : Nat → α) (z : α) (k q : Nat) : (filled f z k q).set k (f k) = filled f z (k + 1) q := by
  apply List.ext_getElem?
  intro i
  by_cases h : i < q
  · by_cases e : k = i
    · subst e; simp [filled, h]
    · simp only [filled, List.getElem?_set, if_neg e, List.getElem?_map, List.getElem?_range h, Option.map_some]
      have : (i < k) = (i < k + 1) := by apply propext; omega
      simp [this]
  · simp [filled, h]
theorem filled_at {α : Type} (f : Nat → α) (z : α) (k q : Nat) (h : k < q) : (filled f z k q)[k]? = some z := by simp [filled, h]
theorem filled_length {α : Type} (f : Nat → α) (z : α) (k q : Nat) : (filled f z k q).length = q := by simp [filled]

/-- An owned row of numbers reads as a list of numbers. -/
theorem Rds.of_own_int {w : World} {base e n : Nat} {v : Value} {xs : List Int} (h : w.ownsRow base e 1 v n (xs.map (Value.int .i64))) (hb : ∀ x ∈ xs, -9223372036854775808 ≤ x ∧ x ≤ 9223372036854775807) :
    ∃ A c, v = .slice A n c ∧ Rds shInt w (fun b => base ≤ b ∧ b < w.heap.size) xs A n c := by
  obtain ⟨hl, h2⟩ := h
  simp at hl
  rcases h2 with ⟨rfl, rfl⟩ | ⟨g, cap, cur, rfl, hg, hh, hnc, hcm, hcs, ht⟩
  · refine ⟨none, 0, rfl, ?_⟩
    obtain rfl : xs = [] := List.eq_nil_of_length_eq_zero hl
    exact Rds.nil _ _ _
  · refine ⟨_, cap, rfl, hl, hnc, by unfold maxLen at hcm; omega, fun hn => ⟨g, 0, rfl, ⟨hg, ?_⟩, fun i hi => ⟨_, ⟨rfl, hb _ (List.getElem_mem hi)⟩, ?_⟩⟩⟩
    · rcases Nat.lt_or_ge g w.heap.size with h | h
      · exact h
      · rw [Array.getElem?_eq_none h] at hh; cases hh
    · intro j v hj
      match j, hj with
      | 0, hj =>
        simp at hj
        subst hj
        have e1 : (cur.toList.take (n * 1))[i]? = some (.int .i64 xs[i]) := by rw [ht]; simp [hi]
        rw [List.getElem?_take] at e1
        split at e1
        · rw [cell_of_row w g _ cur _ (0, 0) hh]; simpa [shInt] using e1
        · cases e1

/-- A block of numbers reads as a list of them. -/
theorem Rds.of_block_int {w : World} {F : Nat → Prop} {g e cap : Nat} {cur : Array Value} {z : Nat × Nat} {xs : List Int} (hh : w.heap[g]? = some (.cells cur e z)) (hc : cur.toList = xs.map (Value.int .i64))
    (hF : F g) (hcap : xs.length ≤ cap) (hm : cap ≤ 9223372036854775807) (hb : ∀ x ∈ xs, -9223372036854775808 ≤ x ∧ x ≤ 9223372036854775807) : Rds shInt w F xs (some ⟨g, 0, none⟩) xs.length cap :=
  ⟨rfl, hcap, hm, fun hn => ⟨g, 0, rfl, hF, fun i hi => ⟨_, ⟨rfl, hb _ (List.getElem_mem hi)⟩, fun j v hj => by
    match j, hj with
    | 0, hj =>
      simp at hj
      subst hj
      rw [cell_of_row w g _ cur _ z hh]
      have e1 : cur.toList[i]? = some (.int .i64 xs[i]) := by rw [hc]; simp [hi]
      simpa [shInt] using e1⟩⟩⟩
theorem below_drewN {B : Nat} {a w : World} (h : Below B a w) (n : Nat) : Below B a (w.drewN n) := ⟨h.os, h.tape, h.output, h.size, h.block⟩

theorem map_range_at {α : Type} (f : Nat → α) {k q : Nat} (h : k < q) : ((List.range q).map f)[k]? = some (f k) := by simp [h]
theorem drop_cons {α : Type} {l : List α} {k : Nat} {x : α} (h : l[k]? = some x) : l.drop k = x :: l.drop (k + 1) := by
  obtain ⟨hk, e⟩ := List.getElem?_eq_some_iff.1 h
  rw [List.drop_eq_getElem_cons hk, e]
theorem take_snoc {α : Type} {l : List α} {k : Nat} {x : α} (h : l[k]? = some x) : l.take (k + 1) = l.take k ++ [x] := by
  rw [List.take_add_one, h]; rfl

end Go.Proofs.Ytnnbnjanekibpaa
