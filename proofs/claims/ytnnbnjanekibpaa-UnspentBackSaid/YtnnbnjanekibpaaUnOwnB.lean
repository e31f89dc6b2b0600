/- Own texts, put together by wip/bundle.py: Base, Data, Own, Clones, Mk, Sep, Slices, Slices2, Book, Book2, Lock, Coin, Tx, Block, Types, Opens. -/
import Derived.WalkKit
import Derived.WalkLawsBesides
import Derived.BigQuiet
import Derived.Deep.QuietTactic
import Derived.Deep.DeepFit
import Derived.Deep.LoopGhost
import Derived.Lib.Hide
import Derived.Test.YtnnbnjanekibpaaProg
import Derived.Maps.AppendAt
import Derived.Lib.SliceRun
import Derived.Deep.MidRow
import Derived.Great.BuildSlice
import Derived.OwnWalk
import Derived.BigFrame
import Derived.Maps.OwnOps
import Derived.Maps.Views
import Derived.ProofKit
import Derived.Deep.Slices
namespace Go.Proofs.Ytnnbnjanekibpaa
open Go.RowKit
set_option linter.unusedVariables false
theorem ret_int {k : IntKind} {a b : Int} (h : a = b) : Ending.returned (.int k a) = .returned (.int k b) := by rw [h]
theorem ret_bool {a b : Bool} (h : a = b) : Ending.returned (.bool a) = .returned (.bool b) := by rw [h]
theorem ret_int2 {k l : IntKind} {a b c d : Int} (h : a = b) (h' : c = d) : Ending.returned (.tuple #[.int k a, .int l c]) = .returned (.tuple #[.int k b, .int l d]) := by rw [h, h']
def Lt (B : Nat) : Nat → Prop := fun b => b < B
def Agree (F : Nat → Prop) (w w' : World) : Prop := ∀ b, F b → w'.heap[b]? = w.heap[b]?
theorem Agree.cell {F : Nat → Prop} {w w' : World} (h : Agree F w w') {p : Addr} (hp : F p.block) : w'.cell? p = w.cell? p := World.cell?_of_block (w := w) (h p.block hp)
theorem Agree.below {B : Nat} {w w' : World} (h : Below B w w') : Agree (Lt B) w w' := fun b hb => h.block b hb
theorem Agree.mono {F F' : Nat → Prop} {w w' : World} (h : Agree F w w') (hF : ∀ b, F' b → F b) : Agree F' w w' := fun b hb => h b (hF b hb)
theorem Agree.trans {F : Nat → Prop} {w w' w'' : World} (h : Agree F w w') (h' : Agree F w' w'') : Agree F w w'' := fun b hb => (h' b hb).trans (h b hb)
structure Sh (α : Type) where
  size : Nat
  rep : World → (Nat → Prop) → α → List Value → Prop
  len : ∀ {w F x cs}, rep w F x cs → cs.length = size
  keep : ∀ {w w' : World} {F x cs}, Agree F w w' → rep w F x cs → rep w' F x cs
  more : ∀ {w F F' x cs}, (∀ b, F b → F' b) → rep w F x cs → rep w F' x cs
def Rds {α : Type} (S : Sh α) (w : World) (F : Nat → Prop) (xs : List α) (A : Option Addr) (n c : Nat) : Prop :=
  xs.length = n ∧ n ≤ c ∧ c ≤ 9223372036854775807 ∧ (0 < n → ∃ b off, A = some ⟨b, off, none⟩ ∧ F b ∧
    ∀ i (hi : i < xs.length), ∃ cs, S.rep w F xs[i] cs ∧ ∀ j v, cs[j]? = some v → w.cell? ⟨b, off + i * S.size + j, none⟩ = some v)
theorem Rds.keep {α : Type} {S : Sh α} {w w' : World} {F : Nat → Prop} {xs : List α} {A : Option Addr} {n c : Nat} (ha : Agree F w w') (h : Rds S w F xs A n c) : Rds S w' F xs A n c :=
  ⟨h.1, h.2.1, h.2.2.1, fun hn => by
    obtain ⟨b, off, e, hF, hc⟩ := h.2.2.2 hn
    refine ⟨b, off, e, hF, fun i hi => ?_⟩
    obtain ⟨cs, hr, hv⟩ := hc i hi
    exact ⟨cs, S.keep ha hr, fun j v hj => (ha.cell (p := ⟨b, _, none⟩) hF).trans (hv j v hj)⟩⟩
theorem Rds.more {α : Type} {S : Sh α} {w : World} {F F' : Nat → Prop} {xs : List α} {A : Option Addr} {n c : Nat} (hF' : ∀ b, F b → F' b) (h : Rds S w F xs A n c) : Rds S w F' xs A n c :=
  ⟨h.1, h.2.1, h.2.2.1, fun hn => by
    obtain ⟨b, off, e, hF, hc⟩ := h.2.2.2 hn
    refine ⟨b, off, e, hF' b hF, fun i hi => ?_⟩
    obtain ⟨cs, hr, hv⟩ := hc i hi
    exact ⟨cs, S.more hF' hr, hv⟩⟩
theorem Rds.take {α : Type} {S : Sh α} {w : World} {F : Nat → Prop} {xs : List α} {A : Option Addr} {n c k : Nat} (h : Rds S w F xs A n c) (hk : k ≤ n) : Rds S w F (xs.take k) A k c := by
  obtain ⟨h1, h2, h3, h4⟩ := h
  refine ⟨by rw [List.length_take, h1]; omega, by omega, h3, fun hn => ?_⟩
  obtain ⟨b, off, e, hF, hc⟩ := h4 (by omega)
  refine ⟨b, off, e, hF, fun i hi => ?_⟩
  rw [List.length_take] at hi
  obtain ⟨cs, hr, hv⟩ := hc i (by omega)
  exact ⟨cs, by rw [List.getElem_take]; exact hr, hv⟩
theorem Rds.nil {α : Type} (S : Sh α) (w : World) (F : Nat → Prop) : Rds S w F [] none 0 0 := ⟨rfl, by omega, by omega, fun h => by omega⟩
theorem Rds.at_ {α : Type} {S : Sh α} {w : World} {F : Nat → Prop} {xs : List α} {A : Option Addr} {n c k : Nat} (h : Rds S w F xs A n c) (hk : k < n) :
    ∃ b off x cs, A = some ⟨b, off, none⟩ ∧ F b ∧ xs[k]? = some x ∧ S.rep w F x cs ∧ ∀ j v, cs[j]? = some v → w.cell? ⟨b, off + k * S.size + j, none⟩ = some v := by
  obtain ⟨b, off, e, hF, hc⟩ := h.2.2.2 (by omega)
  have hl : k < xs.length := by have := h.1; omega
  obtain ⟨cs, hr, hv⟩ := hc k hl
  exact ⟨b, off, xs[k], cs, e, hF, List.getElem?_eq_getElem hl, hr, hv⟩
def shSlice {α : Type} (S : Sh α) : Sh (List α) := {
  size := 1
  rep w F xs cs := ∃ A n c, cs = [.slice A n c] ∧ Rds S w F xs A n c
  len := by rintro w F x cs ⟨A, n, c, rfl, _⟩; rfl
  keep := by rintro w w' F x cs ha ⟨A, n, c, rfl, h⟩; exact ⟨A, n, c, rfl, h.keep ha⟩
  more := by rintro w F F' x cs hF ⟨A, n, c, rfl, h⟩; exact ⟨A, n, c, rfl, h.more hF⟩ }
def I64 (n : Int) : Prop := -9223372036854775808 ≤ n ∧ n ≤ 9223372036854775807
def shInt : Sh Int := {
  size := 1
  rep _ _ n cs := cs = [.int .i64 n] ∧ -9223372036854775808 ≤ n ∧ n ≤ 9223372036854775807
  len := by rintro w F x cs ⟨rfl, _⟩; rfl
  keep := fun _ h => h
  more := fun _ h => h }
def shBool : Sh Bool := {
  size := 1
  rep _ _ b cs := cs = [.bool b]
  len := by rintro w F x cs rfl; rfl
  keep := fun _ h => h
  more := fun _ h => h }
def shStr : Sh (List UInt8) := {
  size := 1
  rep _ _ s cs := cs = [.string ⟨s.toArray⟩] ∧ s.length ≤ 9223372036854775807
  len := by rintro w F x cs ⟨rfl, _⟩; rfl
  keep := fun _ h => h
  more := fun _ h => h }
theorem Rds.int {w : World} {F : Nat → Prop} {xs : List Int} {A : Option Addr} {n c k : Nat} (h : Rds shInt w F xs A n c) (hk : k < n) :
    ∃ b off x, A = some ⟨b, off, none⟩ ∧ F b ∧ xs[k]? = some x ∧ w.cell? ⟨b, off + k, none⟩ = some (.int .i64 x) ∧ -9223372036854775808 ≤ x ∧ x ≤ 9223372036854775807 := by
  obtain ⟨b, off, x, cs, e, hF, hx, ⟨rfl, h1, h2⟩, hc⟩ := h.at_ hk
  exact ⟨b, off, x, e, hF, hx, by simpa [shInt] using hc 0 _ rfl, h1, h2⟩
theorem Rds.str {w : World} {F : Nat → Prop} {xs : List (List UInt8)} {A : Option Addr} {n c k : Nat} (h : Rds shStr w F xs A n c) (hk : k < n) :
    ∃ b off x, A = some ⟨b, off, none⟩ ∧ F b ∧ xs[k]? = some x ∧ w.cell? ⟨b, off + k, none⟩ = some (.string ⟨x.toArray⟩) ∧ x.length ≤ 9223372036854775807 := by
  obtain ⟨b, off, x, cs, e, hF, hx, ⟨rfl, h1⟩, hc⟩ := h.at_ hk
  exact ⟨b, off, x, e, hF, hx, by simpa [shStr] using hc 0 _ rfl, h1⟩
theorem Rds.of_own_int {w : World} {base e n : Nat} {v : Value} {xs : List Int} (h : w.ownsRow base e 1 v n (xs.map (Value.int .i64))) (hb : ∀ x ∈ xs, -9223372036854775808 ≤ x ∧ x ≤ 9223372036854775807) :
    ∃ A c, v = .slice A n c ∧ Rds shInt w (fun b => base ≤ b ∧ b < w.heap.size) xs A n c := by
  obtain ⟨hl, h2⟩ := h
  simp at hl
  rcases h2 with ⟨rfl, rfl⟩ | ⟨g, cap, cur, rfl, hg, hh, hnc, hcm, hcs, ht⟩
  · refine ⟨none, 0, rfl, ?_⟩
    obtain rfl : xs = [] := List.eq_nil_of_length_eq_zero hl
    exact Rds.nil _ _ _
  · refine ⟨_, cap, rfl, hl, hnc, by unfold maxLen at hcm; omega, fun hn => ⟨g, 0, rfl, ⟨hg, ?_⟩, fun i hi => ⟨_, ⟨rfl, hb _ (List.getElem_mem hi)⟩, ?_⟩⟩⟩
    · rcases Nat.lt_or_ge g w.heap.size with h | h
      · exact h
      · rw [Array.getElem?_eq_none h] at hh; cases hh
    · intro j v hj
      match j, hj with
      | 0, hj =>
        simp at hj
        subst hj
        have e1 : (cur.toList.take (n * 1))[i]? = some (.int .i64 xs[i]) := by rw [ht]; simp [hi]
        rw [List.getElem?_take] at e1
        split at e1
        · rw [cell_of_row w g _ cur _ (0, 0) hh]; simpa [shInt] using e1
        · cases e1
theorem below_drewN {B : Nat} {a w : World} (h : Below B a w) (n : Nat) : Below B a (w.drewN n) := ⟨h.os, h.tape, h.output, h.size, h.block⟩
theorem drop_cons {α : Type} {l : List α} {k : Nat} {x : α} (h : l[k]? = some x) : l.drop k = x :: l.drop (k + 1) := by
  obtain ⟨hk, e⟩ := List.getElem?_eq_some_iff.1 h
  rw [List.drop_eq_getElem_cons hk, e]
theorem take_snoc {α : Type} {l : List α} {k : Nat} {x : α} (h : l[k]? = some x) : l.take (k + 1) = l.take k ++ [x] := by
  rw [List.take_add_one, h]; rfl
end Go.Proofs.Ytnnbnjanekibpaa
namespace Go.Proofs.Ytnnbnjanekibpaa
open Go.RowKit
set_option linter.unusedVariables false
def shS2 {α β τ : Type} (S0 : Sh α) (S1 : Sh β) (f : α → β → τ) : Sh τ := {
  size := S0.size + S1.size
  rep w F x cs := ∃ a b ca cb, x = f a b ∧ cs = ca ++ cb ∧ S0.rep w F a ca ∧ S1.rep w F b cb
  len := by rintro w F x cs ⟨a, b, ca, cb, rfl, rfl, ha, hb⟩; simp [S0.len ha, S1.len hb]
  keep := by rintro w w' F x cs hk ⟨a, b, ca, cb, e, e', ha, hb⟩; exact ⟨a, b, ca, cb, e, e', S0.keep hk ha, S1.keep hk hb⟩
  more := by rintro w F F' x cs hk ⟨a, b, ca, cb, e, e', ha, hb⟩; exact ⟨a, b, ca, cb, e, e', S0.more hk ha, S1.more hk hb⟩ }
def shS1 {α τ : Type} (S0 : Sh α) (f : α → τ) : Sh τ := {
  size := S0.size
  rep w F x cs := ∃ a, x = f a ∧ S0.rep w F a cs
  len := by rintro w F x cs ⟨a, rfl, ha⟩; exact S0.len ha
  keep := by rintro w w' F x cs hk ⟨a, e, ha⟩; exact ⟨a, e, S0.keep hk ha⟩
  more := by rintro w F F' x cs hk ⟨a, e, ha⟩; exact ⟨a, e, S0.more hk ha⟩ }
def shS3 {α β γ τ : Type} (S0 : Sh α) (S1 : Sh β) (S2 : Sh γ) (f : α → β → γ → τ) : Sh τ := shS2 S0 (shS2 S1 S2 Prod.mk) (fun a p => f a p.1 p.2)
def shS4 {α β γ δ τ : Type} (S0 : Sh α) (S1 : Sh β) (S2 : Sh γ) (S3 : Sh δ) (f : α → β → γ → δ → τ) : Sh τ := shS2 S0 (shS3 S1 S2 S3 fun a b c => (a, b, c)) (fun a p => f a p.1 p.2.1 p.2.2)
def shS5 {α β γ δ ε τ : Type} (S0 : Sh α) (S1 : Sh β) (S2 : Sh γ) (S3 : Sh δ) (S4 : Sh ε) (f : α → β → γ → δ → ε → τ) : Sh τ := shS2 S0 (shS4 S1 S2 S3 S4 fun a b c d => (a, b, c, d)) (fun a p => f a p.1 p.2.1 p.2.2.1 p.2.2.2)
structure Op where (kind n : Int) deriving DecidableEq, Repr
structure Point where (tx at_ : Int) deriving DecidableEq, Repr
structure In where (p : Point) (key : List Op) deriving DecidableEq, Repr
structure Out where (coin : Int) (lock : List Op) deriving DecidableEq, Repr
structure Tx where (height : Int) (ins : List In) (outs : List Out) deriving DecidableEq, Repr
structure Book where (texts : List (List UInt8)) deriving DecidableEq, Repr
structure Coin where (p : Point) (o : Out) (height : Int) (reward : Bool) deriving DecidableEq, Repr
structure Undo where (spent : List Coin) deriving DecidableEq, Repr
structure Block where (parent height work nonce : Int) (txs : List Tx) deriving DecidableEq, Repr
structure Tree where (names : List Int) (blocks : List Block) deriving DecidableEq, Repr
structure Message where (kind src to name : Int) (b : Block) (t : Tx) deriving DecidableEq, Repr
structure Node where (t : Tree) (pool : List Tx) (tip : Int) deriving DecidableEq, Repr
structure Wld where (book : Book) (nodes : List Node) (net : List Message) deriving DecidableEq, Repr
structure Happening where (kind node to k work n : Int) (t : Tx) deriving DecidableEq, Repr
def shOp : Sh Op := shS2 shInt shInt Op.mk
def shPoint : Sh Point := shS2 shInt shInt Point.mk
def shIn : Sh In := shS2 shPoint (shSlice shOp) In.mk
def shOut : Sh Out := shS2 shInt (shSlice shOp) Out.mk
def shTx : Sh Tx := shS3 shInt (shSlice shIn) (shSlice shOut) Tx.mk
def shBook : Sh Book := shS1 (shSlice shStr) Book.mk
def shCoin : Sh Coin := shS4 shPoint shOut shInt shBool Coin.mk
def shUndo : Sh Undo := shS1 (shSlice shCoin) Undo.mk
def shBlock : Sh Block := shS5 shInt shInt shInt shInt (shSlice shTx) Block.mk
def shTree : Sh Tree := shS2 (shSlice shInt) (shSlice shBlock) Tree.mk
theorem rep_op {w : World} {F : Nat → Prop} {x : Op} {cs : List Value} (h : shOp.rep w F x cs) :
    cs = [.int .i64 x.kind, .int .i64 x.n] ∧ I64 x.kind ∧ I64 x.n := by
  obtain ⟨a, b, ca, cb, rfl, rfl, ⟨rfl, h1⟩, rfl, h2⟩ := h
  exact ⟨rfl, h1, h2⟩
theorem rep_point {w : World} {F : Nat → Prop} {x : Point} {cs : List Value} (h : shPoint.rep w F x cs) :
    cs = [.int .i64 x.tx, .int .i64 x.at_] ∧ I64 x.tx ∧ I64 x.at_ := by
  obtain ⟨a, b, ca, cb, rfl, rfl, ⟨rfl, h1⟩, rfl, h2⟩ := h
  exact ⟨rfl, h1, h2⟩
theorem rep_in {w : World} {F : Nat → Prop} {x : In} {cs : List Value} (h : shIn.rep w F x cs) :
    ∃ A n c, cs = [.int .i64 x.p.tx, .int .i64 x.p.at_, .slice A n c] ∧ I64 x.p.tx ∧ I64 x.p.at_ ∧ Rds shOp w F x.key A n c := by
  obtain ⟨a, b, ca, cb, rfl, rfl, ha, A, n, c, rfl, hr⟩ := h
  obtain ⟨rfl, h1, h2⟩ := rep_point ha
  exact ⟨A, n, c, rfl, h1, h2, hr⟩
theorem rep_out {w : World} {F : Nat → Prop} {x : Out} {cs : List Value} (h : shOut.rep w F x cs) :
    ∃ A n c, cs = [.int .i64 x.coin, .slice A n c] ∧ I64 x.coin ∧ Rds shOp w F x.lock A n c := by
  obtain ⟨a, b, ca, cb, rfl, rfl, ⟨rfl, h1⟩, A, n, c, rfl, hr⟩ := h
  exact ⟨A, n, c, rfl, h1, hr⟩
theorem rep_tx {w : World} {F : Nat → Prop} {x : Tx} {cs : List Value} (h : shTx.rep w F x cs) :
    ∃ A n c A' n' c', cs = [.int .i64 x.height, .slice A n c, .slice A' n' c'] ∧ I64 x.height ∧ Rds shIn w F x.ins A n c ∧ Rds shOut w F x.outs A' n' c' := by
  obtain ⟨a, b, ca, cb, rfl, rfl, ⟨rfl, h1⟩, a1, b1, ca1, cb1, rfl, rfl, ⟨A, n, c, rfl, hr⟩, A', n', c', rfl, hr'⟩ := h
  exact ⟨A, n, c, A', n', c', rfl, h1, hr, hr'⟩
end Go.Proofs.Ytnnbnjanekibpaa
namespace Go.Proofs.Ytnnbnjanekibpaa
open Go.RowKit
set_option linter.unusedVariables false
def flat {α : Type} (zs : List (α × List Value)) : List Value := (zs.map (·.2)).flatten
theorem flat_cons {α : Type} (z : α × List Value) (zs : List (α × List Value)) : flat (z :: zs) = z.2 ++ flat zs := by simp [flat]
theorem flat_append {α : Type} (zs ys : List (α × List Value)) : flat (zs ++ ys) = flat zs ++ flat ys := by simp [flat]
theorem flat_length {α : Type} {s : Nat} {zs : List (α × List Value)} (h : ∀ z ∈ zs, z.2.length = s) : (flat zs).length = zs.length * s := by
  induction zs with
  | nil => simp [flat]
  | cons z zs ih =>
    rw [flat_cons, List.length_append, ih (fun y hy => h y (by simp [hy])), h z (by simp), List.length_cons, Nat.succ_mul]
    omega
theorem Rds.pairs {α : Type} {S : Sh α} {w : World} {F : Nat → Prop} {xs : List α} {A : Option Addr} {n c : Nat} (h : Rds S w F xs A n c) :
    ∃ zs : List (α × List Value), zs.map (·.1) = xs ∧ (∀ z ∈ zs, S.rep w F z.1 z.2) ∧ (0 < n → ∃ b off, A = some ⟨b, off, none⟩ ∧ F b ∧ ∀ j v, (flat zs)[j]? = some v → w.cell? ⟨b, off + j, none⟩ = some v) := by
  obtain ⟨h1, h2, h3, h4⟩ := h
  rcases Nat.eq_zero_or_pos n with h0 | h0
  · have : xs = [] := List.eq_nil_of_length_eq_zero (by omega)
    subst this
    exact ⟨[], rfl, by simp, fun h => by omega⟩
  · obtain ⟨b, off, e, hF, hc⟩ := h4 h0
    have key : ∀ m, m ≤ xs.length → ∃ zs : List (α × List Value), zs.map (·.1) = xs.take m ∧ (∀ z ∈ zs, S.rep w F z.1 z.2) ∧ ∀ j v, (flat zs)[j]? = some v → w.cell? ⟨b, off + j, none⟩ = some v := by
      intro m
      induction m with
      | zero => intro _; exact ⟨[], by simp, by simp, by simp [flat]⟩
      | succ m ih =>
        intro hm
        obtain ⟨zs, z1, z2, z3⟩ := ih (by omega)
        obtain ⟨cs, hr, hv⟩ := hc m (by omega)
        have hl : ∀ z ∈ zs, z.2.length = S.size := fun z hz => S.len (z2 z hz)
        have hzl : zs.length = m := by have := congrArg List.length z1; simp at this; omega
        refine ⟨zs ++ [(xs[m], cs)], ?_, ?_, ?_⟩
        · rw [take_snoc (List.getElem?_eq_getElem (by omega)), List.map_append, z1]; rfl
        · intro z hz
          rcases List.mem_append.1 hz with h | h
          · exact z2 z h
          · simp at h; subst h; exact hr
        · intro j v hj
          rw [flat_append] at hj
          by_cases hjl : j < (flat zs).length
          · rw [List.getElem?_append_left hjl] at hj; exact z3 j v hj
          · rw [List.getElem?_append_right (by omega)] at hj
            have e2 : flat [(xs[m], cs)] = cs := by simp [flat]
            rw [e2] at hj
            have := hv _ v hj
            rw [flat_length hl, hzl] at hjl this
            rw [show off + m * S.size + (j - m * S.size) = off + j by omega] at this
            exact this
    obtain ⟨zs, z1, z2, z3⟩ := key xs.length (Nat.le_refl _)
    exact ⟨zs, by rw [z1, List.take_length], z2, fun _ => ⟨b, off, e, hF, z3⟩⟩
theorem own_ge {w : World} {base e size n k : Nat} {v : Value} {xs : List Value} (h : w.ownsRow base e size v n xs) (hk : v.ownBlock = some k) : base ≤ k := by
  rcases h.2 with ⟨rfl, _⟩ | ⟨g, cap, cur, rfl, hg, _⟩
  · cases hk
  · have : g = k := by simpa [Value.ownBlock] using hk
    omega
theorem blk_lt {w : World} {g : Nat} {x : Obj} (h : w.heap[g]? = some x) : g < w.heap.size := by
  rcases Nat.lt_or_ge g w.heap.size with h' | h'
  · exact h'
  · rw [Array.getElem?_eq_none h'] at h; cases h
theorem blk_below {w w' : World} {B g : Nat} {x : Obj} (h : w.heap[g]? = some x) (hb : Below B w w') (hg : g < B) : w'.heap[g]? = some x := (hb.block g hg).trans h
theorem blk_cell {w : World} {g i t : Nat} {cs : Array Value} (h : w.heap[g]? = some (.cells cs t (0, 0))) : w.cell? ⟨g, i, none⟩ = cs[i]? := cell_of_row w g i cs t (0, 0) h
theorem blk_set {w : World} {g i t : Nat} {cs : Array Value} {u : Value} (h : w.heap[g]? = some (.cells cs t (0, 0))) : (w.setCell ⟨g, i, none⟩ u).heap[g]? = some (.cells (cs.setIfInBounds i u) t (0, 0)) := by simp [World.setCell, Array.getElem?_modify, h]
def Ones (cs : List Value) : Prop := ∀ u ∈ cs, u.oneCell' = true
def Sh.ones {α : Type} (S : Sh α) : Prop := ∀ {w F x cs}, S.rep w F x cs → Ones cs
theorem ones_flat {α : Type} {S : Sh α} (hS : S.ones) {w : World} {F : Nat → Prop} {zs : List (α × List Value)} (hz : ∀ z ∈ zs, S.rep w F z.1 z.2) : Ones (flat zs) := by
  intro u hu
  simp only [flat, List.mem_flatten, List.mem_map] at hu
  obtain ⟨l, ⟨z, hz', rfl⟩, hu⟩ := hu
  exact hS (hz z hz') u hu
theorem ones_int : shInt.ones := by rintro w F x cs ⟨rfl, _⟩ u hu; simp at hu; subst hu; rfl
theorem ones_bool : shBool.ones := by rintro w F x cs rfl u hu; simp at hu; subst hu; rfl
theorem ones_slice {α : Type} (S : Sh α) : (shSlice S).ones := by rintro w F x cs ⟨A, n, c, rfl, _⟩ u hu; simp at hu; subst hu; rfl
theorem ones_S2 {α β τ : Type} {S0 : Sh α} {S1 : Sh β} {f : α → β → τ} (h0 : S0.ones) (h1 : S1.ones) : (shS2 S0 S1 f).ones := by
  rintro w F x cs ⟨a, b, ca, cb, rfl, rfl, ha, hb⟩ u hu
  rcases List.mem_append.1 hu with h | h
  · exact h0 ha u h
  · exact h1 hb u h
theorem ones_op : shOp.ones := ones_S2 ones_int ones_int
theorem ones_point : shPoint.ones := ones_S2 ones_int ones_int
theorem ones_out : shOut.ones := ones_S2 ones_int (ones_slice _)
theorem ones_coin : shCoin.ones := ones_S2 ones_point (ones_S2 ones_out (ones_S2 ones_int ones_bool))
end Go.Proofs.Ytnnbnjanekibpaa
namespace Go.Proofs.Ytnnbnjanekibpaa
open Go.RowKit
set_option linter.unusedVariables false
set_option maxRecDepth 100000
theorem add_mk (b off k : Nat) : (Addr.mk b off none).add k = ⟨b, off + k, none⟩ := by unfold Addr.add; split <;> simp_all
theorem ownsRow_empty (w : World) (e s : Nat) : (w.alloc (.cells #[] e)).ownsRow w.heap.size e s (.slice (some ⟨w.heap.size, 0, none⟩) 0 0) 0 [] :=
  ⟨by simp, .inr ⟨w.heap.size, 0, #[], rfl, Nat.le_refl _, heap_alloc_new w _, Nat.le_refl _, by unfold maxLen; omega, by simp, by simp⟩⟩
def Cloned {α : Type} (S : Sh α) (e : Nat) (w : World) (F : Nat → Prop) (xs : List α) (n : Nat) (r : Ending) (w' : World) : Prop :=
  ∃ (v : Value) (zs : List (α × List Value)), r = .returned v ∧ zs.map (·.1) = xs ∧ (∀ z ∈ zs, S.rep w F z.1 z.2) ∧ w'.ownsRow w.heap.size e S.size v n (flat zs) ∧ Below w.heap.size w w'
theorem clone_op (xs : List (Op)) (A : Option Addr) (n c : Nat) (w : World) (F : Nat → Prop) (h : Rds shOp w F xs A n c) (hF : ∀ b, F b → b < w.heap.size) (hn : n * 16 ≤ 140737488355328) :
    Calls Try.prog 95 #[.slice A n c] w (Cloned shOp 108 w F xs n) := by
  have hq := fun (W : World) => Lib.run_eql_slice_nil (P := Try.prog) W 89 108 A n c 0 0 Try.underlying89
  cases A with
  | none =>
    have h0 : n = 0 := by
      rcases Nat.eq_zero_or_pos n with h0 | h0
      · exact h0
      · obtain ⟨b, off, e, _⟩ := h.2.2.2 h0; cases e
    subst h0
    have hx : xs = [] := List.eq_nil_of_length_eq_zero h.1
    subst hx
    go_enter Try.func95, Try.ntmps95
    go_wp2
    go_ret
    exact ⟨_, [], rfl, rfl, by simp, World.ownsRow_nil _ _ _ _, Below.refl _ _⟩
  | some ad =>
    obtain ⟨zs, z1, z2, z3⟩ := h.pairs
    have hl : zs.length = n := by have := congrArg List.length z1; simp at this; have := h.1; omega
    have hfl : (flat zs).length = n * 2 := by rw [flat_length (fun z hz => shOp.len (z2 z hz)), hl]; rfl
    have hnews : ∀ j u, (flat zs)[j]? = some u → (w.alloc (.cells #[] 108)).cell? (ad.add j) = some u := by
      intro j u hj
      have hj' := (List.getElem?_eq_some_iff.1 hj).1
      obtain ⟨b, off, e, hFb, hc⟩ := z3 (by omega)
      injection e with e
      subst e
      rw [add_mk, World.cell?_alloc_lt w _ _ (hF b hFb)]
      exact hc j u hj
    have H1 := Lib.hid (ones_flat ones_op z2)
    have HN := Lib.hid hnews
    have HL := Lib.hid hfl
    have Z1 := Lib.hid z1
    have HZ := Lib.hid hl
    obtain ⟨i0, zv, hi, hz0, hz1, hz2, hz3⟩ : ∃ i z, Try.prog.info? 108 = some i ∧ i.zero = some z ∧ i.size = 2 ∧ i.bytes = 16 ∧ z.cells.size = 2 := by
      have h1 : (Try.prog.info? 108).map (fun i => (i.zero.map (·.cells.size), i.size, i.bytes)) = some (some 2, 2, 16) := by kernel_rfl
      match hh : Try.prog.info? 108, h1 with
      | some i, h1 =>
        simp only [Option.map_some, Option.some.injEq, Prod.mk.injEq] at h1
        match hz : i.zero, h1 with
        | some z, h1 => exact ⟨i, z, rfl, hz, h1.2.1, h1.2.2, by simpa using h1.1⟩
    clear hnews hfl h z1 hl z3
    go_enter Try.func95, Try.ntmps95
    go_wp2_with (at_builtin; refine wpList_append_own_at _ rfl _ _ 89 rfl w.heap.size 108 i0 zv 2 16 Try.underlying89 hi hz0 hz1 hz2 hz3 (by omega) _ 0 [] rfl (ownsRow_empty w _ _) ad n c (flat zs) rfl HL.out HN.out H1.out (by unfold maxLen; omega) (by rw [Nat.zero_add]; exact hn) (by simp) ?_; intro v' w1 hown hgr _ _)
    go_ret
    rw [Nat.zero_add, List.nil_append] at hown
    refine ⟨v', zs, rfl, Z1.out, z2, hown, ?_⟩
    exact ((Below.refl _ _).alloc (Nat.le_refl _) _).grown hgr (by simp) (fun k hk => by injection hk with hk; exact Nat.le_of_eq hk)
theorem clone_coin (xs : List (Coin)) (A : Option Addr) (n c : Nat) (w : World) (F : Nat → Prop) (h : Rds shCoin w F xs A n c) (hF : ∀ b, F b → b < w.heap.size) (hn : n * 64 ≤ 140737488355328) :
    Calls Try.prog 117 #[.slice A n c] w (Cloned shCoin 100 w F xs n) := by
  have hq := fun (W : World) => Lib.run_eql_slice_nil (P := Try.prog) W 77 100 A n c 0 0 Try.underlying77
  cases A with
  | none =>
    have h0 : n = 0 := by
      rcases Nat.eq_zero_or_pos n with h0 | h0
      · exact h0
      · obtain ⟨b, off, e, _⟩ := h.2.2.2 h0; cases e
    subst h0
    have hx : xs = [] := List.eq_nil_of_length_eq_zero h.1
    subst hx
    go_enter Try.func117, Try.ntmps117
    go_wp2
    go_ret
    exact ⟨_, [], rfl, rfl, by simp, World.ownsRow_nil _ _ _ _, Below.refl _ _⟩
  | some ad =>
    obtain ⟨zs, z1, z2, z3⟩ := h.pairs
    have hl : zs.length = n := by have := congrArg List.length z1; simp at this; have := h.1; omega
    have hfl : (flat zs).length = n * 6 := by rw [flat_length (fun z hz => shCoin.len (z2 z hz)), hl]; rfl
    have hnews : ∀ j u, (flat zs)[j]? = some u → (w.alloc (.cells #[] 100)).cell? (ad.add j) = some u := by
      intro j u hj
      have hj' := (List.getElem?_eq_some_iff.1 hj).1
      obtain ⟨b, off, e, hFb, hc⟩ := z3 (by omega)
      injection e with e
      subst e
      rw [add_mk, World.cell?_alloc_lt w _ _ (hF b hFb)]
      exact hc j u hj
    have H1 := Lib.hid (ones_flat ones_coin z2)
    have HN := Lib.hid hnews
    have HL := Lib.hid hfl
    have Z1 := Lib.hid z1
    have HZ := Lib.hid hl
    obtain ⟨i0, zv, hi, hz0, hz1, hz2, hz3⟩ : ∃ i z, Try.prog.info? 100 = some i ∧ i.zero = some z ∧ i.size = 6 ∧ i.bytes = 64 ∧ z.cells.size = 6 := by
      have h1 : (Try.prog.info? 100).map (fun i => (i.zero.map (·.cells.size), i.size, i.bytes)) = some (some 6, 6, 64) := by kernel_rfl
      match hh : Try.prog.info? 100, h1 with
      | some i, h1 =>
        simp only [Option.map_some, Option.some.injEq, Prod.mk.injEq] at h1
        match hz : i.zero, h1 with
        | some z, h1 => exact ⟨i, z, rfl, hz, h1.2.1, h1.2.2, by simpa using h1.1⟩
    clear hnews hfl h z1 hl z3
    go_enter Try.func117, Try.ntmps117
    go_wp2_with (at_builtin; refine wpList_append_own_at _ rfl _ _ 77 rfl w.heap.size 100 i0 zv 6 64 Try.underlying77 hi hz0 hz1 hz2 hz3 (by omega) _ 0 [] rfl (ownsRow_empty w _ _) ad n c (flat zs) rfl HL.out HN.out H1.out (by unfold maxLen; omega) (by rw [Nat.zero_add]; exact hn) (by simp) ?_; intro v' w1 hown hgr _ _)
    go_ret
    rw [Nat.zero_add, List.nil_append] at hown
    refine ⟨v', zs, rfl, Z1.out, z2, hown, ?_⟩
    exact ((Below.refl _ _).alloc (Nat.le_refl _) _).grown hgr (by simp) (fun k hk => by injection hk with hk; exact Nat.le_of_eq hk)
end Go.Proofs.Ytnnbnjanekibpaa
namespace Go.Proofs.Ytnnbnjanekibpaa
open Go.RowKit
set_option linter.unusedVariables false
end Go.Proofs.Ytnnbnjanekibpaa
namespace Go.Proofs.Ytnnbnjanekibpaa
open Go.RowKit
set_option linter.unusedVariables false
structure Stop (p : Prop) : Prop where
  go : p
structure Res where
  block : Option Nat
  holds : Nat → (Nat → Prop) → World → Prop
  keep : ∀ {h0 : Nat} {F F' : Nat → Prop} {W W' : World}, Agree F W W' → (∀ b, F b → F' b) → (∀ g, block = some g → W'.heap[g]? = W.heap[g]?) → holds h0 F W → holds h0 F' W'
  lt : ∀ {h0 : Nat} {F : Nat → Prop} {W : World} {g : Nat}, holds h0 F W → block = some g → h0 ≤ g ∧ g < W.heap.size
def fact (p : World → (Nat → Prop) → Prop) (k : ∀ {W W' : World} {F F' : Nat → Prop}, Agree F W W' → (∀ b, F b → F' b) → p W F → p W' F') : Res := {
  block := none
  holds _ F W := p W F
  keep := fun ha hF _ h => k ha hF h
  lt := fun _ h => by cases h }
def rds {α : Type} (xs : List α) (A : Option Addr) (n c : Nat) (S : Sh α) : Res := fact (fun W F => Rds S W F xs A n c) fun ha hF h => (h.keep ha).more hF
def rep {α : Type} (x : α) (cs : List Value) (S : Sh α) : Res := fact (fun W F => S.rep W F x cs) fun ha hF h => S.more hF (S.keep ha h)
def cells (b o : Nat) (cs : List Value) : Res := fact (fun W F => F b ∧ W.rangeAt b o cs) fun ha hF h => ⟨hF _ h.1, fun j v hj => (ha.cell (p := ⟨b, o + j, none⟩) h.1).trans (h.2 j v hj)⟩
def box (g : Nat) (cs : List Value) (t : Nat) : Res := {
  block := some g
  holds h0 _ W := h0 ≤ g ∧ W.heap[g]? = some (.cells cs.toArray t (0, 0))
  keep := fun _ _ hb h => ⟨h.1, (hb g rfl).trans h.2⟩
  lt := fun h e => by injection e with e; subst e; exact ⟨h.1, blk_lt h.2⟩ }
theorem ownsRow_same {w w' : World} {base e size n : Nat} {v : Value} {xs : List Value} (h : w.ownsRow base e size v n xs) (hb : ∀ g, v.ownBlock = some g → w'.heap[g]? = w.heap[g]?) : w'.ownsRow base e size v n xs := by
  refine ⟨h.1, ?_⟩
  rcases h.2 with h0 | ⟨g, cap, cur, hv, hg, hh, r⟩
  · exact .inl h0
  · exact .inr ⟨g, cap, cur, hv, hg, by rw [hb g (by rw [hv]; rfl)]; exact hh, r⟩
def row {α : Type} (e : Nat) (v : Value) (xs : List α) (S : Sh α) : Res := {
  block := v.ownBlock
  holds h0 F W := ∃ zs : List (α × List Value), zs.map (·.1) = xs ∧ W.ownsRow h0 e S.size v xs.length (flat zs) ∧ ∀ z ∈ zs, S.rep W F z.1 z.2
  keep := fun ha hF hb ⟨zs, h1, h2, h3⟩ => ⟨zs, h1, ownsRow_same h2 hb, fun z hz => S.more hF (S.keep ha (h3 z hz))⟩
  lt := fun ⟨_, _, h2, _⟩ e => h2.lt _ e }
def Free (h0 : Nat) (F0 : Nat → Prop) (Γ : List Res) (W : World) (b : Nat) : Prop := (F0 b ∨ (h0 ≤ b ∧ b < W.heap.size)) ∧ ∀ r ∈ Γ, r.block ≠ some b
def All (h0 : Nat) (F0 : Nat → Prop) (W : World) (b : Nat) : Prop := F0 b ∨ (h0 ≤ b ∧ b < W.heap.size)
structure Sep (w0 : World) (F0 : Nat → Prop) (Γ : List Res) (W : World) : Prop where
  below : Below w0.heap.size w0 W
  low : ∀ b, F0 b → b < w0.heap.size
  all : ∀ r ∈ Γ, r.holds w0.heap.size (Free w0.heap.size F0 Γ W) W
  dj : Γ.Pairwise fun r r' => ∀ g, r.block = some g → r'.block ≠ some g
def At (Γ : List Res) (r : Res) : Prop := r ∈ Γ
theorem At.z {Γ : List Res} {r : Res} : At (r :: Γ) r := List.mem_cons_self ..
theorem At.s {Γ : List Res} {r q : Res} (h : At Γ r) : At (q :: Γ) r := List.mem_cons_of_mem _ h
def Put (Γ : List Res) (r r' : Res) (Γ' : List Res) : Prop := ∃ l1 l2, Γ = l1 ++ r :: l2 ∧ Γ' = l1 ++ r' :: l2
theorem Put.z {Γ : List Res} {r r' : Res} : Put (r :: Γ) r r' (r' :: Γ) := ⟨[], Γ, rfl, rfl⟩
theorem Put.s {Γ Γ' : List Res} {r r' q : Res} (h : Put Γ r r' Γ') : Put (q :: Γ) r r' (q :: Γ') := by
  obtain ⟨l1, l2, rfl, rfl⟩ := h
  exact ⟨q :: l1, l2, rfl, rfl⟩
def Del (Γ : List Res) (r : Res) (Γ' : List Res) : Prop := ∃ l1 l2, Γ = l1 ++ r :: l2 ∧ Γ' = l1 ++ l2
theorem Del.z {Γ : List Res} {r : Res} : Del (r :: Γ) r Γ := ⟨[], Γ, rfl, rfl⟩
theorem Del.s {Γ Γ' : List Res} {r q : Res} (h : Del Γ r Γ') : Del (q :: Γ) r (q :: Γ') := by
  obtain ⟨l1, l2, rfl, rfl⟩ := h
  exact ⟨q :: l1, l2, rfl, rfl⟩
theorem Put.at_ {Γ Γ' : List Res} {r r' : Res} (h : Put Γ r r' Γ') : At Γ r := by
  obtain ⟨l1, l2, rfl, rfl⟩ := h
  simp [At]
def Sub (Γ' Γ : List Res) : Prop := ∃ l, Γ.Perm (Γ' ++ l)
theorem Sub.nil {Γ : List Res} : Sub [] Γ := ⟨Γ, by simp⟩
theorem Sub.refl {Γ : List Res} : Sub Γ Γ := ⟨[], by simp⟩
theorem Sub.skip {Γ Γ' : List Res} {r : Res} (h : Sub Γ' Γ) : Sub Γ' (r :: Γ) := by
  obtain ⟨l, hl⟩ := h
  exact ⟨r :: l, (hl.cons r).trans List.perm_middle.symm⟩
theorem Sub.take {Γ Γ1 Γ' : List Res} {r : Res} (hd : Del Γ r Γ1) (h : Sub Γ' Γ1) : Sub (r :: Γ') Γ := by
  obtain ⟨l1, l2, rfl, rfl⟩ := hd
  obtain ⟨l, hl⟩ := h
  exact ⟨l, List.perm_middle.trans (hl.cons r)⟩
section
variable {w0 W W' : World} {F0 : Nat → Prop} {Γ Γ' : List Res}
theorem Sep.size (h : Sep w0 F0 Γ W) : w0.heap.size ≤ W.heap.size := h.below.size
theorem Free.lt (h : Sep w0 F0 Γ W) {b : Nat} (hb : Free w0.heap.size F0 Γ W b) : b < W.heap.size := by
  rcases hb.1 with h1 | h1
  · exact Nat.lt_of_lt_of_le (h.low b h1) h.size
  · exact h1.2
theorem Free.all {h0 : Nat} {b : Nat} (hb : Free h0 F0 Γ W b) : All h0 F0 W b := hb.1
theorem All.lt (h : Sep w0 F0 Γ W) {b : Nat} (hb : All w0.heap.size F0 W b) : b < W.heap.size := by
  rcases hb with h1 | h1
  · exact Nat.lt_of_lt_of_le (h.low b h1) h.size
  · exact h1.2
theorem Sep.get (h : Sep w0 F0 Γ W) {r : Res} (hr : At Γ r) : r.holds w0.heap.size (Free w0.heap.size F0 Γ W) W := h.all r hr
theorem Sep.out (h : Sep w0 F0 Γ W) {r : Res} (hr : At Γ r) : r.holds w0.heap.size (All w0.heap.size F0 W) W := r.keep (fun _ _ => rfl) (fun b hb => hb.1) (fun _ _ => rfl) (h.all r hr)
theorem Sep.sub (h : Sep w0 F0 Γ W) (hs : Sub Γ' Γ) : Sep w0 F0 Γ' W := by
  obtain ⟨l, hl⟩ := hs
  have hm : ∀ r ∈ Γ', r ∈ Γ := fun r hr => hl.mem_iff.2 (List.mem_append_left _ hr)
  refine ⟨h.below, h.low, fun r hr => r.keep (fun _ _ => rfl) (fun b hb => ⟨hb.1, fun q hq => hb.2 q (hm q hq)⟩) (fun _ _ => rfl) (h.all r (hm r hr)), ?_⟩
  have hp := (hl.pairwise_iff (R := fun r r' : Res => ∀ g, r.block = some g → r'.block ≠ some g) (fun hab g hb ha => hab g ha hb)).1 h.dj
  exact (List.pairwise_append.1 hp).1
theorem Sep.grow (h : Sep w0 F0 Γ W) (hg : W.grownBy W' none) {r : Res} (hr : r.holds w0.heap.size (Free w0.heap.size F0 (r :: Γ) W') W') (hb : ∀ g, r.block = some g → W.heap.size ≤ g) : Sep w0 F0 (r :: Γ) W' := by
  have hsz := h.size
  have hfree : ∀ b, Free w0.heap.size F0 Γ W b → Free w0.heap.size F0 (r :: Γ) W' b := by
    intro b hb'
    have hlt := Free.lt h hb'
    refine ⟨hb'.1.imp (fun x => x) (fun x => ⟨x.1, Nat.lt_of_lt_of_le x.2 hg.size⟩), fun q hq => ?_⟩
    rcases List.mem_cons.1 hq with rfl | hq
    · intro e
      have := hb b e
      omega
    · exact hb'.2 q hq
  refine ⟨h.below.grown hg hsz (fun k hk => by cases hk), h.low, ?_, ?_⟩
  · intro q hq
    rcases List.mem_cons.1 hq with rfl | hq
    · exact hr
    · exact q.keep (fun b hb' => hg.block b (Free.lt h hb') (by simp)) hfree (fun g hg' => hg.block g (q.lt (h.all q hq) hg').2 (by simp)) (h.all q hq)
  · refine List.pairwise_cons.2 ⟨fun q hq g h1 h2 => ?_, h.dj⟩
    have h3 := hb g h1
    have h4 := (q.lt (h.all q hq) h2).2
    omega
theorem Sep.more (h : Sep w0 F0 Γ W) (hg : W.grownBy W' none) : Sep w0 F0 Γ W' := by
  have hfree : ∀ b, Free w0.heap.size F0 Γ W b → Free w0.heap.size F0 Γ W' b := fun b hb' =>
    ⟨hb'.1.imp (fun x => x) (fun x => ⟨x.1, Nat.lt_of_lt_of_le x.2 hg.size⟩), hb'.2⟩
  exact ⟨h.below.grown hg h.size (fun k hk => by cases hk), h.low, fun q hq => q.keep (fun b hb' => hg.block b (Free.lt h hb') (by simp)) hfree (fun g hg' => hg.block g (q.lt (h.all q hq) hg').2 (by simp)) (h.all q hq), h.dj⟩
theorem grown_of_below {W W' : World} {row : Option Nat} (h : Below W.heap.size W W') : W.grownBy W' row := ⟨h.os, h.tape, h.output, h.size, fun k hk _ => h.block k hk⟩
theorem Sep.belows (h : Sep w0 F0 Γ W) (hb : Below W.heap.size W W') : Sep w0 F0 Γ W' := h.more (grown_of_below hb)
theorem Sep.drew (h : Sep w0 F0 Γ W) : Sep w0 F0 Γ W.drew := h.belows (Below.refl _ _).drew
theorem Sep.drewN (h : Sep w0 F0 Γ W) (n : Nat) : Sep w0 F0 Γ (W.drewN n) := h.belows (below_drewN (Below.refl _ _) n)
theorem Sep.add (h : Sep w0 F0 Γ W) {r : Res} (hn : r.block = none) (hr : r.holds w0.heap.size (Free w0.heap.size F0 Γ W) W) : Sep w0 F0 (r :: Γ) W := by
  refine h.grow ⟨rfl, rfl, rfl, Nat.le_refl _, fun _ _ _ => rfl⟩ (r.keep (fun _ _ => rfl) (fun b hb => ⟨hb.1, fun q hq => ?_⟩) (fun _ _ => rfl) hr) (fun g hg => by rw [hn] at hg; cases hg)
  rcases List.mem_cons.1 hq with rfl | hq
  · rw [hn]; simp
  · exact hb.2 q hq
theorem Sep.put (h : Sep w0 F0 Γ W) {r r' : Res} (hp : Put Γ r r' Γ') (hg : W.grownBy W' r.block) (hb : ∀ g, r'.block = some g → r.block = some g ∨ W.heap.size ≤ g)
    (hr : (∀ b, Free w0.heap.size F0 Γ W b → Free w0.heap.size F0 Γ' W' b) → Agree (Free w0.heap.size F0 Γ W) W W' → r.holds w0.heap.size (Free w0.heap.size F0 Γ W) W → r'.holds w0.heap.size (Free w0.heap.size F0 Γ' W') W') : Sep w0 F0 Γ' W' := by
  obtain ⟨l1, l2, rfl, rfl⟩ := hp
  have hmr : r ∈ l1 ++ r :: l2 := by simp
  have hother : ∀ q, q ∈ l1 ∨ q ∈ l2 → q ∈ l1 ++ r :: l2 := fun q hq => by rcases hq with hq | hq <;> simp [hq]
  have hp := List.pairwise_append.1 h.dj
  have hp2 := List.pairwise_cons.1 hp.2.1
  have hdj : ∀ q, q ∈ l1 ∨ q ∈ l2 → ∀ g, q.block = some g → r.block ≠ some g := by
    intro q hq g h1 h2
    rcases hq with hq | hq
    · exact hp.2.2 q hq r (by simp) g h1 h2
    · exact hp2.1 q hq g h2 h1
  have hfree : ∀ b, Free w0.heap.size F0 (l1 ++ r :: l2) W b → Free w0.heap.size F0 (l1 ++ r' :: l2) W' b := by
    intro b hb'
    have hlt := Free.lt h hb'
    refine ⟨hb'.1.imp (fun x => x) (fun x => ⟨x.1, Nat.lt_of_lt_of_le x.2 hg.size⟩), fun q hq => ?_⟩
    simp only [List.mem_append, List.mem_cons] at hq
    rcases hq with hq | rfl | hq
    · exact hb'.2 q (hother q (.inl hq))
    · intro e
      rcases hb b e with h1 | h1
      · exact hb'.2 r hmr h1
      · omega
    · exact hb'.2 q (hother q (.inr hq))
  have hag : Agree (Free w0.heap.size F0 (l1 ++ r :: l2) W) W W' := fun b hb' => hg.block b (Free.lt h hb') (fun e => hb'.2 r hmr e.symm)
  have hkeep : ∀ q, q ∈ l1 ∨ q ∈ l2 → q.holds w0.heap.size (Free w0.heap.size F0 (l1 ++ r' :: l2) W') W' := fun q hq =>
    q.keep hag hfree (fun g hg' => hg.block g (q.lt (h.all q (hother q hq)) hg').2 (fun e => hdj q hq g hg' e.symm)) (h.all q (hother q hq))
  refine ⟨h.below.grown hg h.size (fun k hk => (r.lt (h.all r hmr) hk).1), h.low, ?_, ?_⟩
  · intro q hq
    simp only [List.mem_append, List.mem_cons] at hq
    rcases hq with hq | rfl | hq
    · exact hkeep q (.inl hq)
    · exact hr hfree hag (h.all r hmr)
    · exact hkeep q (.inr hq)
  · have hnew : ∀ q, q ∈ l1 ∨ q ∈ l2 → ∀ g, q.block = some g → r'.block ≠ some g := by
      intro q hq g h1 h2
      rcases hb g h2 with h3 | h3
      · exact hdj q hq g h1 h3
      · have := (q.lt (h.all q (hother q hq)) h1).2
        omega
    refine List.pairwise_append.2 ⟨hp.1, List.pairwise_cons.2 ⟨fun q hq g h1 h2 => hnew q (.inr hq) g h2 h1, hp2.2⟩, ?_⟩
    intro q hq q' hq' g h1 h2
    rcases List.mem_cons.1 hq' with rfl | hq'
    · exact hnew q (.inl hq) g h1 h2
    · exact hp.2.2 q hq q' (by simp [hq']) g h1 h2
theorem Sep.alloc (h : Sep w0 F0 Γ W) (cs : List Value) (t : Nat) : Sep w0 F0 (box W.heap.size cs t :: Γ) (W.alloc (.cells cs.toArray t)) :=
  h.grow (World.grownBy_alloc W _ none) ⟨h.size, heap_alloc_new W _⟩ (fun g hg => by injection hg with hg; omega)
theorem Sep.store (h : Sep w0 F0 Γ W) {g t j : Nat} {cs : List Value} (u : Value) (hp : Put Γ (box g cs t) (box g (cs.set j u) t) Γ') : Sep w0 F0 Γ' (W.setCell ⟨g, j, none⟩ u) := by
  refine h.put hp ⟨rfl, rfl, rfl, by simp [World.setCell], fun k hk hne => Below.heap_setCell _ _ _ _ (fun e => hne (by rw [e]; rfl))⟩ (fun g' hg' => .inl hg') ?_
  intro _ _ hr
  refine ⟨hr.1, ?_⟩
  have := blk_set (i := j) (u := u) hr.2
  rw [this]
  simp
theorem Sep.freeze (h : Sep w0 F0 Γ W) {r r' : Res} (hp : Put Γ r r' Γ') (hn : r'.block = none) (hr : (∀ b, Free w0.heap.size F0 Γ W b ∨ (r.block = some b ∧ w0.heap.size ≤ b ∧ b < W.heap.size) → Free w0.heap.size F0 Γ' W b) → r.holds w0.heap.size (Free w0.heap.size F0 Γ W) W → r'.holds w0.heap.size (Free w0.heap.size F0 Γ' W) W) : Sep w0 F0 Γ' W := by
  refine h.put hp ⟨rfl, rfl, rfl, Nat.le_refl _, fun _ _ _ => rfl⟩ (fun g hg => by rw [hn] at hg; cases hg) ?_
  intro hf _ hh
  refine hr (fun b hb => ?_) hh
  rcases hb with hb | ⟨hb, h1, h2⟩
  · exact hf b hb
  · refine ⟨.inr ⟨h1, h2⟩, fun q hq e => ?_⟩
    obtain ⟨l1, l2, rfl, rfl⟩ := hp
    have hp := List.pairwise_append.1 h.dj
    have hp2 := List.pairwise_cons.1 hp.2.1
    simp only [List.mem_append, List.mem_cons] at hq
    rcases hq with hq | rfl | hq
    · exact hp.2.2 q hq r (by simp) b e hb
    · rw [hn] at e; cases e
    · exact hp2.1 q hq b hb e
end
def AggN (P : Program) (t : TypeId) (n : Nat) : Prop := ∃ d, P.underlying t = some d ∧ d.isRow = true ∧ (P.info? t).map (·.size) = some n
def OneT (P : Program) (t : TypeId) : Prop := ∃ d, P.underlying t = some d ∧ d.isRow = false ∧ (P.info? t).map (·.size) = some 1
def SliceT (P : Program) (t e size bytes : Nat) : Prop := P.underlying t = some (.slice e) ∧ ∃ i z, P.info? e = some i ∧ i.zero = some z ∧ i.size = size ∧ i.bytes = bytes ∧ z.cells.size = size
theorem SliceT.mk {P : Program} {t e size bytes : Nat} (h : P.underlying t = some (.slice e)) (h1 : (P.info? e).map (fun i => (i.zero.map (·.cells.size), i.size, i.bytes)) = some (some size, size, bytes)) : SliceT P t e size bytes := by
  refine ⟨h, ?_⟩
  match hh : P.info? e, h1 with
  | some i, h1 =>
    simp only [Option.map_some, Option.some.injEq, Prod.mk.injEq] at h1
    match hz : i.zero, h1 with
    | some z, h1 => exact ⟨i, z, rfl, hz, h1.2.1, h1.2.2, by simpa using h1.1⟩
theorem AggN.mk {P : Program} {t n : Nat} {d : TypeDesc} (h : P.underlying t = some d) (hd : d.isRow = true) (hi : (P.info? t).map (·.size) = some n) : AggN P t n := ⟨d, h, hd, hi⟩
theorem OneT.mk {P : Program} {t : Nat} {d : TypeDesc} (h : P.underlying t = some d) (hd : d.isRow = false) (hi : (P.info? t).map (·.size) = some 1) : OneT P t := ⟨d, h, hd, hi⟩
theorem OneT.load {P : Program} {t : Nat} (h : OneT P t) {W : World} {p : Addr} {v : Value} (hv : W.cell? p = some v) : (loadVar t p).run P W = .ok v W := by
  obtain ⟨d, hu, hd, _⟩ := h
  have hagg : (isAgg t).run P W = .ok false W := by
    unfold isAgg
    rw [Sem.run_bind, run_underlying hu W]
    cases d <;> simp_all
  simp [loadVar, Sem.run_bind, hagg, hv]
theorem AggN.load {P : Program} {t b o : Nat} {cs : List Value} (h : AggN P t cs.length) {W : World} (hv : W.rangeAt b o cs) : (loadVar t ⟨b, o, none⟩).run P W = .ok (.agg cs.toArray) W := by
  obtain ⟨d, hu, hd, hi⟩ := h
  exact run_loadVar_mid W b o t cs d hv hu hd hi
theorem cells_one {v : Value} (h : v.oneCell' = true) : v.cells = #[v] := by cases v <;> first | rfl | cases h
theorem OneT.store {P : Program} {t : Nat} (h : OneT P t) {W : World} {p : Addr} {v u : Value} (hv : W.cell? p = some u) (hf : W.frozen? p = false) (h1 : v.oneCell' = true) : (storeVar t p v).run P W = .ok () (W.setCell p v) := by
  obtain ⟨d, hu, hd, hi⟩ := h
  match hh : P.info? t, hi with
  | some i, hi =>
    simp at hi
    have e : p.add 0 = p := by unfold Addr.add; simp
    simp [storeVar, sizeOf, typeInfo, hh, cells_one h1, hi, storeCells, e, run_store P W p v _ h1, hv, hf]
theorem AggN.store {P : Program} {t g ty : Nat} {old cs : List Value} (h : AggN P t cs.length) {W : World} (hg : W.heap[g]? = some (.cells old.toArray ty (0, 0))) (hl : old.length = cs.length) (h1 : Ones cs) :
    (storeVar t ⟨g, 0, none⟩ (.agg cs.toArray)).run P W = .ok () (W.setRow g cs.toArray) := by
  obtain ⟨d, hu, hd, hi⟩ := h
  exact run_storeVar_row W g ty t old.toArray cs.toArray hg (by simpa using hi) (by simpa using hl) (all_oneCell_toArray h1)
def RV (w0 : World) (F0 : Nat → Prop) (Γ : List Res) (v : Value) (e : Ending) (W : World) : Prop := e = .returned v ∧ Sep w0 F0 Γ W
section
variable {P : Program} {w0 W : World} {F0 : Nat → Prop} {Γ Γ' Γ1 : List Res}
theorem Sep.old (h : Sep w0 F0 Γ W) {f : FuncId} {args : Array Value} {v : Value} (hc : Calls P f args W fun e w' => e = .returned v ∧ Below W.heap.size W w') : Calls P f args W (RV w0 F0 Γ v) :=
  hc.mono fun e w' ⟨h1, h2⟩ => ⟨h1, h.belows h2⟩
section
variable {ops : Array Oper} {Q : Exit → Act → World → Prop} {a : Act} {rest : List Oper} {o : Oper} {t : TypeId} {x y : Operand}
theorem setRow_far {W : World} {g k : Nat} {cs : Array Value} (h : k ≠ g) : (W.setRow g cs).heap[k]? = W.heap[k]? := setRow_other W g k cs h
theorem Sep.setRow (h : Sep w0 F0 Γ W) {g ty : Nat} {cs cs' : List Value} (hp : Put Γ (box g cs ty) (box g cs' ty) Γ') : Sep w0 F0 Γ' (W.setRow g cs'.toArray) := by
  refine h.put hp ⟨rfl, rfl, rfl, by simp, fun k hk hne => setRow_far (fun e => hne (by rw [e]; rfl))⟩ (fun g' hg' => .inl hg') ?_
  intro _ _ hr
  exact ⟨hr.1, setRow_heap W g cs.toArray cs'.toArray ty _ hr.2⟩
end
end
section
variable {P : Program} {w0 W : World} {F0 : Nat → Prop} {Γ Γ' Γ1 Γ2 : List Res}
theorem Del.sub {r : Res} (h : Del Γ r Γ1) : Sub Γ1 Γ := by
  obtain ⟨l1, l2, rfl, rfl⟩ := h
  exact ⟨[r], by simpa using List.perm_middle.trans (List.perm_append_singleton r (l1 ++ l2)).symm⟩
theorem Del.front {r : Res} (h : Del Γ r Γ1) : Sub (r :: Γ1) Γ := Sub.take h Sub.refl
theorem Sep.front (h : Sep w0 F0 Γ W) {r : Res} (hd : Del Γ r Γ1) : Sep w0 F0 (r :: Γ1) W := h.sub hd.front
theorem Sep.elem (h : Sep w0 F0 Γ W) {α : Type} {S : Sh α} {xs : List α} {A : Option Addr} {n c i : Nat} (hm : At Γ (rds xs A n c S)) (hi : i < n) :
    ∃ b off z cs, A = some ⟨b, off, none⟩ ∧ xs[i]? = some z ∧ Sep w0 F0 (cells b (off + i * S.size) cs :: rep z cs S :: Γ) W := by
  have hr : Rds S W (Free w0.heap.size F0 Γ W) xs A n c := h.get hm
  obtain ⟨b, off, z, cs, e, hF, hx, hz, hc⟩ := hr.at_ hi
  refine ⟨b, off, z, cs, e, hx, ?_⟩
  have h1 : Sep w0 F0 (rep z cs S :: Γ) W := h.add rfl hz
  exact h1.add rfl ⟨⟨hF.1, fun q hq => by
    rcases List.mem_cons.1 hq with rfl | hq
    · intro e; cases e
    · exact hF.2 q hq⟩, hc⟩
section
variable {ops : Array Oper} {Q : Exit → Act → World → Prop} {a : Act} {rest : List Oper} {o : Oper} {t : TypeId} {x y : Operand}
end
theorem Sep.pure (h : Sep w0 F0 Γ W) {α : Type} {S : Sh α} {z : α} {cs : List Value} (hz : ∀ W F, S.rep W F z cs) : Sep w0 F0 (rep z cs S :: Γ) W := h.add rfl (hz _ _)
theorem Sep.open_int (h : Sep w0 F0 Γ W) {x : Int} {cs : List Value} (hm : At Γ (rep x cs shInt)) : cs = [.int .i64 x] ∧ I64 x := h.get hm
theorem Sep.getRds (h : Sep w0 F0 Γ W) {α : Type} {S : Sh α} {xs : List α} {A : Option Addr} {n c : Nat} (hm : At Γ (rds xs A n c S)) : Rds S W (Free w0.heap.size F0 Γ W) xs A n c := h.get hm
theorem Sep.len (h : Sep w0 F0 Γ W) {α : Type} {S : Sh α} {xs : List α} {A : Option Addr} {n c : Nat} (hm : At Γ (rds xs A n c S)) : xs.length = n ∧ n ≤ c ∧ c ≤ 9223372036854775807 := ⟨(h.getRds hm).1, (h.getRds hm).2.1, (h.getRds hm).2.2.1⟩
end
attribute [irreducible] fact rds rep cells box row At Put Del Sub
end Go.Proofs.Ytnnbnjanekibpaa
namespace Go.Proofs.Ytnnbnjanekibpaa
open Go.RowKit
set_option linter.unusedVariables false
set_option maxRecDepth 100000
def eqB {α : Type} [DecidableEq α] (xs ys : List α) : Bool := decide (xs = ys)
end Go.Proofs.Ytnnbnjanekibpaa
namespace Go.Proofs.Ytnnbnjanekibpaa
open Go.RowKit
set_option linter.unusedVariables false
set_option maxRecDepth 100000
theorem Rds.op {w : World} {F : Nat → Prop} {xs : List Op} {A : Option Addr} {n c k : Nat} (h : Rds shOp w F xs A n c) (hk : k < n) :
    ∃ b off x, A = some ⟨b, off, none⟩ ∧ F b ∧ xs[k]? = some x ∧ (w.cell? ⟨b, off + k * 2, none⟩ = some (.int .i64 x.kind) ∧ w.cell? ⟨b, off + k * 2 + 1, none⟩ = some (.int .i64 x.n)) ∧ I64 x.kind ∧ I64 x.n := by
  obtain ⟨b, off, x, cs, e, hF, hx, hr, hc⟩ := h.at_ hk
  obtain ⟨rfl, h1, h2⟩ := rep_op hr
  exact ⟨b, off, x, e, hF, hx, ⟨by simpa [shOp, shS2, shInt] using hc 0 _ rfl, by simpa [shOp, shS2, shInt] using hc 1 _ rfl⟩, h1, h2⟩
theorem equal_op (xs ys : List (Op)) (A A' : Option Addr) (n c n' c' : Nat) (w : World) (F F' : Nat → Prop) (h : Rds shOp w F xs A n c) (h' : Rds shOp w F' ys A' n' c') :
    Calls Try.prog 65 #[.slice A n c, .slice A' n' c'] w fun e w' => e = .returned (.bool (eqB xs ys)) ∧ ∃ m, w' = w.drewN m := by
  have hn := h.2.1
  have hc := h.2.2.1
  have hn' := h'.2.1
  have hc' := h'.2.2.1
  by_cases hl : n = n'
  · obtain rfl := hl
    go_enter Try.func65, Try.ntmps65
    go_wp2
    go_loopw [5, 13] (fun _ i wr => ∃ (k m : Nat), k ≤ n ∧ i = .int .i64 k ∧ wr = w.drewN m ∧ xs.take k = ys.take k) (fun _ i _ => n - (intOf i).toNat)
    case atStart => exact ⟨0, 0, by omega, rfl, rfl, rfl⟩
    case round =>
      obtain ⟨k, m, hk, rfl, rfl, hs⟩ := hrel
      by_cases hlt : k < n
      · obtain ⟨b, off, x, rfl, -, hx, hcell, x0⟩ := h.op hlt
        obtain ⟨b', off', y, rfl, -, hy, hcell', y0⟩ := h'.op hlt
        have Hs := Lib.hid hs
        have Hx := Lib.hid hx
        have Hy := Lib.hid hy
        have i1 : (0 : Int) ≤ (k : Int) := by omega
        have i2 : (k : Int) < (n : Int) := by omega
        clear hs hx hy h h' x0 y0
        by_cases hxy : x = y
        · subst hxy
          go_wp2
          go_quiet (fail)
          go_wp2
          go_roundw
          case measure => simp [intOf]; omega
          case rel => exact ⟨k + 1, _, by omega, by go_num, rfl, by rw [take_snoc Hx.out, take_snoc Hy.out, Hs.out]⟩
        · have hne : eqB xs ys = false := by
            have : xs ≠ ys := fun e => hxy (by have := Hx.out; rw [e, Hy.out] at this; injection this with this; exact this.symm)
            simp [eqB, this]
          obtain ⟨xk, xn⟩ := x
          obtain ⟨yk, yn⟩ := y
          by_cases h1 : xk = yk
          · subst h1
            have h2 : (xn == yn) = false := by simpa using hxy
            clear hxy
            go_wp2
            go_quiet (fail)
            go_wp2
            all_goals (go_ret; refine ⟨ret_bool ?_, _, World.drewN_drewN _ _ _⟩; exact hne.symm)
          · have h2 : (xk == yk) = false := by simpa using h1
            clear hxy h1
            go_wp2
            go_quiet (fail)
            go_wp2
            all_goals (go_ret; refine ⟨ret_bool ?_, _, World.drewN_drewN _ _ _⟩; exact hne.symm)
      · obtain rfl : k = n := by omega
        have Hs := Lib.hid hs
        clear hs
        go_wp2
        go_ret
        refine ⟨ret_bool ?_, _, rfl⟩
        have := Hs.out
        rw [List.take_of_length_le (by have := h.1; omega), List.take_of_length_le (by have := h'.1; omega)] at this
        simp [eqB, this]
  · have hd : ((n : Int) == (n' : Int)) = false := by simp; omega
    have e : eqB xs ys = false := by
      have : xs ≠ ys := fun e => hl (by rw [← h.1, ← h'.1, e])
      simp [eqB, this]
    rw [e]
    clear hl e
    go_enter Try.func65, Try.ntmps65
    go_wp2
    go_ret
    exact ⟨rfl, 0, rfl⟩
def idxGo {α : Type} [DecidableEq α] (x : α) : List α → Nat → Int
  | [], _ => -1
  | y :: l, k => if x = y then k else idxGo x l (k + 1)
def idx {α : Type} [DecidableEq α] (xs : List α) (x : α) : Int := idxGo x xs 0
end Go.Proofs.Ytnnbnjanekibpaa
namespace Go.Proofs.Ytnnbnjanekibpaa
open Go.RowKit
set_option linter.unusedVariables false
set_option maxRecDepth 100000
end Go.Proofs.Ytnnbnjanekibpaa
namespace Go.Proofs.Ytnnbnjanekibpaa
open Go.RowKit
set_option linter.unusedVariables false
set_option maxRecDepth 100000
theorem own_below {w w' : World} {base e size n : Nat} {v : Value} {xs : List Value} (h : w.ownsRow base e size v n xs) (hb : Below w.heap.size w w') : w'.ownsRow base e size v n xs := by
  refine ⟨h.1, ?_⟩
  rcases h.2 with h0 | ⟨g, cap, cur, hv, hg, hh, r⟩
  · exact .inl h0
  · refine .inr ⟨g, cap, cur, hv, hg, ?_, r⟩
    rw [hb.block g ?_]
    · exact hh
    · rcases Nat.lt_or_ge g w.heap.size with h | h
      · exact h
      · rw [Array.getElem?_eq_none h] at hh; cases hh
theorem int_info2 : ∃ i z, Try.prog.info? 3 = some i ∧ i.zero = some z ∧ i.size = 1 ∧ i.bytes = 8 ∧ z.cells.size = 1 := by
  have h1 : (Try.prog.info? 3).map (fun i => (i.zero.map (·.cells.size), i.size, i.bytes)) = some (some 1, 1, 8) := by kernel_rfl
  match hh : Try.prog.info? 3, h1 with
  | some i, h1 =>
    simp only [Option.map_some, Option.some.injEq, Prod.mk.injEq] at h1
    match hz : i.zero, h1 with
    | some z, h1 => exact ⟨i, z, rfl, hz, h1.2.1, h1.2.2, by simpa using h1.1⟩
end Go.Proofs.Ytnnbnjanekibpaa
namespace Go.Proofs.Ytnnbnjanekibpaa
open Go.RowKit
set_option linter.unusedVariables false
set_option maxRecDepth 100000
def opBad (o : Op) : Int := if o.kind < 1 ∨ 13 < o.kind then 4 else if (o.kind ≠ 1 ∧ o.n ≠ 0) ∨ o.n < -1000000 ∨ 1000000 < o.n then 3 else 0
def opsGo : List Op → Int
  | [] => 0
  | o :: l => if opBad o ≠ 0 then opBad o else opsGo l
def opsCheck (l : List Op) : Int := if 16 < l.length then 2 else opsGo l
theorem lockCheck_any (xs : List Op) (A : Option Addr) (n c : Nat) (w : World) (F : Nat → Prop) (h : Rds shOp w F xs A n c) (hF : ∀ b, F b → b < w.heap.size) :
    Calls Try.prog 106 #[.slice A n c] w fun e w' => e = .returned (.int .i64 (opsCheck xs)) ∧ Below w.heap.size w w' := by
  have hn := h.2.1
  have hc := h.2.2.1
  have hl := h.1
  by_cases h16 : 16 < n
  · have e : opsCheck xs = 2 := by simp only [opsCheck]; rw [if_pos (by omega)]
    rw [e]
    clear e hl
    go_enter Try.func106, Try.ntmps106
    go_wp2
    go_ret
    exact ⟨rfl, Below.refl _ _⟩
  · have e : opsCheck xs = opsGo xs := by simp only [opsCheck]; rw [if_neg (by omega)]
    rw [e]
    have HR := Lib.hid h
    have HLN := Lib.hid hl
    clear e hl h
    go_enter Try.func106, Try.ntmps106
    go_wp2
    go_loopw [4, 10] (fun _ i wr => ∃ k : Nat, k ≤ n ∧ i = .int .i64 k ∧ Below w.heap.size w wr ∧ opsGo (xs.drop k) = opsGo xs) (fun _ i _ => n - (intOf i).toNat)
    case atStart => exact ⟨0, by omega, rfl, Below.refl _ _, rfl⟩
    case round =>
      obtain ⟨k, hk, rfl, hb, hs⟩ := hrel
      by_cases hlt : k < n
      · obtain ⟨b, off, x, rfl, hFb, hx, ⟨hc1, hc2⟩, -, -⟩ := HR.out.op hlt
        rw [drop_cons hx, opsGo] at hs
        rw [← hb.cell (p := ⟨b, off + k * 2, none⟩) (hF b hFb)] at hc1
        rw [← hb.cell (p := ⟨b, off + k * 2 + 1, none⟩) (hF b hFb)] at hc2
        have HB := Lib.hid (hb.alloc hb.size (.cells #[.int .i64 x.kind, .int .i64 x.n] 108))
        clear hx hb
        have i1 : (0 : Int) ≤ (k : Int) := by omega
        have i2 : (k : Int) < (n : Int) := by omega
        obtain ⟨xk, xn⟩ := x
        simp only at hc1 hc2 HB
        rcases Classical.em (xk < 1 ∨ 13 < xk) with hk1 | hk1
        · have e : opBad ⟨xk, xn⟩ = 4 := by simp only [opBad]; rw [if_pos hk1]
          rw [e, if_pos (by decide)] at hs
          have HS := Lib.hid hs
          clear hs e
          rcases Classical.em (xk < 1) with hk2 | hk2
          · clear hk1
            go_wp2
            go_ret
            exact ⟨ret_int HS.out, HB.out⟩
          · have hk3 : 13 < xk := by omega
            clear hk1
            go_wp2
            go_ret
            exact ⟨ret_int HS.out, HB.out⟩
        · have g1 : ¬ xk < 1 := by omega
          have g2 : ¬ 13 < xk := by omega
          have e0 : opBad ⟨xk, xn⟩ = if (xk ≠ 1 ∧ xn ≠ 0) ∨ xn < -1000000 ∨ 1000000 < xn then 3 else 0 := by simp only [opBad]; rw [if_neg hk1]
          rw [e0] at hs
          clear hk1 e0
          rcases Classical.em ((xk ≠ 1 ∧ xn ≠ 0) ∨ xn < -1000000 ∨ 1000000 < xn) with h3 | h3
          · rw [if_pos h3, if_pos (by decide)] at hs
            have HS := Lib.hid hs
            clear hs
            by_cases h4 : xk ≠ 1 ∧ xn ≠ 0
            · have k1 : (xk != 1) = true := by simpa using h4.1
              have k2 : (xn != 0) = true := by simpa using h4.2
              clear h3 h4
              go_wp2
              go_ret
              exact ⟨ret_int HS.out, HB.out⟩
            · by_cases h5 : xk = 1
              · subst h5
                clear h4
                rcases Classical.em (xn < -1000000) with h6 | h6
                · clear h3
                  go_wp2
                  go_ret
                  exact ⟨ret_int HS.out, HB.out⟩
                · have h7 : 1000000 < xn := by omega
                  clear h3
                  go_wp2
                  go_ret
                  exact ⟨ret_int HS.out, HB.out⟩
              · exfalso; omega
          · rw [if_neg h3, if_neg (by decide)] at hs
            have HS := Lib.hid hs
            clear hs
            have h6 : ¬ xn < -1000000 := by omega
            have h7 : ¬ 1000000 < xn := by omega
            by_cases h5 : xk = 1
            · subst h5
              clear h3
              go_wp2
              go_roundw
              case measure => simp [intOf]; omega
              case rel => exact ⟨k + 1, by omega, by go_num, HB.out, HS.out⟩
            · obtain rfl : xn = 0 := by omega
              have k1 : (xk != 1) = true := by simpa using h5
              clear h3 h5
              go_wp2
              go_roundw
              case measure => simp [intOf]; omega
              case rel => exact ⟨k + 1, by omega, by go_num, HB.out, HS.out⟩
      · obtain rfl : k = n := by omega
        rw [List.drop_eq_nil_of_le (by rw [HLN.out]; omega), opsGo] at hs
        have HS := Lib.hid hs
        clear hs
        go_wp2
        go_ret
        exact ⟨ret_int HS.out, hb⟩
end Go.Proofs.Ytnnbnjanekibpaa
namespace Go.Proofs.Ytnnbnjanekibpaa
open Go.RowKit
set_option linter.unusedVariables false
set_option maxRecDepth 100000
def coinCheck (n : Int) : Int := if 0 ≤ n ∧ n ≤ 1000000000 then 0 else 3
theorem coinCheck_any (n : Int) (w : World) : Calls Try.prog 26 #[.int .i64 n] w fun e w' => e = .returned (.int .i64 (coinCheck n)) ∧ w = w' := by
  go_enter Try.func26, Try.ntmps26
  go_wp2
  all_goals (go_ret; refine ⟨ret_int ?_, rfl⟩; unfold coinCheck; first | (rw [if_pos (by omega)]) | (rw [if_neg (by omega)]))
def sumGo : List Int → Int → Int × Int
  | [], a => (a, 0)
  | x :: l, a => if 0 ≤ x ∧ x ≤ 1000000000 then (if 1000000000 < a + x then (0, 12) else sumGo l (a + x)) else (0, 3)
def coinSum (l : List Int) : Int × Int := sumGo l 0
theorem sum_any (xs : List Int) (A : Option Addr) (n c : Nat) (w : World) (F : Nat → Prop) (h : Rds shInt w F xs A n c) :
    Calls Try.prog 23 #[.slice A n c] w fun e w' => e = .returned (.tuple #[.int .i64 (coinSum xs).1, .int .i64 (coinSum xs).2]) ∧ w = w' := by
  have hn := h.2.1
  have hc := h.2.2.1
  go_enter Try.func23, Try.ntmps23
  go_wp2
  go_loop [4, 10] (fun a i => ∃ (k : Nat) (aa : Int), k ≤ n ∧ i = .int .i64 k ∧ a = .int .i64 aa ∧ 0 ≤ aa ∧ aa ≤ 1000000000 ∧ sumGo (xs.drop k) aa = coinSum xs) (fun _ i => n - (intOf i).toNat)
  case atStart => exact ⟨0, 0, by omega, rfl, rfl, by omega, by omega, rfl⟩
  case round =>
    obtain ⟨k, aa, hk, rfl, rfl, a0, a1, hs⟩ := hrel
    by_cases hlt : k < n
    · obtain ⟨b, off, x, rfl, -, hx, hcell, x0, x1⟩ := h.int hlt
      rw [drop_cons hx, sumGo] at hs
      have Hs := Lib.hid hs
      clear hs hx h
      by_cases hv : 0 ≤ x ∧ x ≤ 1000000000
      · obtain ⟨v0, v1⟩ := hv
        have e : coinCheck x = 0 := by unfold coinCheck; rw [if_pos ⟨v0, v1⟩]
        have E := Lib.hid e
        clear e
        by_cases hf : 1000000000 < aa + x
        · go_wp2_with (go_at_call 26; refine (coinCheck_any _ _).mono ?_; rintro e w' ⟨rfl, rfl⟩; rw [E.out])
          go_ret2
          have := Hs.out
          rw [if_pos (by omega), if_pos (by omega)] at this
          exact ⟨ret_int2 (by rw [← this]) (by rw [← this]), rfl⟩
        · go_wp2_with (go_at_call 26; refine (coinCheck_any _ _).mono ?_; rintro e w' ⟨rfl, rfl⟩; rw [E.out])
          go_round
          case measure => simp [intOf]; omega
          case rel =>
            have := Hs.out
            rw [if_pos (by omega), if_neg (by omega)] at this
            exact ⟨k + 1, _, by omega, by go_num, rfl, by omega, by omega, this⟩
      · have e : coinCheck x = 3 := by unfold coinCheck; rw [if_neg hv]
        have E := Lib.hid e
        clear e
        have hv' : x < 0 ∨ 1000000000 < x := by omega
        have Hv := Lib.hid hv
        clear hv
        go_wp2_with (go_at_call 26; refine (coinCheck_any _ _).mono ?_; rintro e w' ⟨rfl, rfl⟩; rw [E.out])
        go_ret2
        have := Hs.out
        rw [if_neg Hv.out] at this
        exact ⟨ret_int2 (by rw [← this]) (by rw [← this]), rfl⟩
    · obtain rfl : k = n := by omega
      have Hs := Lib.hid hs
      clear hs
      go_wp2
      go_ret2
      have := Hs.out
      rw [List.drop_eq_nil_of_le (by have := h.1; omega)] at this
      exact ⟨ret_int2 (by rw [← this]; rfl) (by rw [← this]; rfl), rfl⟩
end Go.Proofs.Ytnnbnjanekibpaa
namespace Go.Proofs.Ytnnbnjanekibpaa
open Go.RowKit
set_option linter.unusedVariables false
set_option maxRecDepth 100000
theorem Rds.inn {w : World} {F : Nat → Prop} {xs : List In} {A : Option Addr} {n c k : Nat} (h : Rds shIn w F xs A n c) (hk : k < n) :
    ∃ b off x A' n' c', A = some ⟨b, off, none⟩ ∧ F b ∧ xs[k]? = some x ∧ (w.cell? ⟨b, off + k * 3, none⟩ = some (.int .i64 x.p.tx) ∧ w.cell? ⟨b, off + k * 3 + 1, none⟩ = some (.int .i64 x.p.at_) ∧ w.cell? ⟨b, off + k * 3 + 2, none⟩ = some (.slice A' n' c')) ∧ I64 x.p.tx ∧ I64 x.p.at_ ∧ Rds shOp w F x.key A' n' c' := by
  obtain ⟨b, off, x, cs, e, hF, hx, hr, hc⟩ := h.at_ hk
  obtain ⟨A', n', c', rfl, h1, h2, h3⟩ := rep_in hr
  exact ⟨b, off, x, A', n', c', e, hF, hx, ⟨by simpa [shIn, shPoint, shS2, shInt, shSlice] using hc 0 _ rfl, by simpa [shIn, shPoint, shS2, shInt, shSlice] using hc 1 _ rfl, by simpa [shIn, shPoint, shS2, shInt, shSlice] using hc 2 _ rfl⟩, h1, h2, h3⟩
theorem Rds.out_ {w : World} {F : Nat → Prop} {xs : List Out} {A : Option Addr} {n c k : Nat} (h : Rds shOut w F xs A n c) (hk : k < n) :
    ∃ b off x A' n' c', A = some ⟨b, off, none⟩ ∧ F b ∧ xs[k]? = some x ∧ (w.cell? ⟨b, off + k * 2, none⟩ = some (.int .i64 x.coin) ∧ w.cell? ⟨b, off + k * 2 + 1, none⟩ = some (.slice A' n' c')) ∧ I64 x.coin ∧ Rds shOp w F x.lock A' n' c' := by
  obtain ⟨b, off, x, cs, e, hF, hx, hr, hc⟩ := h.at_ hk
  obtain ⟨A', n', c', rfl, h1, h2⟩ := rep_out hr
  exact ⟨b, off, x, A', n', c', e, hF, hx, ⟨by simpa [shOut, shS2, shInt, shSlice] using hc 0 _ rfl, by simpa [shOut, shS2, shInt, shSlice] using hc 1 _ rfl⟩, h1, h2⟩
theorem txSame_any (y : In) (A : Option Addr) (n c g : Nat) (x : In) (w : World) (h0 : w.cell? ⟨g, 0, none⟩ = some (.int .i64 x.p.tx)) (h1 : w.cell? ⟨g, 1, none⟩ = some (.int .i64 x.p.at_)) (hg : g < w.heap.size) :
    Calls Try.prog 115 #[.agg #[.int .i64 y.p.tx, .int .i64 y.p.at_, .slice A n c], .pointer (some ⟨g, 0, none⟩)] w fun e w' => e = .returned (.bool (decide (y.p = x.p))) ∧ Below w.heap.size w w' := by
  have hb : Below w.heap.size w (w.alloc (.cells #[.int .i64 y.p.tx, .int .i64 y.p.at_, .slice A n c] 91)) := (Below.refl _ _).alloc (Nat.le_refl _) _
  have HB := Lib.hid hb
  have g0 : (w.alloc (.cells #[.int .i64 y.p.tx, .int .i64 y.p.at_, .slice A n c] 91)).cell? ⟨g, 0, none⟩ = some (.int .i64 x.p.tx) := by rw [World.cell?_alloc_lt w _ _ hg]; exact h0
  have g1 : (w.alloc (.cells #[.int .i64 y.p.tx, .int .i64 y.p.at_, .slice A n c] 91)).cell? ⟨g, 1, none⟩ = some (.int .i64 x.p.at_) := by rw [World.cell?_alloc_lt w _ _ hg]; exact h1
  clear hb h0 h1
  obtain ⟨⟨yt, ya⟩, yk⟩ := y
  obtain ⟨⟨xt, xa⟩, xk⟩ := x
  simp only at g0 g1 HB ⊢
  by_cases e1 : yt = xt
  · subst e1
    by_cases e2 : ya = xa
    · subst e2
      go_enter Try.func115, Try.ntmps115
      go_wp2
      all_goals first | omega | skip
      go_ret
      exact ⟨ret_bool (by simp), HB.out⟩
    · go_enter Try.func115, Try.ntmps115
      go_wp2
      go_ret
      exact ⟨ret_bool (by simp [e2]), HB.out⟩
  · go_enter Try.func115, Try.ntmps115
    go_wp2
    go_ret
    exact ⟨ret_bool (by simp [e1]), HB.out⟩
def inIdx (xs : List In) (p : Point) (k : Nat) : Int := match xs with
  | [] => -1
  | y :: l => if y.p = p then k else inIdx l p (k + 1)
theorem inIndex_any (xs : List In) (A : Option Addr) (n c g : Nat) (x : In) (w : World) (F : Nat → Prop) (h : Rds shIn w F xs A n c) (hF : ∀ b, F b → b < w.heap.size) (h0 : w.cell? ⟨g, 0, none⟩ = some (.int .i64 x.p.tx)) (h1 : w.cell? ⟨g, 1, none⟩ = some (.int .i64 x.p.at_)) (hg : g < w.heap.size) :
    Calls Try.prog 97 #[.slice A n c, .func (.func 115) #[] #[.pointer (some ⟨g, 0, none⟩)]] w fun e w' => e = .returned (.int .i64 (inIdx xs x.p 0)) ∧ Below w.heap.size w w' := by
  have hn := h.2.1
  have hc := h.2.2.1
  have hl := h.1
  have HR := Lib.hid h
  have HLN := Lib.hid hl
  have H0 := Lib.hid h0
  have H1 := Lib.hid h1
  clear h hl h0 h1
  go_enter Try.func97, Try.ntmps97
  go_wp2
  go_loopw [5, 8] (fun _ i wr => ∃ k : Nat, k ≤ n ∧ i = .int .i64 k ∧ Below w.heap.size w wr ∧ inIdx (xs.drop k) x.p k = inIdx xs x.p 0) (fun _ i _ => n - (intOf i).toNat)
  case atStart => exact ⟨0, by omega, rfl, Below.refl _ _, rfl⟩
  case round =>
    obtain ⟨k, hk, rfl, hb, hs⟩ := hrel
    by_cases hlt : k < n
    · obtain ⟨b, off, y, A', n', c', rfl, hFb, hx, ⟨hc1, hc2, hc3⟩, -, -, -⟩ := HR.out.inn hlt
      rw [drop_cons hx, inIdx] at hs
      rw [← hb.cell (p := ⟨b, off + k * 3, none⟩) (hF b hFb)] at hc1
      rw [← hb.cell (p := ⟨b, off + k * 3 + 1, none⟩) (hF b hFb)] at hc2
      rw [← hb.cell (p := ⟨b, off + k * 3 + 2, none⟩) (hF b hFb)] at hc3
      have HB := Lib.hid hb
      have i1 : (0 : Int) ≤ (k : Int) := by omega
      have i2 : (k : Int) < (n : Int) := by omega
      have hcall := fun (W : World) (hW : Below w.heap.size w W) => txSame_any y A' n' c' g x W (by rw [hW.cell (p := ⟨g, 0, none⟩) hg]; exact H0.out) (by rw [hW.cell (p := ⟨g, 1, none⟩) hg]; exact H1.out) (Nat.lt_of_lt_of_le hg hW.size)
      have HC := Lib.hid hcall
      clear hx hb hcall
      by_cases hy : y.p = x.p
      · rw [if_pos hy] at hs
        have HS := Lib.hid hs
        have hd : decide (y.p = x.p) = true := by simpa using hy
        have HD := Lib.hid hd
        clear hs hy hd
        go_wp2_with (go_at_call 115; refine (HC.out _ HB.out).mono ?_; rintro e w2 ⟨rfl, hb2⟩; rw [HD.out])
        go_ret
        exact ⟨ret_int HS.out, HB.out.trans (hb2.mono HB.out.size)⟩
      · rw [if_neg hy] at hs
        have HS := Lib.hid hs
        have hd : decide (y.p = x.p) = false := by simpa using hy
        have HD := Lib.hid hd
        clear hs hy hd
        go_wp2_with (go_at_call 115; refine (HC.out _ HB.out).mono ?_; rintro e w2 ⟨rfl, hb2⟩; rw [HD.out])
        go_roundw
        case measure => simp [intOf]; omega
        case rel => exact ⟨k + 1, by omega, by go_num, HB.out.trans (hb2.mono HB.out.size), HS.out⟩
    · obtain rfl : k = n := by omega
      rw [List.drop_eq_nil_of_le (by rw [HLN.out]; omega), inIdx] at hs
      have HS := Lib.hid hs
      clear hs
      go_wp2
      go_ret
      exact ⟨ret_int HS.out, hb⟩
theorem inContains_any (xs : List In) (A : Option Addr) (n c g : Nat) (x : In) (w : World) (F : Nat → Prop) (h : Rds shIn w F xs A n c) (hF : ∀ b, F b → b < w.heap.size) (h0 : w.cell? ⟨g, 0, none⟩ = some (.int .i64 x.p.tx)) (h1 : w.cell? ⟨g, 1, none⟩ = some (.int .i64 x.p.at_)) (hg : g < w.heap.size) :
    Calls Try.prog 53 #[.slice A n c, .func (.func 115) #[] #[.pointer (some ⟨g, 0, none⟩)]] w fun e w' => e = .returned (.bool (decide (0 ≤ inIdx xs x.p 0))) ∧ Below w.heap.size w w' := by
  have HC := Lib.hid (inIndex_any xs A n c g x w F h hF h0 h1 hg)
  clear h hF h0 h1 hg
  generalize inIdx xs x.p 0 = j at HC ⊢
  go_enter Try.func53, Try.ntmps53
  go_wp2_with fail
  refine HC.out.mono ?_
  rintro e w1 ⟨rfl, hb⟩
  rcases Classical.em (0 ≤ j) with hj | hj
  · go_wp2_with fail
    go_ret
    exact ⟨ret_bool (by simp [hj]), hb⟩
  · go_wp2_with fail
    go_ret
    exact ⟨ret_bool (by first | (simp; done) | (simp; omega)), hb⟩
def inBad (x : In) : Int := if x.p.tx < 1 ∨ 120 < x.p.tx ∨ x.p.at_ < 0 ∨ 6 ≤ x.p.at_ then 3 else opsCheck x.key
def insGo : List In → List In → Int
  | [], _ => 0
  | x :: l, seen => if inBad x ≠ 0 then inBad x else if 0 ≤ inIdx seen x.p 0 then 6 else insGo l (seen ++ [x])
def outBad (x : Out) : Int := if x.coin < 1 then 3 else opsCheck x.lock
def outsGo : List Out → Int
  | [] => 0
  | x :: l => if outBad x ≠ 0 then outBad x else outsGo l
def txHead (t : Tx) : Int := if 6 < t.ins.length ∨ 6 < t.outs.length then 2 else if t.outs.length = 0 then 4 else if (t.ins.length = 0 ∧ (t.height < 1 ∨ 1000 < t.height)) ∨ (0 < t.ins.length ∧ t.height ≠ 0) then 3 else 0
def txCheck (t : Tx) : Int := if txHead t ≠ 0 then txHead t else if insGo t.ins [] ≠ 0 then insGo t.ins [] else if outsGo t.outs ≠ 0 then outsGo t.outs else (coinSum (t.outs.map Out.coin)).2
set_option maxHeartbeats 1000000 in
theorem txCheck_any (t : Tx) (cs : List Value) (w : World) (F : Nat → Prop) (h : shTx.rep w F t cs) (hF : ∀ b, F b → b < w.heap.size) :
    Calls Try.prog 90 #[.agg cs.toArray] w fun e w' => e = .returned (.int .i64 (txCheck t)) ∧ Below w.heap.size w w' := by
  obtain ⟨A1, n1, c1, A2, n2, c2, rfl, hh, hi, ho⟩ := rep_tx h
  obtain ⟨th, ins, outs⟩ := t
  simp only at hi ho hh ⊢
  have hl1 := hi.1
  have hn1 := hi.2.1
  have hc1 := hi.2.2.1
  have hl2 := ho.1
  have hn2 := ho.2.1
  have hc2 := ho.2.2.1
  have HI := Lib.hid hi
  have HO := Lib.hid ho
  have hB := (Below.refl w.heap.size w).alloc (Nat.le_refl _) (.cells #[.int .i64 th, .slice A1 n1 c1, .slice A2 n2 c2] 81)
  have hblk := heap_alloc_new w (.cells #[.int .i64 th, .slice A1 n1 c1, .slice A2 n2 c2] 81)
  have HB := Lib.hid hB
  have HK := Lib.hid hblk
  clear hi ho h hh hB hblk
  by_cases h0 : txHead ⟨th, ins, outs⟩ = 0
  · simp only [txHead] at h0
    rw [hl1, hl2] at h0
    have a1 : ¬ (6 < n1 ∨ 6 < n2) := fun e => by rw [if_pos e] at h0; cases h0
    rw [if_neg a1] at h0
    have a2 : ¬ n2 = 0 := fun e => by rw [if_pos e] at h0; cases h0
    rw [if_neg a2] at h0
    have a3 : ¬ ((n1 = 0 ∧ (th < 1 ∨ 1000 < th)) ∨ (0 < n1 ∧ th ≠ 0)) := fun e => by rw [if_pos e] at h0; cases h0
    have e : txCheck ⟨th, ins, outs⟩ = if insGo ins [] ≠ 0 then insGo ins [] else if outsGo outs ≠ 0 then outsGo outs else (coinSum (outs.map Out.coin)).2 := by
      have : ¬ txHead ⟨th, ins, outs⟩ ≠ 0 := by simp only [txHead]; rw [hl1, hl2, if_neg a1, if_neg a2, if_neg a3]; decide
      simp only [txCheck]; rw [if_neg this]
    obtain ⟨R, hR⟩ : ∃ R, R = if insGo ins [] ≠ 0 then insGo ins [] else if outsGo outs ≠ 0 then outsGo outs else (coinSum (outs.map Out.coin)).2 := ⟨_, rfl⟩
    rw [e, ← hR]
    have R1 := Lib.hid (show ∀ v, v = insGo ins [] → v ≠ 0 → v = R from fun v hv h => by rw [hR, ← hv, if_pos h])
    have R2 := Lib.hid (show insGo ins [] = 0 → ∀ v, v = outsGo outs → v ≠ 0 → v = R from fun h0 v hv h => by rw [hR, h0, ← hv, if_neg (by decide), if_pos h])
    have R3 := Lib.hid (show insGo ins [] = 0 → outsGo outs = 0 → (coinSum (outs.map Out.coin)).2 = R from fun h0 h1 => by rw [hR, h0, h1, if_neg (by decide), if_neg (by decide)])
    clear hR
    have m1 : n1 ≤ 6 := by omega
    have m2 : n2 ≤ 6 := by omega
    have m3 : 0 < n2 := by omega
    have L1 := Lib.hid hl1
    have L2 := Lib.hid hl2
    clear e h0 a1 a2 hl1 hl2 hn1 hn2 hc1 hc2
    obtain ⟨i0, zv, hi, hz0, hz1, hz2, hz3⟩ := int_info2
    have hi1 := HI.out.2.1
    have hi2 := HI.out.2.2.1
    have ho1 := HO.out.2.1
    have ho2 := HO.out.2.2.1
    go_enter Try.func90, Try.ntmps90
    rcases (show (n1 = 0 ∧ ¬ th < 1 ∧ ¬ 1000 < th) ∨ (0 < n1 ∧ th = 0) by omega) with ⟨g1, g2, g3⟩ | ⟨g1, g2⟩
    case' inl =>
      have q1 : ((n1 : Int) == 0) = true := by simp [g1]
      have q4 : ¬ (0 : Int) < (n1 : Int) := by omega
      clear a3 g1
      go_wp2
      rename_i z0 z1 z2 z3
      clear z1 z0
    case' inr =>
      have q1 : ((n1 : Int) == 0) = false := by simp; omega
      have q4 : (0 : Int) < (n1 : Int) := by omega
      have q5 : (th != 0) = false := by simp [g2]
      clear a3 g1 g2
      go_wp2
    all_goals (
      go_loopw [3, 4, 5, 54] (fun _ _ _ i wr => ∃ k : Nat, k ≤ n1 ∧ i = .int .i64 k ∧ Below w.heap.size w wr ∧ wr.heap[w.heap.size]? = some (.cells #[.int .i64 th, .slice A1 n1 c1, .slice A2 n2 c2] 81 (0, 0)) ∧ insGo (ins.drop k) (ins.take k) = insGo ins []) (fun _ _ _ i _ => n1 - (intOf i).toNat)
      case atStart => exact ⟨0, by omega, rfl, HB.out, HK.out, rfl⟩
      case round =>
        obtain ⟨k, hk, rfl, hb, hbox, hs⟩ := hrel
        have Hb := Lib.hid hb
        have Hbox := Lib.hid hbox
        have hwz := blk_lt hbox
        clear hb hbox q1 q4
        rcases Classical.em (k < n1) with hlt | hlt
        · obtain ⟨b, off, x, A', n', c', rfl, hFb, hx, ⟨hc1, hc2, hc3⟩, -, -, hrk⟩ := HI.out.inn hlt
          have hbx := blk_cell (i := 1) Hbox.out
          have hFw := hF b hFb
          rw [← Hb.out.cell (p := ⟨b, off + k * 3, none⟩) hFw] at hc1
          rw [← Hb.out.cell (p := ⟨b, off + k * 3 + 1, none⟩) hFw] at hc2
          rw [← Hb.out.cell (p := ⟨b, off + k * 3 + 2, none⟩) hFw] at hc3
          rw [drop_cons hx, insGo] at hs
          have HT := Lib.hid (take_snoc hx)
          have HW := Lib.hid (Hb.out.alloc Hb.out.size (.cells #[.int .i64 x.p.tx, .int .i64 x.p.at_, .slice A' n' c'] 91))
          have HRK := Lib.hid ((hrk.keep ((Agree.below HW.out).mono hF)).more (F' := Lt (wr.alloc (.cells #[.int .i64 x.p.tx, .int .i64 x.p.at_, .slice A' n' c'] 91)).heap.size) fun b hb => by have := hF b hb; show b < _; simp; omega)
          have HBX := Lib.hid (blk_below (g := w.heap.size) Hbox.out ((Below.refl wr.heap.size wr).alloc (Nat.le_refl _) (.cells #[.int .i64 x.p.tx, .int .i64 x.p.at_, .slice A' n' c'] 91)) hwz)
          have HNW := Lib.hid (heap_alloc_new wr (.cells #[.int .i64 x.p.tx, .int .i64 x.p.at_, .slice A' n' c'] 91))
          have i1 : (0 : Int) ≤ (k : Int) := by omega
          have i2 : (k : Int) < (n1 : Int) := by omega
          clear hx hrk hFb
          by_cases hp : x.p.tx < 1 ∨ 120 < x.p.tx ∨ x.p.at_ < 0 ∨ 6 ≤ x.p.at_
          · have e : inBad x = 3 := by simp only [inBad]; rw [if_pos hp]
            rw [e, if_pos (by decide)] at hs
            have HS := Lib.hid (R1.out 3 hs (by decide))
            clear e hs
            obtain ⟨⟨xt, xa⟩, xk⟩ := x
            simp only at hc1 hc2 hp HW
            rcases Classical.em (xt < 1) with p1 | p1
            · clear hp
              go_wp2_with fail
              go_ret
              exact ⟨ret_int HS.out, HW.out⟩
            · rcases Classical.em (120 < xt) with p2 | p2
              · clear hp
                go_wp2_with fail
                go_ret
                exact ⟨ret_int HS.out, HW.out⟩
              · rcases Classical.em (xa < 0) with p3 | p3
                · clear hp
                  go_wp2_with fail
                  go_ret
                  exact ⟨ret_int HS.out, HW.out⟩
                · have p4 : 6 ≤ xa := by omega
                  clear hp
                  go_wp2_with fail
                  go_ret
                  exact ⟨ret_int HS.out, HW.out⟩
          · have e : inBad x = opsCheck x.key := by simp only [inBad]; rw [if_neg hp]
            rw [e] at hs
            have p1 : ¬ x.p.tx < 1 := by omega
            have p2 : ¬ 120 < x.p.tx := by omega
            have p3 : ¬ x.p.at_ < 0 := by omega
            have p4 : ¬ 6 ≤ x.p.at_ := by omega
            have HS := Lib.hid hs
            clear e hp hs
            go_wp2_with fail
            generalize hW1 : wr.alloc (.cells #[.int .i64 x.p.tx, .int .i64 x.p.at_, .slice A' n' c'] 91) = W1 at HW HRK HBX HNW ⊢
            have hsW : wr.heap.size < W1.heap.size := by rw [← hW1]; simp
            clear hW1
            refine (lockCheck_any _ _ _ _ _ _ HRK.out (fun b hb => hb)).mono ?_
            rintro e w2 ⟨rfl, hb2⟩
            have HW2 := Lib.hid (HW.out.trans (hb2.mono HW.out.size))
            have HBX2 := Lib.hid (blk_below HBX.out hb2 (by omega))
            have HNW2 := Lib.hid (blk_below HNW.out hb2 hsW)
            have hz2' := hb2.size
            clear hb2 HW HRK HBX HNW
            by_cases he : opsCheck x.key = 0
            · rw [he]
              have hs := HS.out
              rw [he, if_neg (by decide)] at hs
              clear HS he
              have hbx2 := blk_cell (i := 1) HBX2.out
              go_wp2_with fail
              refine (inContains_any (ins.take k) _ k _ wr.heap.size x w2 (Lt w2.heap.size) (((HI.out.take (by omega)).keep ((Agree.below HW2.out).mono hF)).more fun b hb => by have := hF b hb; have := HW2.out.size; show b < _; omega) (fun b hb => hb) (by rw [blk_cell HNW2.out]; rfl) (by rw [blk_cell HNW2.out]; rfl) (by omega)).mono ?_
              rintro e w3 ⟨rfl, hb3⟩
              have HW3 := Lib.hid (HW2.out.trans (hb3.mono HW2.out.size))
              have HBX3 := Lib.hid (blk_below HBX2.out hb3 (by omega))
              clear hb3 HW2 HBX2 HNW2 hbx2
              by_cases hx : 0 ≤ inIdx (ins.take k) x.p 0
              · rw [if_pos hx] at hs
                have hd : decide (0 ≤ inIdx (ins.take k) x.p 0) = true := by simpa using hx
                rw [hd]
                have HS := Lib.hid (R1.out 6 hs (by decide))
                clear hd hx hs
                go_wp2_with fail
                go_ret
                exact ⟨ret_int HS.out, HW3.out⟩
              · rw [if_neg hx] at hs
                have hd : decide (0 ≤ inIdx (ins.take k) x.p 0) = false := by simpa using hx
                rw [hd]
                have HS := Lib.hid hs
                clear hd hx hs
                go_wp2_with fail
                go_roundw
                case measure => simp [intOf]; omega
                case rel => exact ⟨k + 1, by omega, by go_num, HW3.out, HBX3.out, by rw [HT.out]; exact HS.out⟩
            · have hs := HS.out
              rw [if_pos he] at hs
              have hd : (opsCheck x.key != 0) = true := by simpa using he
              have HS' := Lib.hid (R1.out _ hs he)
              clear HS he hs
              go_wp2_with fail
              go_ret
              exact ⟨ret_int HS'.out, HW2.out⟩
        · obtain rfl : n1 = k := by omega
          rw [List.drop_eq_nil_of_le (by rw [L1.out]; omega), insGo] at hs
          have HS := Lib.hid hs.symm
          have hbx := blk_cell (i := 2) Hbox.out
          clear hs
          go_wp2_with fail
          go_loopw [6, 8, 9, 97] (fun o _ _ i wr => ∃ k : Nat, k ≤ n2 ∧ i = .int .i64 k ∧ Below w.heap.size w wr ∧ w.heap.size < wr.heap.size ∧ wr.ownsRow (w.heap.size + 1) 3 1 o k (((outs.take k).map Out.coin).map (Value.int .i64)) ∧ (∀ y ∈ outs.take k, I64 y.coin) ∧ outsGo (outs.drop k) = outsGo outs) (fun _ _ _ i _ => n2 - (intOf i).toNat)
          case atStart => exact ⟨0, by omega, rfl, Hb.out, hwz, World.ownsRow_nil _ _ _ _, by simp, rfl⟩
          case round =>
            obtain ⟨k, hk, rfl, hb, hwq, hown, hob, hs'⟩ := hrel
            rcases Classical.em (k < n2) with hlt2 | hlt2
            · obtain ⟨b, off, x, A', n', c', rfl, hFb, hx, ⟨hc1, hc2⟩, xi, hrk⟩ := HO.out.out_ hlt2
              have hFw := hF b hFb
              rw [← hb.cell (p := ⟨b, off + k * 2, none⟩) hFw] at hc1
              rw [← hb.cell (p := ⟨b, off + k * 2 + 1, none⟩) hFw] at hc2
              rw [drop_cons hx, outsGo] at hs'
              have HT := Lib.hid (take_snoc hx)
              have hW := hb.alloc hb.size (.cells #[.int .i64 x.coin, .slice A' n' c'] 98)
              have HW := Lib.hid hW
              have HRK := Lib.hid ((hrk.keep ((Agree.below hW).mono hF)).more (F' := Lt (wr.alloc (.cells #[.int .i64 x.coin, .slice A' n' c'] 98)).heap.size) fun b hb => by have := hF b hb; show b < _; simp; omega)
              have HNW := Lib.hid (heap_alloc_new wr (.cells #[.int .i64 x.coin, .slice A' n' c'] 98))
              have HOW := Lib.hid (own_below hown ((Below.refl wr.heap.size wr).alloc (Nat.le_refl _) (.cells #[.int .i64 x.coin, .slice A' n' c'] 98)))
              have HOB := Lib.hid hob
              have i1 : (0 : Int) ≤ (k : Int) := by omega
              have i2 : (k : Int) < (n2 : Int) := by omega
              clear hx hrk hFb hW hown hob hb
              by_cases hp : x.coin < 1
              · have e : outBad x = 3 := by simp only [outBad]; rw [if_pos hp]
                rw [e, if_pos (by decide)] at hs'
                have HS2 := Lib.hid (R2.out HS.out 3 hs' (by decide))
                clear e hs'
                go_wp2_with fail
                go_ret
                exact ⟨ret_int HS2.out, HW.out⟩
              · have e : outBad x = opsCheck x.lock := by simp only [outBad]; rw [if_neg hp]
                rw [e] at hs'
                have HS2 := Lib.hid hs'
                clear e hs'
                go_wp2_with fail
                generalize hW1 : wr.alloc (.cells #[.int .i64 x.coin, .slice A' n' c'] 98) = W1 at HW HRK HNW HOW ⊢
                have hsW : wr.heap.size < W1.heap.size := by rw [← hW1]; simp
                clear hW1
                refine (lockCheck_any _ _ _ _ _ _ HRK.out (fun b hb => hb)).mono ?_
                rintro e w2 ⟨rfl, hb2⟩
                have HW2 := Lib.hid (HW.out.trans (hb2.mono HW.out.size))
                have HNW2 := Lib.hid (blk_below HNW.out hb2 hsW)
                have HOW2 := Lib.hid (own_below HOW.out hb2)
                have hz2' := hb2.size
                clear hb2 HW HRK HNW HOW
                by_cases he : opsCheck x.lock = 0
                · rw [he]
                  have hs := HS2.out
                  rw [he, if_neg (by decide)] at hs
                  have HS3 := Lib.hid hs
                  clear HS2 he hs
                  have hcx := blk_cell (i := 0) HNW2.out
                  go_wp2_with (at_builtin; refine wpList_append_own_at _ rfl _ _ 24 rfl (w.heap.size + 1) 3 i0 zv 1 8 Try.underlying24 hi hz0 hz1 hz2 hz3 (by omega) _ k (((outs.take k).map Out.coin).map (Value.int .i64)) rfl (HOW2.out.alloc _) ⟨w2.heap.size, 0, none⟩ 1 1 [.int .i64 x.coin] rfl rfl (cell_one_new _ _ _) (by intro u hu; simp at hu; subst hu; rfl) (by unfold maxLen; omega) (by omega) (by simp; omega) ?_; intro v5 w5 hown5 hgr5 _ hob5)
                  have hgr : (w2.alloc (.cells #[.int .i64 x.coin] 3)).grownBy w5 u6.ownBlock := hgr5
                  have hge := fun k hk => own_ge HOW2.out (k := k) hk
                  go_roundw
                  case measure => simp [intOf]; omega
                  case rel =>
                    have hs5 := hgr.size
                    simp only [World.size_alloc] at hs5
                    refine ⟨k + 1, by omega, by go_num, (HW2.out.alloc HW2.out.size _).grown hgr (by have := HW2.out.size; simp; omega) (fun k hk => by have := hge _ hk; omega), by omega, by rw [HT.out, List.map_append, List.map_append]; exact hown5, ?_, HS3.out⟩
                    intro y hy
                    rw [HT.out] at hy
                    rcases List.mem_append.1 hy with h | h
                    · exact HOB.out y h
                    · simp at h; subst h; exact xi
                · have hs := HS2.out
                  rw [if_pos he] at hs
                  have hd : (opsCheck x.lock != 0) = true := by simpa using he
                  have HS3 := Lib.hid (R2.out HS.out _ hs he)
                  clear HS2 he hs
                  go_wp2_with fail
                  go_ret
                  exact ⟨ret_int HS3.out, HW2.out⟩
            · obtain rfl : n2 = k := by omega
              rw [List.drop_eq_nil_of_le (by rw [L2.out]; omega), outsGo] at hs'
              have HS2 := Lib.hid (R3.out HS.out hs'.symm)
              rw [List.take_of_length_le (by rw [L2.out]; omega)] at hown hob
              have HBq := Lib.hid hb
              obtain ⟨A', c', ev, hri⟩ := Rds.of_own_int hown (fun x hx => by obtain ⟨y, hy, rfl⟩ := List.mem_map.1 hx; exact hob y hy)
              subst ev
              have HRI := Lib.hid hri
              clear hs' hown hob hb hri
              go_wp2_with fail
              refine (sum_any _ _ _ _ _ _ HRI.out).mono ?_
              rintro e w2 ⟨rfl, rfl⟩
              go_wp2_with fail
              go_ret
              exact ⟨ret_int HS2.out, HBq.out⟩)
  · have e : txCheck ⟨th, ins, outs⟩ = txHead ⟨th, ins, outs⟩ := by simp only [txCheck]; rw [if_pos h0]
    rw [e]
    clear e
    by_cases a1 : 6 < n1 ∨ 6 < n2
    · have e : txHead ⟨th, ins, outs⟩ = 2 := by simp only [txHead]; rw [if_pos (by rw [hl1, hl2]; exact a1)]
      rw [e]
      clear e h0 hl1 hl2
      by_cases a : 6 < n1
      · clear a1
        go_enter Try.func90, Try.ntmps90
        go_wp2
        go_ret
        exact ⟨rfl, HB.out⟩
      · have a2 : 6 < n2 := by omega
        clear a1
        go_enter Try.func90, Try.ntmps90
        go_wp2
        go_ret
        exact ⟨rfl, HB.out⟩
    · by_cases a2 : n2 = 0
      · have e : txHead ⟨th, ins, outs⟩ = 4 := by simp only [txHead]; rw [if_neg (by rw [hl1, hl2]; exact a1), if_pos (by rw [hl2]; exact a2)]
        rw [e]
        subst a2
        clear e h0 hl1 hl2
        go_enter Try.func90, Try.ntmps90
        go_wp2
        go_ret
        exact ⟨rfl, HB.out⟩
      · have a3 : (n1 = 0 ∧ (th < 1 ∨ 1000 < th)) ∨ (0 < n1 ∧ th ≠ 0) := by
          apply Classical.byContradiction
          intro a3
          exact h0 (by simp only [txHead]; rw [if_neg (by rw [hl1, hl2]; exact a1), if_neg (by rw [hl2]; exact a2), if_neg (by rw [hl1]; exact a3)])
        have e : txHead ⟨th, ins, outs⟩ = 3 := by simp only [txHead]; rw [if_neg (by rw [hl1, hl2]; exact a1), if_neg (by rw [hl2]; exact a2), if_pos (by rw [hl1]; exact a3)]
        rw [e]
        have a4 : 0 < n2 := by omega
        clear e h0 hl1 hl2 a2
        rcases a3 with ⟨rfl, a3⟩ | ⟨a3, a5⟩
        · rcases Classical.em (th < 1) with a5 | a5
          · clear a3
            go_enter Try.func90, Try.ntmps90
            go_wp2
            go_ret
            exact ⟨rfl, HB.out⟩
          · have a6 : 1000 < th := by omega
            clear a3
            go_enter Try.func90, Try.ntmps90
            go_wp2
            go_ret
            exact ⟨rfl, HB.out⟩
        · have a6 : (th != 0) = true := by simpa using a5
          clear a5
          go_enter Try.func90, Try.ntmps90
          go_wp2
          go_ret
          exact ⟨rfl, HB.out⟩
end Go.Proofs.Ytnnbnjanekibpaa
namespace Go.Proofs.Ytnnbnjanekibpaa
open Go.RowKit
set_option linter.unusedVariables false
set_option maxRecDepth 100000
theorem Rds.tx {w : World} {F : Nat → Prop} {xs : List Tx} {A : Option Addr} {n c k : Nat} (h : Rds shTx w F xs A n c) (hk : k < n) :
    ∃ b off x A1 n1 c1 A2 n2 c2, A = some ⟨b, off, none⟩ ∧ F b ∧ xs[k]? = some x ∧ (w.cell? ⟨b, off + k * 3, none⟩ = some (.int .i64 x.height) ∧ w.cell? ⟨b, off + k * 3 + 1, none⟩ = some (.slice A1 n1 c1) ∧ w.cell? ⟨b, off + k * 3 + 2, none⟩ = some (.slice A2 n2 c2)) ∧ shTx.rep w F x [.int .i64 x.height, .slice A1 n1 c1, .slice A2 n2 c2] ∧ I64 x.height ∧ x.ins.length = n1 := by
  obtain ⟨b, off, x, cs, e, hF, hx, hr, hc⟩ := h.at_ hk
  have hr' := hr
  obtain ⟨A1, n1, c1, A2, n2, c2, rfl, h1, h2, h3⟩ := rep_tx hr
  exact ⟨b, off, x, A1, n1, c1, A2, n2, c2, e, hF, hx, ⟨by simpa [shTx, shS3, shS2, shInt, shSlice] using hc 0 _ rfl, by simpa [shTx, shS3, shS2, shInt, shSlice] using hc 1 _ rfl, by simpa [shTx, shS3, shS2, shInt, shSlice] using hc 2 _ rfl⟩, hr', h1, h2.1⟩
def blkRange (b : Block) : Prop := b.parent < 0 ∨ 120 < b.parent ∨ b.height < 1 ∨ 1000 < b.height ∨ b.work < 1 ∨ 1000 < b.work ∨ b.nonce < 0 ∨ 1000000000 < b.nonce
instance (b : Block) : Decidable (blkRange b) := by unfold blkRange; infer_instance
def txOff (h : Int) (t : Tx) (i : Nat) : Prop := ¬ (t.ins.length = 0 ↔ i = 0) ∨ (i = 0 ∧ t.height ≠ h)
instance (h : Int) (t : Tx) (i : Nat) : Decidable (txOff h t i) := by unfold txOff; infer_instance
end Go.Proofs.Ytnnbnjanekibpaa
namespace Go.Proofs.Ytnnbnjanekibpaa
open Go.RowKit
theorem sl_coin : SliceT Try.prog 77 100 6 64 := .mk Try.underlying77 (by kernel_rfl)
end Go.Proofs.Ytnnbnjanekibpaa
namespace Go.Proofs.Ytnnbnjanekibpaa
open Go.RowKit Go.ChangeShapes Go.WideShapes
set_option linter.unusedVariables false
theorem cut_at {α : Type} (l : List α) (k m : Nat) : (l.drop k).take m ++ l.drop (k + m) = l.drop k := by rw [← List.drop_drop, List.take_append_drop]
def Opens {α : Type} (P : Program) (S : Sh α) (t : TypeId) : Prop :=
  ∀ {H : Type} {enc : TypeId × Value → H} {w : World} {base : Nat} {spare : Nat → Bool} {held : Bool} {fuel : Nat} {cs : List Value} {x : DataW H × List MemPlace},
    DataW.trod enc P w base spare held fuel t cs = some x → ∃ a, S.rep w (Lt w.heap.size) a cs
section
variable {P : Program} {t : TypeId}
theorem opens_int (ht : P.underlying t = some (.int .i64)) : Opens P shInt t := by
  intro H enc w base spare held fuel cs x h
  obtain ⟨n, rfl, _, hw⟩ := DataW.trod_int ht h
  exact ⟨n, rfl, by simp [Lit.wf, IntKind.min, IntKind.max, IntKind.signed, IntKind.bits] at hw; omega⟩
theorem opens_bool (ht : P.underlying t = some .bool) : Opens P shBool t := by
  intro H enc w base spare held fuel cs x h
  obtain ⟨n, rfl, _⟩ := DataW.trod_bool ht h
  exact ⟨n, rfl⟩
theorem opens_str (ht : P.underlying t = some .string) : Opens P shStr t := by
  intro H enc w base spare held fuel cs x h
  obtain ⟨s, rfl, _, hw⟩ := DataW.trod_string ht h
  exact ⟨s.data.toList, by simp, by unfold maxLen at hw; simpa using hw⟩
theorem opens_slice {α : Type} {S : Sh α} {e : TypeId} (ht : P.underlying t = some (.slice e)) (hs : P.cellsOf e = S.size) (h0 : 0 < S.size) (he : Opens P S e) : Opens P (shSlice S) t := by
  intro H enc w base spare held fuel cs x h
  rcases Go.Deep.open_slice ht h with ⟨rfl, _⟩ | ⟨a, len, cap, m, n, D, Pl, rfl, _, hl, hm, hmm, -, hi⟩
  · exact ⟨[], _, _, _, rfl, Rds.nil _ _ _⟩
  · have hlm : len ≤ m := by rw [hmm]; split <;> omega
    have key : ∀ i, i < len → ∃ y : α × List Value, S.rep w (Lt w.heap.size) y.1 y.2 ∧ ∀ j, j < S.size → w.cell? (a.add (i * S.size + j)) = y.2[j]? := by
      intro i hlt
      obtain ⟨cs', hc, ht'⟩ := hi i (by omega)
      obtain ⟨y, hy⟩ := he ht'
      obtain ⟨_, hcl, hat⟩ := World.cells?_some hc
      refine ⟨(y, cs'), hy, fun j hj => ?_⟩
      have := hat j (by omega)
      rw [hs, Go.Deep.add_add] at this
      exact this
    have key2 : ∃ ys : List (α × List Value), ys.length = len ∧ ∀ i (hi : i < ys.length), S.rep w (Lt w.heap.size) ys[i].1 ys[i].2 ∧ ∀ j, j < S.size → w.cell? (a.add (i * S.size + j)) = ys[i].2[j]? := by
      clear hi hmm hlm hl h
      induction len with
      | zero => exact ⟨[], rfl, fun i hi => by simp at hi⟩
      | succ l ih =>
        obtain ⟨ys, hy1, hy2⟩ := ih (fun i hi => key i (by omega))
        obtain ⟨y, hy⟩ := key l (by omega)
        refine ⟨ys ++ [y], by simp [hy1], fun i hi => ?_⟩
        by_cases h' : i < ys.length
        · rw [List.getElem_append_left h']; exact hy2 i h'
        · have : i = l := by simp at hi; omega
          subst this
          rw [List.getElem_append_right (by omega)]
          simpa [hy1] using hy
    obtain ⟨ys, hy1, hy2⟩ := key2
    refine ⟨ys.map (·.1), _, _, _, rfl, by simp [hy1], hl, by unfold maxLen at hm; omega, fun hn => ?_⟩
    have c0 := (hy2 0 (by omega)).2 0 h0
    have hl0 := S.len (hy2 0 (by omega)).1
    have hspot : a.spot = none := by
      have : (ys[0]'(by omega)).2[0]? = some ((ys[0]'(by omega)).2[0]'(by omega)) := List.getElem?_eq_getElem (by omega)
      rw [this] at c0
      have := World.cell?_spot c0
      simpa [Addr.add] using this
    obtain ⟨b, off, spot⟩ := a
    simp only at hspot
    subst hspot
    have hadd : ∀ k, (Addr.mk b off none).add k = ⟨b, off + k, none⟩ := by
      intro k; unfold Addr.add; split <;> simp_all
    refine ⟨b, off, rfl, ?_, fun i hi => ?_⟩
    · show b < w.heap.size
      rcases Nat.lt_or_ge b w.heap.size with h' | h'
      · exact h'
      · have e : w.cell? ((Addr.mk b off none).add (0 * S.size + 0)) = none := by
          rw [hadd]; simp [World.cell?, Array.getElem?_eq_none h']
        rw [e] at c0
        have : (ys[0]'(by omega)).2[0]? = some ((ys[0]'(by omega)).2[0]'(by omega)) := List.getElem?_eq_getElem (by omega)
        rw [this] at c0; cases c0
    · have hi' : i < ys.length := by simpa using hi
      refine ⟨ys[i].2, by simpa using (hy2 i hi').1, fun j v hj => ?_⟩
      have hjl : j < S.size := by
        have := S.len (hy2 i hi').1
        have := (List.getElem?_eq_some_iff.1 hj).1
        omega
      have := (hy2 i hi').2 j hjl
      rw [hadd, hj] at this
      rw [← this, Nat.add_assoc]
theorem opens_S2 {α β τ : Type} {S0 : Sh α} {S1 : Sh β} {f : α → β → τ} {f0 f1 : Field} (ht : P.underlying t = some (.struct #[f0, f1])) (hc : P.cellsOf t = S0.size + S1.size)
    (o0 : f0.offset = 0) (o1 : f1.offset = S0.size) (c0 : P.cellsOf f0.type = S0.size) (c1 : P.cellsOf f1.type = S1.size) (h0 : Opens P S0 f0.type) (h1 : Opens P S1 f1.type) : Opens P (shS2 S0 S1 f) t := by
  intro H enc w base spare held fuel cs x h
  obtain ⟨xs, n, _, _, hl, hxl, hf⟩ := DataW.trod_struct ht h
  match xs, hxl with
  | [x0, x1], _ =>
    have g0 := hf 0 f0 rfl
    have g1 := hf 1 f1 rfl
    rw [o0, c0] at g0
    rw [o1, c1] at g1
    obtain ⟨a, ha⟩ := h0 g0
    obtain ⟨b, hb⟩ := h1 g1
    refine ⟨f a b, a, b, _, _, rfl, ?_, ha, hb⟩
    rw [List.drop_zero, List.take_of_length_le (l := cs.drop S0.size) (by simp; omega), List.take_append_drop]
theorem opens_S1 {α τ : Type} {S0 : Sh α} {f : α → τ} {f0 : Field} (ht : P.underlying t = some (.struct #[f0])) (hc : P.cellsOf t = S0.size)
    (o0 : f0.offset = 0) (c0 : P.cellsOf f0.type = S0.size) (h0 : Opens P S0 f0.type) : Opens P (shS1 S0 f) t := by
  intro H enc w base spare held fuel cs x h
  obtain ⟨xs, n, _, _, hl, hxl, hf⟩ := DataW.trod_struct ht h
  match xs, hxl with
  | [x0], _ =>
    have g0 := hf 0 f0 rfl
    rw [o0, c0] at g0
    obtain ⟨a, ha⟩ := h0 g0
    refine ⟨f a, a, rfl, ?_⟩
    rwa [List.drop_zero, List.take_of_length_le (by omega)] at ha
theorem opens_S3 {α β γ τ : Type} {S0 : Sh α} {S1 : Sh β} {S2 : Sh γ} {f : α → β → γ → τ} {f0 f1 f2 : Field} (ht : P.underlying t = some (.struct #[f0, f1, f2])) (hc : P.cellsOf t = S0.size + (S1.size + S2.size))
    (o0 : f0.offset = 0) (o1 : f1.offset = S0.size) (o2 : f2.offset = S0.size + S1.size) (c0 : P.cellsOf f0.type = S0.size) (c1 : P.cellsOf f1.type = S1.size) (c2 : P.cellsOf f2.type = S2.size)
    (h0 : Opens P S0 f0.type) (h1 : Opens P S1 f1.type) (h2 : Opens P S2 f2.type) : Opens P (shS3 S0 S1 S2 f) t := by
  intro H enc w base spare held fuel cs x h
  obtain ⟨xs, n, _, _, hl, hxl, hf⟩ := DataW.trod_struct ht h
  match xs, hxl with
  | [x0, x1, x2], _ =>
    have g0 := hf 0 f0 rfl
    have g1 := hf 1 f1 rfl
    have g2 := hf 2 f2 rfl
    rw [o0, c0] at g0
    rw [o1, c1] at g1
    rw [o2, c2] at g2
    obtain ⟨a, ha⟩ := h0 g0
    obtain ⟨b, hb⟩ := h1 g1
    obtain ⟨c, hc'⟩ := h2 g2
    refine ⟨f a b c, a, (b, c), _, _, rfl, ?_, ha, b, c, _, _, rfl, rfl, hb, hc'⟩
    rw [List.drop_zero, List.take_of_length_le (l := cs.drop (S0.size + S1.size)) (by simp; omega), ← List.drop_drop, List.take_append_drop, List.take_append_drop]
theorem opens_S4 {α β γ δ τ : Type} {S0 : Sh α} {S1 : Sh β} {S2 : Sh γ} {S3 : Sh δ} {f : α → β → γ → δ → τ} {f0 f1 f2 f3 : Field} (ht : P.underlying t = some (.struct #[f0, f1, f2, f3])) (hc : P.cellsOf t = S0.size + (S1.size + (S2.size + S3.size)))
    (o0 : f0.offset = 0) (o1 : f1.offset = S0.size) (o2 : f2.offset = S0.size + S1.size) (o3 : f3.offset = S0.size + S1.size + S2.size) (c0 : P.cellsOf f0.type = S0.size) (c1 : P.cellsOf f1.type = S1.size) (c2 : P.cellsOf f2.type = S2.size) (c3 : P.cellsOf f3.type = S3.size)
    (h0 : Opens P S0 f0.type) (h1 : Opens P S1 f1.type) (h2 : Opens P S2 f2.type) (h3 : Opens P S3 f3.type) : Opens P (shS4 S0 S1 S2 S3 f) t := by
  intro H enc w base spare held fuel cs x h
  obtain ⟨xs, n, _, _, hl, hxl, hf⟩ := DataW.trod_struct ht h
  match xs, hxl with
  | [x0, x1, x2, x3], _ =>
    have g0 := hf 0 f0 rfl
    have g1 := hf 1 f1 rfl
    have g2 := hf 2 f2 rfl
    have g3 := hf 3 f3 rfl
    rw [o0, c0] at g0
    rw [o1, c1] at g1
    rw [o2, c2] at g2
    rw [o3, c3] at g3
    obtain ⟨a, ha⟩ := h0 g0
    obtain ⟨b, hb⟩ := h1 g1
    obtain ⟨c, hc'⟩ := h2 g2
    obtain ⟨d, hd⟩ := h3 g3
    refine ⟨f a b c d, a, (b, c, d), _, _, rfl, ?_, ha, b, (c, d), _, _, rfl, rfl, hb, c, d, _, _, rfl, rfl, hc', hd⟩
    rw [List.drop_zero, List.take_of_length_le (l := cs.drop (S0.size + S1.size + S2.size)) (by simp; omega), cut_at, cut_at, List.take_append_drop]
theorem opens_S5 {α β γ δ ε τ : Type} {S0 : Sh α} {S1 : Sh β} {S2 : Sh γ} {S3 : Sh δ} {S4 : Sh ε} {f : α → β → γ → δ → ε → τ} {f0 f1 f2 f3 f4 : Field} (ht : P.underlying t = some (.struct #[f0, f1, f2, f3, f4]))
    (hc : P.cellsOf t = S0.size + (S1.size + (S2.size + (S3.size + S4.size))))
    (o0 : f0.offset = 0) (o1 : f1.offset = S0.size) (o2 : f2.offset = S0.size + S1.size) (o3 : f3.offset = S0.size + S1.size + S2.size) (o4 : f4.offset = S0.size + S1.size + S2.size + S3.size)
    (c0 : P.cellsOf f0.type = S0.size) (c1 : P.cellsOf f1.type = S1.size) (c2 : P.cellsOf f2.type = S2.size) (c3 : P.cellsOf f3.type = S3.size) (c4 : P.cellsOf f4.type = S4.size)
    (h0 : Opens P S0 f0.type) (h1 : Opens P S1 f1.type) (h2 : Opens P S2 f2.type) (h3 : Opens P S3 f3.type) (h4 : Opens P S4 f4.type) : Opens P (shS5 S0 S1 S2 S3 S4 f) t := by
  intro H enc w base spare held fuel cs x h
  obtain ⟨xs, n, _, _, hl, hxl, hf⟩ := DataW.trod_struct ht h
  match xs, hxl with
  | [x0, x1, x2, x3, x4], _ =>
    have g0 := hf 0 f0 rfl
    have g1 := hf 1 f1 rfl
    have g2 := hf 2 f2 rfl
    have g3 := hf 3 f3 rfl
    have g4 := hf 4 f4 rfl
    rw [o0, c0] at g0
    rw [o1, c1] at g1
    rw [o2, c2] at g2
    rw [o3, c3] at g3
    rw [o4, c4] at g4
    obtain ⟨a, ha⟩ := h0 g0
    obtain ⟨b, hb⟩ := h1 g1
    obtain ⟨c, hc'⟩ := h2 g2
    obtain ⟨d, hd⟩ := h3 g3
    obtain ⟨e, he⟩ := h4 g4
    refine ⟨f a b c d e, a, (b, c, d, e), _, _, rfl, ?_, ha, b, (c, d, e), _, _, rfl, rfl, hb, c, (d, e), _, _, rfl, rfl, hc', d, e, _, _, rfl, rfl, hd, he⟩
    rw [List.drop_zero, List.take_of_length_le (l := cs.drop (S0.size + S1.size + S2.size + S3.size)) (by simp; omega), cut_at, cut_at, cut_at, List.take_append_drop]
end
theorem op_int : Opens Try.prog shInt 3 := opens_int Try.underlying3
theorem op_bool : Opens Try.prog shBool 4 := opens_bool Try.underlying4
theorem op_str : Opens Try.prog shStr 9 := opens_str Try.underlying9
theorem op_ints : Opens Try.prog (shSlice shInt) 24 := opens_slice Try.underlying24 (by kernel_rfl) (by decide) op_int
theorem op_strs : Opens Try.prog (shSlice shStr) 37 := opens_slice Try.underlying37 (by kernel_rfl) (by decide) op_str
theorem op_book : Opens Try.prog shBook 39 := opens_S1 Try.underlying39 (by kernel_rfl) rfl (by kernel_rfl) op_strs
theorem op_op : Opens Try.prog shOp 108 := opens_S2 Try.underlying108 (by kernel_rfl) rfl rfl (by kernel_rfl) (by kernel_rfl) op_int op_int
theorem op_ops : Opens Try.prog (shSlice shOp) 89 := opens_slice Try.underlying89 (by kernel_rfl) (by decide) op_op
theorem op_point : Opens Try.prog shPoint 88 := opens_S2 Try.underlying88 (by kernel_rfl) rfl rfl (by kernel_rfl) (by kernel_rfl) op_int op_int
theorem op_in : Opens Try.prog shIn 91 := opens_S2 Try.underlying91 (by kernel_rfl) rfl rfl (by kernel_rfl) (by kernel_rfl) op_point op_ops
theorem op_ins : Opens Try.prog (shSlice shIn) 78 := opens_slice Try.underlying78 (by kernel_rfl) (by decide) op_in
theorem op_out : Opens Try.prog shOut 98 := opens_S2 Try.underlying98 (by kernel_rfl) rfl rfl (by kernel_rfl) (by kernel_rfl) op_int op_ops
theorem op_outs : Opens Try.prog (shSlice shOut) 79 := opens_slice Try.underlying79 (by kernel_rfl) (by decide) op_out
theorem op_tx : Opens Try.prog shTx 81 := opens_S3 Try.underlying81 (by kernel_rfl) rfl rfl rfl (by kernel_rfl) (by kernel_rfl) (by kernel_rfl) op_int op_ins op_outs
theorem op_txs : Opens Try.prog (shSlice shTx) 64 := opens_slice Try.underlying64 (by kernel_rfl) (by decide) op_tx
theorem op_coin : Opens Try.prog shCoin 100 := opens_S4 Try.underlying100 (by kernel_rfl) rfl rfl rfl rfl (by kernel_rfl) (by kernel_rfl) (by kernel_rfl) (by kernel_rfl) op_point op_out op_int op_bool
theorem op_coins : Opens Try.prog (shSlice shCoin) 77 := opens_slice Try.underlying77 (by kernel_rfl) (by decide) op_coin
theorem op_undo : Opens Try.prog shUndo 83 := opens_S1 Try.underlying83 (by kernel_rfl) rfl (by kernel_rfl) op_coins
theorem op_block : Opens Try.prog shBlock 66 := opens_S5 Try.underlying66 (by kernel_rfl) rfl rfl rfl rfl rfl (by kernel_rfl) (by kernel_rfl) (by kernel_rfl) (by kernel_rfl) (by kernel_rfl) op_int op_int op_int op_int op_txs
theorem op_blocks : Opens Try.prog (shSlice shBlock) 54 := opens_slice Try.underlying54 (by kernel_rfl) (by decide) op_block
theorem op_tree : Opens Try.prog shTree 56 := opens_S2 Try.underlying56 (by kernel_rfl) rfl rfl (by kernel_rfl) (by kernel_rfl) op_ints op_blocks
end Go.Proofs.Ytnnbnjanekibpaa
