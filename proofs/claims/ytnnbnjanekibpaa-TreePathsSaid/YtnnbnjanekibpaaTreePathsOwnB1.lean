/- Own texts, put together by wip/bundle.py: Base, Data, Own, Clones, Mk, Sep, Draw, OwnSet, Row, Types, Slices, Slices2, Book, Book2, Lock, Coin, Tx, Block, Append, Concat, Book3, BookLaw, Tree, Tree2, TreeLaw, Reverse, Path, Path2, Fork, ForkLaw, Draw2, Row2. -/
import Derived.WalkKit
import Derived.WalkLawsBesides
import Derived.BigQuiet
import Derived.Deep.QuietTactic
import Derived.Deep.DeepFit
import Derived.Deep.LoopGhost
import Derived.Lib.Hide
import Derived.Test.YtnnbnjanekibpaaProg
import Derived.Maps.AppendAt
import Derived.Lib.SliceRun
import Derived.Deep.MidRow
import Derived.Great.BuildSlice
import Derived.OwnWalk
import Derived.BigFrame
import Derived.Deep.Quiet
import Derived.OrdersHeld
import Derived.KernelRfl
import Derived.Maps.OwnOps
import Derived.Maps.Views
import Derived.Lib.AppendZerosOnto
import Derived.Test.YtnnbnjanekibpaaShelf
namespace Go.Proofs.Ytnnbnjanekibpaa
open Go.RowKit
set_option linter.unusedVariables false
theorem ret_int {k : IntKind} {a b : Int} (h : a = b) : Ending.returned (.int k a) = .returned (.int k b) := by rw [h]
theorem ret_bool {a b : Bool} (h : a = b) : Ending.returned (.bool a) = .returned (.bool b) := by rw [h]
theorem ret_int2 {k l : IntKind} {a b c d : Int} (h : a = b) (h' : c = d) : Ending.returned (.tuple #[.int k a, .int l c]) = .returned (.tuple #[.int k b, .int l d]) := by rw [h, h']
theorem val_int {k : IntKind} {a b : Int} (h : a = b) : Value.int k a = .int k b := by rw [h]
def Lt (B : Nat) : Nat → Prop := fun b => b < B
def Agree (F : Nat → Prop) (w w' : World) : Prop := ∀ b, F b → w'.heap[b]? = w.heap[b]?
theorem Agree.cell {F : Nat → Prop} {w w' : World} (h : Agree F w w') {p : Addr} (hp : F p.block) : w'.cell? p = w.cell? p := World.cell?_of_block (w := w) (h p.block hp)
theorem Agree.below {B : Nat} {w w' : World} (h : Below B w w') : Agree (Lt B) w w' := fun b hb => h.block b hb
theorem Agree.mono {F F' : Nat → Prop} {w w' : World} (h : Agree F w w') (hF : ∀ b, F' b → F b) : Agree F' w w' := fun b hb => h b (hF b hb)
theorem Agree.trans {F : Nat → Prop} {w w' w'' : World} (h : Agree F w w') (h' : Agree F w' w'') : Agree F w w'' := fun b hb => (h' b hb).trans (h b hb)
structure Sh (α : Type) where
  size : Nat
  rep : World → (Nat → Prop) → α → List Value → Prop
  len : ∀ {w F x cs}, rep w F x cs → cs.length = size
  keep : ∀ {w w' : World} {F x cs}, Agree F w w' → rep w F x cs → rep w' F x cs
  more : ∀ {w F F' x cs}, (∀ b, F b → F' b) → rep w F x cs → rep w F' x cs
def Rds {α : Type} (S : Sh α) (w : World) (F : Nat → Prop) (xs : List α) (A : Option Addr) (n c : Nat) : Prop :=
  xs.length = n ∧ n ≤ c ∧ c ≤ 9223372036854775807 ∧ (0 < n → ∃ b off, A = some ⟨b, off, none⟩ ∧ F b ∧
    ∀ i (hi : i < xs.length), ∃ cs, S.rep w F xs[i] cs ∧ ∀ j v, cs[j]? = some v → w.cell? ⟨b, off + i * S.size + j, none⟩ = some v)
theorem Rds.keep {α : Type} {S : Sh α} {w w' : World} {F : Nat → Prop} {xs : List α} {A : Option Addr} {n c : Nat} (ha : Agree F w w') (h : Rds S w F xs A n c) : Rds S w' F xs A n c :=
  ⟨h.1, h.2.1, h.2.2.1, fun hn => by
    obtain ⟨b, off, e, hF, hc⟩ := h.2.2.2 hn
    refine ⟨b, off, e, hF, fun i hi => ?_⟩
    obtain ⟨cs, hr, hv⟩ := hc i hi
    exact ⟨cs, S.keep ha hr, fun j v hj => (ha.cell (p := ⟨b, _, none⟩) hF).trans (hv j v hj)⟩⟩
theorem Rds.more {α : Type} {S : Sh α} {w : World} {F F' : Nat → Prop} {xs : List α} {A : Option Addr} {n c : Nat} (hF' : ∀ b, F b → F' b) (h : Rds S w F xs A n c) : Rds S w F' xs A n c :=
  ⟨h.1, h.2.1, h.2.2.1, fun hn => by
    obtain ⟨b, off, e, hF, hc⟩ := h.2.2.2 hn
    refine ⟨b, off, e, hF' b hF, fun i hi => ?_⟩
    obtain ⟨cs, hr, hv⟩ := hc i hi
    exact ⟨cs, S.more hF' hr, hv⟩⟩
theorem Rds.take {α : Type} {S : Sh α} {w : World} {F : Nat → Prop} {xs : List α} {A : Option Addr} {n c k : Nat} (h : Rds S w F xs A n c) (hk : k ≤ n) : Rds S w F (xs.take k) A k c := by
  obtain ⟨h1, h2, h3, h4⟩ := h
  refine ⟨by rw [List.length_take, h1]; omega, by omega, h3, fun hn => ?_⟩
  obtain ⟨b, off, e, hF, hc⟩ := h4 (by omega)
  refine ⟨b, off, e, hF, fun i hi => ?_⟩
  rw [List.length_take] at hi
  obtain ⟨cs, hr, hv⟩ := hc i (by omega)
  exact ⟨cs, by rw [List.getElem_take]; exact hr, hv⟩
theorem Rds.nil {α : Type} (S : Sh α) (w : World) (F : Nat → Prop) : Rds S w F [] none 0 0 := ⟨rfl, by omega, by omega, fun h => by omega⟩
theorem Rds.at_ {α : Type} {S : Sh α} {w : World} {F : Nat → Prop} {xs : List α} {A : Option Addr} {n c k : Nat} (h : Rds S w F xs A n c) (hk : k < n) :
    ∃ b off x cs, A = some ⟨b, off, none⟩ ∧ F b ∧ xs[k]? = some x ∧ S.rep w F x cs ∧ ∀ j v, cs[j]? = some v → w.cell? ⟨b, off + k * S.size + j, none⟩ = some v := by
  obtain ⟨b, off, e, hF, hc⟩ := h.2.2.2 (by omega)
  have hl : k < xs.length := by have := h.1; omega
  obtain ⟨cs, hr, hv⟩ := hc k hl
  exact ⟨b, off, xs[k], cs, e, hF, List.getElem?_eq_getElem hl, hr, hv⟩
def shSlice {α : Type} (S : Sh α) : Sh (List α) := {
  size := 1
  rep w F xs cs := ∃ A n c, cs = [.slice A n c] ∧ Rds S w F xs A n c
  len := by rintro w F x cs ⟨A, n, c, rfl, _⟩; rfl
  keep := by rintro w w' F x cs ha ⟨A, n, c, rfl, h⟩; exact ⟨A, n, c, rfl, h.keep ha⟩
  more := by rintro w F F' x cs hF ⟨A, n, c, rfl, h⟩; exact ⟨A, n, c, rfl, h.more hF⟩ }
def I64 (n : Int) : Prop := -9223372036854775808 ≤ n ∧ n ≤ 9223372036854775807
def shInt : Sh Int := {
  size := 1
  rep _ _ n cs := cs = [.int .i64 n] ∧ -9223372036854775808 ≤ n ∧ n ≤ 9223372036854775807
  len := by rintro w F x cs ⟨rfl, _⟩; rfl
  keep := fun _ h => h
  more := fun _ h => h }
def shBool : Sh Bool := {
  size := 1
  rep _ _ b cs := cs = [.bool b]
  len := by rintro w F x cs rfl; rfl
  keep := fun _ h => h
  more := fun _ h => h }
def shStr : Sh (List UInt8) := {
  size := 1
  rep _ _ s cs := cs = [.string ⟨s.toArray⟩] ∧ s.length ≤ 9223372036854775807
  len := by rintro w F x cs ⟨rfl, _⟩; rfl
  keep := fun _ h => h
  more := fun _ h => h }
theorem Rds.int {w : World} {F : Nat → Prop} {xs : List Int} {A : Option Addr} {n c k : Nat} (h : Rds shInt w F xs A n c) (hk : k < n) :
    ∃ b off x, A = some ⟨b, off, none⟩ ∧ F b ∧ xs[k]? = some x ∧ w.cell? ⟨b, off + k, none⟩ = some (.int .i64 x) ∧ -9223372036854775808 ≤ x ∧ x ≤ 9223372036854775807 := by
  obtain ⟨b, off, x, cs, e, hF, hx, ⟨rfl, h1, h2⟩, hc⟩ := h.at_ hk
  exact ⟨b, off, x, e, hF, hx, by simpa [shInt] using hc 0 _ rfl, h1, h2⟩
theorem Rds.str {w : World} {F : Nat → Prop} {xs : List (List UInt8)} {A : Option Addr} {n c k : Nat} (h : Rds shStr w F xs A n c) (hk : k < n) :
    ∃ b off x, A = some ⟨b, off, none⟩ ∧ F b ∧ xs[k]? = some x ∧ w.cell? ⟨b, off + k, none⟩ = some (.string ⟨x.toArray⟩) ∧ x.length ≤ 9223372036854775807 := by
  obtain ⟨b, off, x, cs, e, hF, hx, ⟨rfl, h1⟩, hc⟩ := h.at_ hk
  exact ⟨b, off, x, e, hF, hx, by simpa [shStr] using hc 0 _ rfl, h1⟩
theorem Rds.of_own_int {w : World} {base e n : Nat} {v : Value} {xs : List Int} (h : w.ownsRow base e 1 v n (xs.map (Value.int .i64))) (hb : ∀ x ∈ xs, -9223372036854775808 ≤ x ∧ x ≤ 9223372036854775807) :
    ∃ A c, v = .slice A n c ∧ Rds shInt w (fun b => base ≤ b ∧ b < w.heap.size) xs A n c := by
  obtain ⟨hl, h2⟩ := h
  simp at hl
  rcases h2 with ⟨rfl, rfl⟩ | ⟨g, cap, cur, rfl, hg, hh, hnc, hcm, hcs, ht⟩
  · refine ⟨none, 0, rfl, ?_⟩
    obtain rfl : xs = [] := List.eq_nil_of_length_eq_zero hl
    exact Rds.nil _ _ _
  · refine ⟨_, cap, rfl, hl, hnc, by unfold maxLen at hcm; omega, fun hn => ⟨g, 0, rfl, ⟨hg, ?_⟩, fun i hi => ⟨_, ⟨rfl, hb _ (List.getElem_mem hi)⟩, ?_⟩⟩⟩
    · rcases Nat.lt_or_ge g w.heap.size with h | h
      · exact h
      · rw [Array.getElem?_eq_none h] at hh; cases hh
    · intro j v hj
      match j, hj with
      | 0, hj =>
        simp at hj
        subst hj
        have e1 : (cur.toList.take (n * 1))[i]? = some (.int .i64 xs[i]) := by rw [ht]; simp [hi]
        rw [List.getElem?_take] at e1
        split at e1
        · rw [cell_of_row w g _ cur _ (0, 0) hh]; simpa [shInt] using e1
        · cases e1
theorem below_drewN {B : Nat} {a w : World} (h : Below B a w) (n : Nat) : Below B a (w.drewN n) := ⟨h.os, h.tape, h.output, h.size, h.block⟩
theorem drop_cons {α : Type} {l : List α} {k : Nat} {x : α} (h : l[k]? = some x) : l.drop k = x :: l.drop (k + 1) := by
  obtain ⟨hk, e⟩ := List.getElem?_eq_some_iff.1 h
  rw [List.drop_eq_getElem_cons hk, e]
theorem take_snoc {α : Type} {l : List α} {k : Nat} {x : α} (h : l[k]? = some x) : l.take (k + 1) = l.take k ++ [x] := by
  rw [List.take_add_one, h]; rfl
end Go.Proofs.Ytnnbnjanekibpaa
namespace Go.Proofs.Ytnnbnjanekibpaa
open Go.RowKit
set_option linter.unusedVariables false
def shS2 {α β τ : Type} (S0 : Sh α) (S1 : Sh β) (f : α → β → τ) : Sh τ := {
  size := S0.size + S1.size
  rep w F x cs := ∃ a b ca cb, x = f a b ∧ cs = ca ++ cb ∧ S0.rep w F a ca ∧ S1.rep w F b cb
  len := by rintro w F x cs ⟨a, b, ca, cb, rfl, rfl, ha, hb⟩; simp [S0.len ha, S1.len hb]
  keep := by rintro w w' F x cs hk ⟨a, b, ca, cb, e, e', ha, hb⟩; exact ⟨a, b, ca, cb, e, e', S0.keep hk ha, S1.keep hk hb⟩
  more := by rintro w F F' x cs hk ⟨a, b, ca, cb, e, e', ha, hb⟩; exact ⟨a, b, ca, cb, e, e', S0.more hk ha, S1.more hk hb⟩ }
def shS1 {α τ : Type} (S0 : Sh α) (f : α → τ) : Sh τ := {
  size := S0.size
  rep w F x cs := ∃ a, x = f a ∧ S0.rep w F a cs
  len := by rintro w F x cs ⟨a, rfl, ha⟩; exact S0.len ha
  keep := by rintro w w' F x cs hk ⟨a, e, ha⟩; exact ⟨a, e, S0.keep hk ha⟩
  more := by rintro w F F' x cs hk ⟨a, e, ha⟩; exact ⟨a, e, S0.more hk ha⟩ }
def shS3 {α β γ τ : Type} (S0 : Sh α) (S1 : Sh β) (S2 : Sh γ) (f : α → β → γ → τ) : Sh τ := shS2 S0 (shS2 S1 S2 Prod.mk) (fun a p => f a p.1 p.2)
def shS4 {α β γ δ τ : Type} (S0 : Sh α) (S1 : Sh β) (S2 : Sh γ) (S3 : Sh δ) (f : α → β → γ → δ → τ) : Sh τ := shS2 S0 (shS3 S1 S2 S3 fun a b c => (a, b, c)) (fun a p => f a p.1 p.2.1 p.2.2)
def shS5 {α β γ δ ε τ : Type} (S0 : Sh α) (S1 : Sh β) (S2 : Sh γ) (S3 : Sh δ) (S4 : Sh ε) (f : α → β → γ → δ → ε → τ) : Sh τ := shS2 S0 (shS4 S1 S2 S3 S4 fun a b c d => (a, b, c, d)) (fun a p => f a p.1 p.2.1 p.2.2.1 p.2.2.2)
structure Op where (kind n : Int) deriving DecidableEq, Repr
structure Point where (tx at_ : Int) deriving DecidableEq, Repr
structure In where (p : Point) (key : List Op) deriving DecidableEq, Repr
structure Out where (coin : Int) (lock : List Op) deriving DecidableEq, Repr
structure Tx where (height : Int) (ins : List In) (outs : List Out) deriving DecidableEq, Repr
structure Book where (texts : List (List UInt8)) deriving DecidableEq, Repr
structure Coin where (p : Point) (o : Out) (height : Int) (reward : Bool) deriving DecidableEq, Repr
structure Undo where (spent : List Coin) deriving DecidableEq, Repr
structure Block where (parent height work nonce : Int) (txs : List Tx) deriving DecidableEq, Repr
structure Tree where (names : List Int) (blocks : List Block) deriving DecidableEq, Repr
structure Message where (kind src to name : Int) (b : Block) (t : Tx) deriving DecidableEq, Repr
structure Node where (t : Tree) (pool : List Tx) (tip : Int) deriving DecidableEq, Repr
structure Wld where (book : Book) (nodes : List Node) (net : List Message) deriving DecidableEq, Repr
structure Happening where (kind node to k work n : Int) (t : Tx) deriving DecidableEq, Repr
def shOp : Sh Op := shS2 shInt shInt Op.mk
def shPoint : Sh Point := shS2 shInt shInt Point.mk
def shIn : Sh In := shS2 shPoint (shSlice shOp) In.mk
def shOut : Sh Out := shS2 shInt (shSlice shOp) Out.mk
def shTx : Sh Tx := shS3 shInt (shSlice shIn) (shSlice shOut) Tx.mk
def shBook : Sh Book := shS1 (shSlice shStr) Book.mk
def shCoin : Sh Coin := shS4 shPoint shOut shInt shBool Coin.mk
def shUndo : Sh Undo := shS1 (shSlice shCoin) Undo.mk
def shBlock : Sh Block := shS5 shInt shInt shInt shInt (shSlice shTx) Block.mk
def shTree : Sh Tree := shS2 (shSlice shInt) (shSlice shBlock) Tree.mk
def shNode : Sh Node := shS3 shTree (shSlice shTx) shInt Node.mk
theorem rep_op {w : World} {F : Nat → Prop} {x : Op} {cs : List Value} (h : shOp.rep w F x cs) :
    cs = [.int .i64 x.kind, .int .i64 x.n] ∧ I64 x.kind ∧ I64 x.n := by
  obtain ⟨a, b, ca, cb, rfl, rfl, ⟨rfl, h1⟩, rfl, h2⟩ := h
  exact ⟨rfl, h1, h2⟩
theorem rep_point {w : World} {F : Nat → Prop} {x : Point} {cs : List Value} (h : shPoint.rep w F x cs) :
    cs = [.int .i64 x.tx, .int .i64 x.at_] ∧ I64 x.tx ∧ I64 x.at_ := by
  obtain ⟨a, b, ca, cb, rfl, rfl, ⟨rfl, h1⟩, rfl, h2⟩ := h
  exact ⟨rfl, h1, h2⟩
theorem rep_in {w : World} {F : Nat → Prop} {x : In} {cs : List Value} (h : shIn.rep w F x cs) :
    ∃ A n c, cs = [.int .i64 x.p.tx, .int .i64 x.p.at_, .slice A n c] ∧ I64 x.p.tx ∧ I64 x.p.at_ ∧ Rds shOp w F x.key A n c := by
  obtain ⟨a, b, ca, cb, rfl, rfl, ha, A, n, c, rfl, hr⟩ := h
  obtain ⟨rfl, h1, h2⟩ := rep_point ha
  exact ⟨A, n, c, rfl, h1, h2, hr⟩
theorem rep_out {w : World} {F : Nat → Prop} {x : Out} {cs : List Value} (h : shOut.rep w F x cs) :
    ∃ A n c, cs = [.int .i64 x.coin, .slice A n c] ∧ I64 x.coin ∧ Rds shOp w F x.lock A n c := by
  obtain ⟨a, b, ca, cb, rfl, rfl, ⟨rfl, h1⟩, A, n, c, rfl, hr⟩ := h
  exact ⟨A, n, c, rfl, h1, hr⟩
theorem rep_tx {w : World} {F : Nat → Prop} {x : Tx} {cs : List Value} (h : shTx.rep w F x cs) :
    ∃ A n c A' n' c', cs = [.int .i64 x.height, .slice A n c, .slice A' n' c'] ∧ I64 x.height ∧ Rds shIn w F x.ins A n c ∧ Rds shOut w F x.outs A' n' c' := by
  obtain ⟨a, b, ca, cb, rfl, rfl, ⟨rfl, h1⟩, a1, b1, ca1, cb1, rfl, rfl, ⟨A, n, c, rfl, hr⟩, A', n', c', rfl, hr'⟩ := h
  exact ⟨A, n, c, A', n', c', rfl, h1, hr, hr'⟩
theorem rep_book {w : World} {F : Nat → Prop} {x : Book} {cs : List Value} (h : shBook.rep w F x cs) :
    ∃ A n c, cs = [.slice A n c] ∧ Rds shStr w F x.texts A n c := by
  obtain ⟨a, rfl, A, n, c, rfl, hr⟩ := h
  exact ⟨A, n, c, rfl, hr⟩
theorem rep_coin {w : World} {F : Nat → Prop} {x : Coin} {cs : List Value} (h : shCoin.rep w F x cs) :
    ∃ A n c, cs = [.int .i64 x.p.tx, .int .i64 x.p.at_, .int .i64 x.o.coin, .slice A n c, .int .i64 x.height, .bool x.reward] ∧ I64 x.p.tx ∧ I64 x.p.at_ ∧ I64 x.o.coin ∧ I64 x.height ∧ Rds shOp w F x.o.lock A n c := by
  obtain ⟨a, b, ca, cb, rfl, rfl, ha, a1, b1, ca1, cb1, rfl, rfl, hb, a2, b2, ca2, cb2, rfl, rfl, ⟨rfl, h3⟩, rfl⟩ := h
  obtain ⟨rfl, h1, h2⟩ := rep_point ha
  obtain ⟨A, n, c, rfl, h4, hr⟩ := rep_out hb
  exact ⟨A, n, c, rfl, h1, h2, h4, h3, hr⟩
theorem rep_undo {w : World} {F : Nat → Prop} {x : Undo} {cs : List Value} (h : shUndo.rep w F x cs) :
    ∃ A n c, cs = [.slice A n c] ∧ Rds shCoin w F x.spent A n c := by
  obtain ⟨a, rfl, A, n, c, rfl, hr⟩ := h
  exact ⟨A, n, c, rfl, hr⟩
theorem rep_block {w : World} {F : Nat → Prop} {x : Block} {cs : List Value} (h : shBlock.rep w F x cs) :
    ∃ A n c, cs = [.int .i64 x.parent, .int .i64 x.height, .int .i64 x.work, .int .i64 x.nonce, .slice A n c] ∧ I64 x.parent ∧ I64 x.height ∧ I64 x.work ∧ I64 x.nonce ∧ Rds shTx w F x.txs A n c := by
  obtain ⟨a, b, ca, cb, rfl, rfl, ⟨rfl, h1⟩, a1, b1, ca1, cb1, rfl, rfl, ⟨rfl, h2⟩, a2, b2, ca2, cb2, rfl, rfl, ⟨rfl, h3⟩, a3, b3, ca3, cb3, rfl, rfl, ⟨rfl, h4⟩, A, n, c, rfl, hr⟩ := h
  exact ⟨A, n, c, rfl, h1, h2, h3, h4, hr⟩
theorem rep_tree {w : World} {F : Nat → Prop} {x : Tree} {cs : List Value} (h : shTree.rep w F x cs) :
    ∃ A n c A' n' c', cs = [.slice A n c, .slice A' n' c'] ∧ Rds shInt w F x.names A n c ∧ Rds shBlock w F x.blocks A' n' c' := by
  obtain ⟨a, b, ca, cb, rfl, rfl, ⟨A, n, c, rfl, hr⟩, A', n', c', rfl, hr'⟩ := h
  exact ⟨A, n, c, A', n', c', rfl, hr, hr'⟩
theorem rep_node {w : World} {F : Nat → Prop} {x : Node} {cs : List Value} (h : shNode.rep w F x cs) :
    ∃ A n c A' n' c' A2 n2 c2, cs = [.slice A n c, .slice A' n' c', .slice A2 n2 c2, .int .i64 x.tip] ∧ Rds shInt w F x.t.names A n c ∧ Rds shBlock w F x.t.blocks A' n' c' ∧ Rds shTx w F x.pool A2 n2 c2 ∧ I64 x.tip := by
  obtain ⟨a, b, ca, cb, rfl, rfl, ha, a1, b1, ca1, cb1, rfl, rfl, ⟨A2, n2, c2, rfl, h2⟩, rfl, h3⟩ := h
  obtain ⟨A, n, c, A', n', c', rfl, hr, hr'⟩ := rep_tree ha
  exact ⟨A, n, c, A', n', c', A2, n2, c2, rfl, hr, hr', h2, h3⟩
end Go.Proofs.Ytnnbnjanekibpaa
namespace Go.Proofs.Ytnnbnjanekibpaa
open Go.RowKit
set_option linter.unusedVariables false
def flat {α : Type} (zs : List (α × List Value)) : List Value := (zs.map (·.2)).flatten
theorem flat_cons {α : Type} (z : α × List Value) (zs : List (α × List Value)) : flat (z :: zs) = z.2 ++ flat zs := by simp [flat]
theorem flat_append {α : Type} (zs ys : List (α × List Value)) : flat (zs ++ ys) = flat zs ++ flat ys := by simp [flat]
theorem flat_length {α : Type} {s : Nat} {zs : List (α × List Value)} (h : ∀ z ∈ zs, z.2.length = s) : (flat zs).length = zs.length * s := by
  induction zs with
  | nil => simp [flat]
  | cons z zs ih =>
    rw [flat_cons, List.length_append, ih (fun y hy => h y (by simp [hy])), h z (by simp), List.length_cons, Nat.succ_mul]
    omega
theorem flat_at {α : Type} {s : Nat} {zs : List (α × List Value)} (h : ∀ z ∈ zs, z.2.length = s) {i : Nat} {z : α × List Value} (hi : zs[i]? = some z) {j : Nat} (hj : j < s) : (flat zs)[i * s + j]? = z.2[j]? := by
  induction zs generalizing i with
  | nil => simp at hi
  | cons y zs ih =>
    have hy := h y (by simp)
    rw [flat_cons]
    cases i with
    | zero =>
      simp at hi
      subst hi
      rw [Nat.zero_mul, Nat.zero_add, List.getElem?_append_left (by omega)]
    | succ i =>
      simp at hi
      rw [List.getElem?_append_right (by rw [hy, Nat.succ_mul]; omega), hy, show (i + 1) * s + j - s = i * s + j by rw [Nat.succ_mul]; omega]
      exact ih (fun z hz => h z (by simp [hz])) hi
theorem Rds.pairs {α : Type} {S : Sh α} {w : World} {F : Nat → Prop} {xs : List α} {A : Option Addr} {n c : Nat} (h : Rds S w F xs A n c) :
    ∃ zs : List (α × List Value), zs.map (·.1) = xs ∧ (∀ z ∈ zs, S.rep w F z.1 z.2) ∧ (0 < n → ∃ b off, A = some ⟨b, off, none⟩ ∧ F b ∧ ∀ j v, (flat zs)[j]? = some v → w.cell? ⟨b, off + j, none⟩ = some v) := by
  obtain ⟨h1, h2, h3, h4⟩ := h
  rcases Nat.eq_zero_or_pos n with h0 | h0
  · have : xs = [] := List.eq_nil_of_length_eq_zero (by omega)
    subst this
    exact ⟨[], rfl, by simp, fun h => by omega⟩
  · obtain ⟨b, off, e, hF, hc⟩ := h4 h0
    have key : ∀ m, m ≤ xs.length → ∃ zs : List (α × List Value), zs.map (·.1) = xs.take m ∧ (∀ z ∈ zs, S.rep w F z.1 z.2) ∧ ∀ j v, (flat zs)[j]? = some v → w.cell? ⟨b, off + j, none⟩ = some v := by
      intro m
      induction m with
      | zero => intro _; exact ⟨[], by simp, by simp, by simp [flat]⟩
      | succ m ih =>
        intro hm
        obtain ⟨zs, z1, z2, z3⟩ := ih (by omega)
        obtain ⟨cs, hr, hv⟩ := hc m (by omega)
        have hl : ∀ z ∈ zs, z.2.length = S.size := fun z hz => S.len (z2 z hz)
        have hzl : zs.length = m := by have := congrArg List.length z1; simp at this; omega
        refine ⟨zs ++ [(xs[m], cs)], ?_, ?_, ?_⟩
        · rw [take_snoc (List.getElem?_eq_getElem (by omega)), List.map_append, z1]; rfl
        · intro z hz
          rcases List.mem_append.1 hz with h | h
          · exact z2 z h
          · simp at h; subst h; exact hr
        · intro j v hj
          rw [flat_append] at hj
          by_cases hjl : j < (flat zs).length
          · rw [List.getElem?_append_left hjl] at hj; exact z3 j v hj
          · rw [List.getElem?_append_right (by omega)] at hj
            have e2 : flat [(xs[m], cs)] = cs := by simp [flat]
            rw [e2] at hj
            have := hv _ v hj
            rw [flat_length hl, hzl] at hjl this
            rw [show off + m * S.size + (j - m * S.size) = off + j by omega] at this
            exact this
    obtain ⟨zs, z1, z2, z3⟩ := key xs.length (Nat.le_refl _)
    exact ⟨zs, by rw [z1, List.take_length], z2, fun _ => ⟨b, off, e, hF, z3⟩⟩
theorem Rds.of_own {α : Type} {S : Sh α} {w : World} {F : Nat → Prop} {base e n : Nat} {v : Value} {zs : List (α × List Value)} (h : w.ownsRow base e S.size v n (flat zs)) (hn : zs.length = n)
    (hz : ∀ z ∈ zs, S.rep w F z.1 z.2) (hF : ∀ g, base ≤ g → g < w.heap.size → F g) : ∃ A c, v = .slice A n c ∧ Rds S w F (zs.map (·.1)) A n c := by
  obtain ⟨hl, h2⟩ := h
  rcases h2 with ⟨rfl, rfl⟩ | ⟨g, cap, cur, rfl, hg, hh, hnc, hcm, hcs, ht⟩
  · have : zs = [] := List.eq_nil_of_length_eq_zero hn
    subst this
    exact ⟨none, 0, rfl, Rds.nil _ _ _⟩
  · have hlt : g < w.heap.size := by
      rcases Nat.lt_or_ge g w.heap.size with h | h
      · exact h
      · rw [Array.getElem?_eq_none h] at hh; cases hh
    refine ⟨_, cap, rfl, by simpa using hn, hnc, by unfold maxLen at hcm; omega, fun _ => ⟨g, 0, rfl, hF g hg hlt, fun i hi => ?_⟩⟩
    have hi' : i < zs.length := by simpa using hi
    refine ⟨zs[i].2, by simpa using hz _ (List.getElem_mem hi'), fun j u hj => ?_⟩
    have hjl : j < S.size := by
      have := S.len (hz _ (List.getElem_mem hi'))
      have := (List.getElem?_eq_some_iff.1 hj).1
      omega
    have e1 := flat_at (fun z hz' => S.len (hz z hz')) (List.getElem?_eq_getElem hi') hjl
    rw [hj, ← ht, List.getElem?_take] at e1
    split at e1
    · rw [cell_of_row w g _ cur _ (0, 0) hh, Nat.zero_add]; simpa using e1
    · cases e1
theorem own_ge {w : World} {base e size n k : Nat} {v : Value} {xs : List Value} (h : w.ownsRow base e size v n xs) (hk : v.ownBlock = some k) : base ≤ k := by
  rcases h.2 with ⟨rfl, _⟩ | ⟨g, cap, cur, rfl, hg, _⟩
  · cases hk
  · have : g = k := by simpa [Value.ownBlock] using hk
    omega
theorem Rds.of_block {α : Type} {S : Sh α} {w : World} {F : Nat → Prop} {g e cap : Nat} {cur : Array Value} {z : Nat × Nat} {zs : List (α × List Value)} (hh : w.heap[g]? = some (.cells cur e z)) (hc : cur.toList = flat zs)
    (hz : ∀ z ∈ zs, S.rep w F z.1 z.2) (hF : F g) (hcap : zs.length ≤ cap) (hm : cap ≤ 9223372036854775807) : Rds S w F (zs.map (·.1)) (some ⟨g, 0, none⟩) zs.length cap := by
  refine ⟨by simp, hcap, hm, fun _ => ⟨g, 0, rfl, hF, fun i hi => ?_⟩⟩
  have hi' : i < zs.length := by simpa using hi
  refine ⟨zs[i].2, by simpa using hz _ (List.getElem_mem hi'), fun j u hj => ?_⟩
  have hjl : j < S.size := by
    have := S.len (hz _ (List.getElem_mem hi'))
    have := (List.getElem?_eq_some_iff.1 hj).1
    omega
  have e1 := flat_at (fun z hz' => S.len (hz z hz')) (List.getElem?_eq_getElem hi') hjl
  rw [hj, ← hc] at e1
  rw [cell_of_row w g _ cur _ z hh, Nat.zero_add]
  simpa using e1
theorem blk_lt {w : World} {g : Nat} {x : Obj} (h : w.heap[g]? = some x) : g < w.heap.size := by
  rcases Nat.lt_or_ge g w.heap.size with h' | h'
  · exact h'
  · rw [Array.getElem?_eq_none h'] at h; cases h
theorem blk_below {w w' : World} {B g : Nat} {x : Obj} (h : w.heap[g]? = some x) (hb : Below B w w') (hg : g < B) : w'.heap[g]? = some x := (hb.block g hg).trans h
theorem blk_cell {w : World} {g i t : Nat} {cs : Array Value} (h : w.heap[g]? = some (.cells cs t (0, 0))) : w.cell? ⟨g, i, none⟩ = cs[i]? := cell_of_row w g i cs t (0, 0) h
theorem blk_free {w : World} {g i t : Nat} {cs : Array Value} (h : w.heap[g]? = some (.cells cs t (0, 0))) : w.frozen? ⟨g, i, none⟩ = false := frozen_of_row w g i cs t h
theorem blk_set {w : World} {g i t : Nat} {cs : Array Value} {u : Value} (h : w.heap[g]? = some (.cells cs t (0, 0))) : (w.setCell ⟨g, i, none⟩ u).heap[g]? = some (.cells (cs.setIfInBounds i u) t (0, 0)) := by simp [World.setCell, Array.getElem?_modify, h]
def Ones (cs : List Value) : Prop := ∀ u ∈ cs, u.oneCell' = true
def Sh.ones {α : Type} (S : Sh α) : Prop := ∀ {w F x cs}, S.rep w F x cs → Ones cs
theorem ones_flat {α : Type} {S : Sh α} (hS : S.ones) {w : World} {F : Nat → Prop} {zs : List (α × List Value)} (hz : ∀ z ∈ zs, S.rep w F z.1 z.2) : Ones (flat zs) := by
  intro u hu
  simp only [flat, List.mem_flatten, List.mem_map] at hu
  obtain ⟨l, ⟨z, hz', rfl⟩, hu⟩ := hu
  exact hS (hz z hz') u hu
theorem ones_int : shInt.ones := by rintro w F x cs ⟨rfl, _⟩ u hu; simp at hu; subst hu; rfl
theorem ones_slice {α : Type} (S : Sh α) : (shSlice S).ones := by rintro w F x cs ⟨A, n, c, rfl, _⟩ u hu; simp at hu; subst hu; rfl
theorem ones_S2 {α β τ : Type} {S0 : Sh α} {S1 : Sh β} {f : α → β → τ} (h0 : S0.ones) (h1 : S1.ones) : (shS2 S0 S1 f).ones := by
  rintro w F x cs ⟨a, b, ca, cb, rfl, rfl, ha, hb⟩ u hu
  rcases List.mem_append.1 hu with h | h
  · exact h0 ha u h
  · exact h1 hb u h
theorem ones_op : shOp.ones := ones_S2 ones_int ones_int
theorem ones_point : shPoint.ones := ones_S2 ones_int ones_int
theorem ones_in : shIn.ones := ones_S2 ones_point (ones_slice _)
theorem ones_out : shOut.ones := ones_S2 ones_int (ones_slice _)
theorem ones_tx : shTx.ones := ones_S2 ones_int (ones_S2 (ones_slice _) (ones_slice _))
theorem ones_block : shBlock.ones := ones_S2 ones_int (ones_S2 ones_int (ones_S2 ones_int (ones_S2 ones_int (ones_slice _))))
end Go.Proofs.Ytnnbnjanekibpaa
namespace Go.Proofs.Ytnnbnjanekibpaa
open Go.RowKit
set_option linter.unusedVariables false
set_option maxRecDepth 100000
theorem add_mk (b off k : Nat) : (Addr.mk b off none).add k = ⟨b, off + k, none⟩ := by unfold Addr.add; split <;> simp_all
theorem ownsRow_empty (w : World) (e s : Nat) : (w.alloc (.cells #[] e)).ownsRow w.heap.size e s (.slice (some ⟨w.heap.size, 0, none⟩) 0 0) 0 [] :=
  ⟨by simp, .inr ⟨w.heap.size, 0, #[], rfl, Nat.le_refl _, heap_alloc_new w _, Nat.le_refl _, by unfold maxLen; omega, by simp, by simp⟩⟩
def Cloned {α : Type} (S : Sh α) (e : Nat) (w : World) (F : Nat → Prop) (xs : List α) (n : Nat) (r : Ending) (w' : World) : Prop :=
  ∃ (v : Value) (zs : List (α × List Value)), r = .returned v ∧ zs.map (·.1) = xs ∧ (∀ z ∈ zs, S.rep w F z.1 z.2) ∧ w'.ownsRow w.heap.size e S.size v n (flat zs) ∧ Below w.heap.size w w'
theorem clone_int (xs : List (Int)) (A : Option Addr) (n c : Nat) (w : World) (F : Nat → Prop) (h : Rds shInt w F xs A n c) (hF : ∀ b, F b → b < w.heap.size) (hn : n * 8 ≤ 140737488355328) :
    Calls Try.prog 87 #[.slice A n c] w (Cloned shInt 3 w F xs n) := by
  have hq := fun (W : World) => Lib.run_eql_slice_nil (P := Try.prog) W 24 3 A n c 0 0 Try.underlying24
  cases A with
  | none =>
    have h0 : n = 0 := by
      rcases Nat.eq_zero_or_pos n with h0 | h0
      · exact h0
      · obtain ⟨b, off, e, _⟩ := h.2.2.2 h0; cases e
    subst h0
    have hx : xs = [] := List.eq_nil_of_length_eq_zero h.1
    subst hx
    go_enter Try.func87, Try.ntmps87
    go_wp2
    go_ret
    exact ⟨_, [], rfl, rfl, by simp, World.ownsRow_nil _ _ _ _, Below.refl _ _⟩
  | some ad =>
    obtain ⟨zs, z1, z2, z3⟩ := h.pairs
    have hl : zs.length = n := by have := congrArg List.length z1; simp at this; have := h.1; omega
    have hfl : (flat zs).length = n * 1 := by rw [flat_length (fun z hz => shInt.len (z2 z hz)), hl]; rfl
    have hnews : ∀ j u, (flat zs)[j]? = some u → (w.alloc (.cells #[] 3)).cell? (ad.add j) = some u := by
      intro j u hj
      have hj' := (List.getElem?_eq_some_iff.1 hj).1
      obtain ⟨b, off, e, hFb, hc⟩ := z3 (by omega)
      injection e with e
      subst e
      rw [add_mk, World.cell?_alloc_lt w _ _ (hF b hFb)]
      exact hc j u hj
    have H1 := Lib.hid (ones_flat ones_int z2)
    have HN := Lib.hid hnews
    have HL := Lib.hid hfl
    have Z1 := Lib.hid z1
    have HZ := Lib.hid hl
    obtain ⟨i0, zv, hi, hz0, hz1, hz2, hz3⟩ : ∃ i z, Try.prog.info? 3 = some i ∧ i.zero = some z ∧ i.size = 1 ∧ i.bytes = 8 ∧ z.cells.size = 1 := by
      have h1 : (Try.prog.info? 3).map (fun i => (i.zero.map (·.cells.size), i.size, i.bytes)) = some (some 1, 1, 8) := by kernel_rfl
      match hh : Try.prog.info? 3, h1 with
      | some i, h1 =>
        simp only [Option.map_some, Option.some.injEq, Prod.mk.injEq] at h1
        match hz : i.zero, h1 with
        | some z, h1 => exact ⟨i, z, rfl, hz, h1.2.1, h1.2.2, by simpa using h1.1⟩
    clear hnews hfl h z1 hl z3
    go_enter Try.func87, Try.ntmps87
    go_wp2_with (at_builtin; refine wpList_append_own_at _ rfl _ _ 24 rfl w.heap.size 3 i0 zv 1 8 Try.underlying24 hi hz0 hz1 hz2 hz3 (by omega) _ 0 [] rfl (ownsRow_empty w _ _) ad n c (flat zs) rfl HL.out HN.out H1.out (by unfold maxLen; omega) (by rw [Nat.zero_add]; exact hn) (by simp) ?_; intro v' w1 hown hgr _ _)
    go_ret
    rw [Nat.zero_add, List.nil_append] at hown
    refine ⟨v', zs, rfl, Z1.out, z2, hown, ?_⟩
    exact ((Below.refl _ _).alloc (Nat.le_refl _) _).grown hgr (by simp) (fun k hk => by injection hk with hk; exact Nat.le_of_eq hk)
theorem clone_op (xs : List (Op)) (A : Option Addr) (n c : Nat) (w : World) (F : Nat → Prop) (h : Rds shOp w F xs A n c) (hF : ∀ b, F b → b < w.heap.size) (hn : n * 16 ≤ 140737488355328) :
    Calls Try.prog 95 #[.slice A n c] w (Cloned shOp 108 w F xs n) := by
  have hq := fun (W : World) => Lib.run_eql_slice_nil (P := Try.prog) W 89 108 A n c 0 0 Try.underlying89
  cases A with
  | none =>
    have h0 : n = 0 := by
      rcases Nat.eq_zero_or_pos n with h0 | h0
      · exact h0
      · obtain ⟨b, off, e, _⟩ := h.2.2.2 h0; cases e
    subst h0
    have hx : xs = [] := List.eq_nil_of_length_eq_zero h.1
    subst hx
    go_enter Try.func95, Try.ntmps95
    go_wp2
    go_ret
    exact ⟨_, [], rfl, rfl, by simp, World.ownsRow_nil _ _ _ _, Below.refl _ _⟩
  | some ad =>
    obtain ⟨zs, z1, z2, z3⟩ := h.pairs
    have hl : zs.length = n := by have := congrArg List.length z1; simp at this; have := h.1; omega
    have hfl : (flat zs).length = n * 2 := by rw [flat_length (fun z hz => shOp.len (z2 z hz)), hl]; rfl
    have hnews : ∀ j u, (flat zs)[j]? = some u → (w.alloc (.cells #[] 108)).cell? (ad.add j) = some u := by
      intro j u hj
      have hj' := (List.getElem?_eq_some_iff.1 hj).1
      obtain ⟨b, off, e, hFb, hc⟩ := z3 (by omega)
      injection e with e
      subst e
      rw [add_mk, World.cell?_alloc_lt w _ _ (hF b hFb)]
      exact hc j u hj
    have H1 := Lib.hid (ones_flat ones_op z2)
    have HN := Lib.hid hnews
    have HL := Lib.hid hfl
    have Z1 := Lib.hid z1
    have HZ := Lib.hid hl
    obtain ⟨i0, zv, hi, hz0, hz1, hz2, hz3⟩ : ∃ i z, Try.prog.info? 108 = some i ∧ i.zero = some z ∧ i.size = 2 ∧ i.bytes = 16 ∧ z.cells.size = 2 := by
      have h1 : (Try.prog.info? 108).map (fun i => (i.zero.map (·.cells.size), i.size, i.bytes)) = some (some 2, 2, 16) := by kernel_rfl
      match hh : Try.prog.info? 108, h1 with
      | some i, h1 =>
        simp only [Option.map_some, Option.some.injEq, Prod.mk.injEq] at h1
        match hz : i.zero, h1 with
        | some z, h1 => exact ⟨i, z, rfl, hz, h1.2.1, h1.2.2, by simpa using h1.1⟩
    clear hnews hfl h z1 hl z3
    go_enter Try.func95, Try.ntmps95
    go_wp2_with (at_builtin; refine wpList_append_own_at _ rfl _ _ 89 rfl w.heap.size 108 i0 zv 2 16 Try.underlying89 hi hz0 hz1 hz2 hz3 (by omega) _ 0 [] rfl (ownsRow_empty w _ _) ad n c (flat zs) rfl HL.out HN.out H1.out (by unfold maxLen; omega) (by rw [Nat.zero_add]; exact hn) (by simp) ?_; intro v' w1 hown hgr _ _)
    go_ret
    rw [Nat.zero_add, List.nil_append] at hown
    refine ⟨v', zs, rfl, Z1.out, z2, hown, ?_⟩
    exact ((Below.refl _ _).alloc (Nat.le_refl _) _).grown hgr (by simp) (fun k hk => by injection hk with hk; exact Nat.le_of_eq hk)
theorem clone_in (xs : List (In)) (A : Option Addr) (n c : Nat) (w : World) (F : Nat → Prop) (h : Rds shIn w F xs A n c) (hF : ∀ b, F b → b < w.heap.size) (hn : n * 40 ≤ 140737488355328) :
    Calls Try.prog 125 #[.slice A n c] w (Cloned shIn 91 w F xs n) := by
  have hq := fun (W : World) => Lib.run_eql_slice_nil (P := Try.prog) W 78 91 A n c 0 0 Try.underlying78
  cases A with
  | none =>
    have h0 : n = 0 := by
      rcases Nat.eq_zero_or_pos n with h0 | h0
      · exact h0
      · obtain ⟨b, off, e, _⟩ := h.2.2.2 h0; cases e
    subst h0
    have hx : xs = [] := List.eq_nil_of_length_eq_zero h.1
    subst hx
    go_enter Try.func125, Try.ntmps125
    go_wp2
    go_ret
    exact ⟨_, [], rfl, rfl, by simp, World.ownsRow_nil _ _ _ _, Below.refl _ _⟩
  | some ad =>
    obtain ⟨zs, z1, z2, z3⟩ := h.pairs
    have hl : zs.length = n := by have := congrArg List.length z1; simp at this; have := h.1; omega
    have hfl : (flat zs).length = n * 3 := by rw [flat_length (fun z hz => shIn.len (z2 z hz)), hl]; rfl
    have hnews : ∀ j u, (flat zs)[j]? = some u → (w.alloc (.cells #[] 91)).cell? (ad.add j) = some u := by
      intro j u hj
      have hj' := (List.getElem?_eq_some_iff.1 hj).1
      obtain ⟨b, off, e, hFb, hc⟩ := z3 (by omega)
      injection e with e
      subst e
      rw [add_mk, World.cell?_alloc_lt w _ _ (hF b hFb)]
      exact hc j u hj
    have H1 := Lib.hid (ones_flat ones_in z2)
    have HN := Lib.hid hnews
    have HL := Lib.hid hfl
    have Z1 := Lib.hid z1
    have HZ := Lib.hid hl
    obtain ⟨i0, zv, hi, hz0, hz1, hz2, hz3⟩ : ∃ i z, Try.prog.info? 91 = some i ∧ i.zero = some z ∧ i.size = 3 ∧ i.bytes = 40 ∧ z.cells.size = 3 := by
      have h1 : (Try.prog.info? 91).map (fun i => (i.zero.map (·.cells.size), i.size, i.bytes)) = some (some 3, 3, 40) := by kernel_rfl
      match hh : Try.prog.info? 91, h1 with
      | some i, h1 =>
        simp only [Option.map_some, Option.some.injEq, Prod.mk.injEq] at h1
        match hz : i.zero, h1 with
        | some z, h1 => exact ⟨i, z, rfl, hz, h1.2.1, h1.2.2, by simpa using h1.1⟩
    clear hnews hfl h z1 hl z3
    go_enter Try.func125, Try.ntmps125
    go_wp2_with (at_builtin; refine wpList_append_own_at _ rfl _ _ 78 rfl w.heap.size 91 i0 zv 3 40 Try.underlying78 hi hz0 hz1 hz2 hz3 (by omega) _ 0 [] rfl (ownsRow_empty w _ _) ad n c (flat zs) rfl HL.out HN.out H1.out (by unfold maxLen; omega) (by rw [Nat.zero_add]; exact hn) (by simp) ?_; intro v' w1 hown hgr _ _)
    go_ret
    rw [Nat.zero_add, List.nil_append] at hown
    refine ⟨v', zs, rfl, Z1.out, z2, hown, ?_⟩
    exact ((Below.refl _ _).alloc (Nat.le_refl _) _).grown hgr (by simp) (fun k hk => by injection hk with hk; exact Nat.le_of_eq hk)
theorem clone_out (xs : List (Out)) (A : Option Addr) (n c : Nat) (w : World) (F : Nat → Prop) (h : Rds shOut w F xs A n c) (hF : ∀ b, F b → b < w.heap.size) (hn : n * 32 ≤ 140737488355328) :
    Calls Try.prog 126 #[.slice A n c] w (Cloned shOut 98 w F xs n) := by
  have hq := fun (W : World) => Lib.run_eql_slice_nil (P := Try.prog) W 79 98 A n c 0 0 Try.underlying79
  cases A with
  | none =>
    have h0 : n = 0 := by
      rcases Nat.eq_zero_or_pos n with h0 | h0
      · exact h0
      · obtain ⟨b, off, e, _⟩ := h.2.2.2 h0; cases e
    subst h0
    have hx : xs = [] := List.eq_nil_of_length_eq_zero h.1
    subst hx
    go_enter Try.func126, Try.ntmps126
    go_wp2
    go_ret
    exact ⟨_, [], rfl, rfl, by simp, World.ownsRow_nil _ _ _ _, Below.refl _ _⟩
  | some ad =>
    obtain ⟨zs, z1, z2, z3⟩ := h.pairs
    have hl : zs.length = n := by have := congrArg List.length z1; simp at this; have := h.1; omega
    have hfl : (flat zs).length = n * 2 := by rw [flat_length (fun z hz => shOut.len (z2 z hz)), hl]; rfl
    have hnews : ∀ j u, (flat zs)[j]? = some u → (w.alloc (.cells #[] 98)).cell? (ad.add j) = some u := by
      intro j u hj
      have hj' := (List.getElem?_eq_some_iff.1 hj).1
      obtain ⟨b, off, e, hFb, hc⟩ := z3 (by omega)
      injection e with e
      subst e
      rw [add_mk, World.cell?_alloc_lt w _ _ (hF b hFb)]
      exact hc j u hj
    have H1 := Lib.hid (ones_flat ones_out z2)
    have HN := Lib.hid hnews
    have HL := Lib.hid hfl
    have Z1 := Lib.hid z1
    have HZ := Lib.hid hl
    obtain ⟨i0, zv, hi, hz0, hz1, hz2, hz3⟩ : ∃ i z, Try.prog.info? 98 = some i ∧ i.zero = some z ∧ i.size = 2 ∧ i.bytes = 32 ∧ z.cells.size = 2 := by
      have h1 : (Try.prog.info? 98).map (fun i => (i.zero.map (·.cells.size), i.size, i.bytes)) = some (some 2, 2, 32) := by kernel_rfl
      match hh : Try.prog.info? 98, h1 with
      | some i, h1 =>
        simp only [Option.map_some, Option.some.injEq, Prod.mk.injEq] at h1
        match hz : i.zero, h1 with
        | some z, h1 => exact ⟨i, z, rfl, hz, h1.2.1, h1.2.2, by simpa using h1.1⟩
    clear hnews hfl h z1 hl z3
    go_enter Try.func126, Try.ntmps126
    go_wp2_with (at_builtin; refine wpList_append_own_at _ rfl _ _ 79 rfl w.heap.size 98 i0 zv 2 32 Try.underlying79 hi hz0 hz1 hz2 hz3 (by omega) _ 0 [] rfl (ownsRow_empty w _ _) ad n c (flat zs) rfl HL.out HN.out H1.out (by unfold maxLen; omega) (by rw [Nat.zero_add]; exact hn) (by simp) ?_; intro v' w1 hown hgr _ _)
    go_ret
    rw [Nat.zero_add, List.nil_append] at hown
    refine ⟨v', zs, rfl, Z1.out, z2, hown, ?_⟩
    exact ((Below.refl _ _).alloc (Nat.le_refl _) _).grown hgr (by simp) (fun k hk => by injection hk with hk; exact Nat.le_of_eq hk)
theorem clone_tx (xs : List (Tx)) (A : Option Addr) (n c : Nat) (w : World) (F : Nat → Prop) (h : Rds shTx w F xs A n c) (hF : ∀ b, F b → b < w.heap.size) (hn : n * 56 ≤ 140737488355328) :
    Calls Try.prog 111 #[.slice A n c] w (Cloned shTx 81 w F xs n) := by
  have hq := fun (W : World) => Lib.run_eql_slice_nil (P := Try.prog) W 64 81 A n c 0 0 Try.underlying64
  cases A with
  | none =>
    have h0 : n = 0 := by
      rcases Nat.eq_zero_or_pos n with h0 | h0
      · exact h0
      · obtain ⟨b, off, e, _⟩ := h.2.2.2 h0; cases e
    subst h0
    have hx : xs = [] := List.eq_nil_of_length_eq_zero h.1
    subst hx
    go_enter Try.func111, Try.ntmps111
    go_wp2
    go_ret
    exact ⟨_, [], rfl, rfl, by simp, World.ownsRow_nil _ _ _ _, Below.refl _ _⟩
  | some ad =>
    obtain ⟨zs, z1, z2, z3⟩ := h.pairs
    have hl : zs.length = n := by have := congrArg List.length z1; simp at this; have := h.1; omega
    have hfl : (flat zs).length = n * 3 := by rw [flat_length (fun z hz => shTx.len (z2 z hz)), hl]; rfl
    have hnews : ∀ j u, (flat zs)[j]? = some u → (w.alloc (.cells #[] 81)).cell? (ad.add j) = some u := by
      intro j u hj
      have hj' := (List.getElem?_eq_some_iff.1 hj).1
      obtain ⟨b, off, e, hFb, hc⟩ := z3 (by omega)
      injection e with e
      subst e
      rw [add_mk, World.cell?_alloc_lt w _ _ (hF b hFb)]
      exact hc j u hj
    have H1 := Lib.hid (ones_flat ones_tx z2)
    have HN := Lib.hid hnews
    have HL := Lib.hid hfl
    have Z1 := Lib.hid z1
    have HZ := Lib.hid hl
    obtain ⟨i0, zv, hi, hz0, hz1, hz2, hz3⟩ : ∃ i z, Try.prog.info? 81 = some i ∧ i.zero = some z ∧ i.size = 3 ∧ i.bytes = 56 ∧ z.cells.size = 3 := by
      have h1 : (Try.prog.info? 81).map (fun i => (i.zero.map (·.cells.size), i.size, i.bytes)) = some (some 3, 3, 56) := by kernel_rfl
      match hh : Try.prog.info? 81, h1 with
      | some i, h1 =>
        simp only [Option.map_some, Option.some.injEq, Prod.mk.injEq] at h1
        match hz : i.zero, h1 with
        | some z, h1 => exact ⟨i, z, rfl, hz, h1.2.1, h1.2.2, by simpa using h1.1⟩
    clear hnews hfl h z1 hl z3
    go_enter Try.func111, Try.ntmps111
    go_wp2_with (at_builtin; refine wpList_append_own_at _ rfl _ _ 64 rfl w.heap.size 81 i0 zv 3 56 Try.underlying64 hi hz0 hz1 hz2 hz3 (by omega) _ 0 [] rfl (ownsRow_empty w _ _) ad n c (flat zs) rfl HL.out HN.out H1.out (by unfold maxLen; omega) (by rw [Nat.zero_add]; exact hn) (by simp) ?_; intro v' w1 hown hgr _ _)
    go_ret
    rw [Nat.zero_add, List.nil_append] at hown
    refine ⟨v', zs, rfl, Z1.out, z2, hown, ?_⟩
    exact ((Below.refl _ _).alloc (Nat.le_refl _) _).grown hgr (by simp) (fun k hk => by injection hk with hk; exact Nat.le_of_eq hk)
theorem clone_block (xs : List (Block)) (A : Option Addr) (n c : Nat) (w : World) (F : Nat → Prop) (h : Rds shBlock w F xs A n c) (hF : ∀ b, F b → b < w.heap.size) (hn : n * 56 ≤ 140737488355328) :
    Calls Try.prog 88 #[.slice A n c] w (Cloned shBlock 66 w F xs n) := by
  have hq := fun (W : World) => Lib.run_eql_slice_nil (P := Try.prog) W 54 66 A n c 0 0 Try.underlying54
  cases A with
  | none =>
    have h0 : n = 0 := by
      rcases Nat.eq_zero_or_pos n with h0 | h0
      · exact h0
      · obtain ⟨b, off, e, _⟩ := h.2.2.2 h0; cases e
    subst h0
    have hx : xs = [] := List.eq_nil_of_length_eq_zero h.1
    subst hx
    go_enter Try.func88, Try.ntmps88
    go_wp2
    go_ret
    exact ⟨_, [], rfl, rfl, by simp, World.ownsRow_nil _ _ _ _, Below.refl _ _⟩
  | some ad =>
    obtain ⟨zs, z1, z2, z3⟩ := h.pairs
    have hl : zs.length = n := by have := congrArg List.length z1; simp at this; have := h.1; omega
    have hfl : (flat zs).length = n * 5 := by rw [flat_length (fun z hz => shBlock.len (z2 z hz)), hl]; rfl
    have hnews : ∀ j u, (flat zs)[j]? = some u → (w.alloc (.cells #[] 66)).cell? (ad.add j) = some u := by
      intro j u hj
      have hj' := (List.getElem?_eq_some_iff.1 hj).1
      obtain ⟨b, off, e, hFb, hc⟩ := z3 (by omega)
      injection e with e
      subst e
      rw [add_mk, World.cell?_alloc_lt w _ _ (hF b hFb)]
      exact hc j u hj
    have H1 := Lib.hid (ones_flat ones_block z2)
    have HN := Lib.hid hnews
    have HL := Lib.hid hfl
    have Z1 := Lib.hid z1
    have HZ := Lib.hid hl
    obtain ⟨i0, zv, hi, hz0, hz1, hz2, hz3⟩ : ∃ i z, Try.prog.info? 66 = some i ∧ i.zero = some z ∧ i.size = 5 ∧ i.bytes = 56 ∧ z.cells.size = 5 := by
      have h1 : (Try.prog.info? 66).map (fun i => (i.zero.map (·.cells.size), i.size, i.bytes)) = some (some 5, 5, 56) := by kernel_rfl
      match hh : Try.prog.info? 66, h1 with
      | some i, h1 =>
        simp only [Option.map_some, Option.some.injEq, Prod.mk.injEq] at h1
        match hz : i.zero, h1 with
        | some z, h1 => exact ⟨i, z, rfl, hz, h1.2.1, h1.2.2, by simpa using h1.1⟩
    clear hnews hfl h z1 hl z3
    go_enter Try.func88, Try.ntmps88
    go_wp2_with (at_builtin; refine wpList_append_own_at _ rfl _ _ 54 rfl w.heap.size 66 i0 zv 5 56 Try.underlying54 hi hz0 hz1 hz2 hz3 (by omega) _ 0 [] rfl (ownsRow_empty w _ _) ad n c (flat zs) rfl HL.out HN.out H1.out (by unfold maxLen; omega) (by rw [Nat.zero_add]; exact hn) (by simp) ?_; intro v' w1 hown hgr _ _)
    go_ret
    rw [Nat.zero_add, List.nil_append] at hown
    refine ⟨v', zs, rfl, Z1.out, z2, hown, ?_⟩
    exact ((Below.refl _ _).alloc (Nat.le_refl _) _).grown hgr (by simp) (fun k hk => by injection hk with hk; exact Nat.le_of_eq hk)
end Go.Proofs.Ytnnbnjanekibpaa
namespace Go.Proofs.Ytnnbnjanekibpaa
open Go.RowKit
set_option linter.unusedVariables false
theorem point_mk {w : World} {F : Nat → Prop} {x : Point} (h1 : I64 x.tx) (h2 : I64 x.at_) : shPoint.rep w F x [.int .i64 x.tx, .int .i64 x.at_] :=
  ⟨x.tx, x.at_, [_], [_], rfl, rfl, ⟨rfl, h1⟩, rfl, h2⟩
theorem in_mk {w : World} {F : Nat → Prop} {x : In} {A : Option Addr} {n c : Nat} (h1 : I64 x.p.tx) (h2 : I64 x.p.at_) (hr : Rds shOp w F x.key A n c) : shIn.rep w F x [.int .i64 x.p.tx, .int .i64 x.p.at_, .slice A n c] :=
  ⟨x.p, x.key, [_, _], [_], rfl, rfl, point_mk h1 h2, A, n, c, rfl, hr⟩
theorem out_mk {w : World} {F : Nat → Prop} {x : Out} {A : Option Addr} {n c : Nat} (h1 : I64 x.coin) (hr : Rds shOp w F x.lock A n c) : shOut.rep w F x [.int .i64 x.coin, .slice A n c] :=
  ⟨x.coin, x.lock, [_], [_], rfl, rfl, ⟨rfl, h1⟩, A, n, c, rfl, hr⟩
theorem tx_mk {w : World} {F : Nat → Prop} {x : Tx} {A : Option Addr} {n c : Nat} {A' : Option Addr} {n' c' : Nat} (h1 : I64 x.height) (hi : Rds shIn w F x.ins A n c) (ho : Rds shOut w F x.outs A' n' c') : shTx.rep w F x [.int .i64 x.height, .slice A n c, .slice A' n' c'] :=
  ⟨x.height, (x.ins, x.outs), [_], [_, _], rfl, rfl, ⟨rfl, h1⟩, x.ins, x.outs, [_], [_], rfl, rfl, ⟨A, n, c, rfl, hi⟩, A', n', c', rfl, ho⟩
theorem block_mk {w : World} {F : Nat → Prop} {x : Block} {A : Option Addr} {n c : Nat} (h1 : I64 x.parent) (h2 : I64 x.height) (h3 : I64 x.work) (h4 : I64 x.nonce) (hr : Rds shTx w F x.txs A n c) :
    shBlock.rep w F x [.int .i64 x.parent, .int .i64 x.height, .int .i64 x.work, .int .i64 x.nonce, .slice A n c] :=
  ⟨x.parent, (x.height, x.work, x.nonce, x.txs), [_], [_, _, _, _], rfl, rfl, ⟨rfl, h1⟩, x.height, (x.work, x.nonce, x.txs), [_], [_, _, _], rfl, rfl, ⟨rfl, h2⟩, x.work, (x.nonce, x.txs), [_], [_, _], rfl, rfl, ⟨rfl, h3⟩, x.nonce, x.txs, [_], [_], rfl, rfl, ⟨rfl, h4⟩, A, n, c, rfl, hr⟩
theorem tree_mk {w : World} {F : Nat → Prop} {x : Tree} {A : Option Addr} {n c : Nat} {A' : Option Addr} {n' c' : Nat} (h1 : Rds shInt w F x.names A n c) (h2 : Rds shBlock w F x.blocks A' n' c') : shTree.rep w F x [.slice A n c, .slice A' n' c'] :=
  ⟨x.names, x.blocks, [_], [_], rfl, rfl, ⟨A, n, c, rfl, h1⟩, A', n', c', rfl, h2⟩
end Go.Proofs.Ytnnbnjanekibpaa
namespace Go.Proofs.Ytnnbnjanekibpaa
open Go.RowKit
set_option linter.unusedVariables false
structure Stop (p : Prop) : Prop where
  go : p
structure Res where
  block : Option Nat
  holds : Nat → (Nat → Prop) → World → Prop
  keep : ∀ {h0 : Nat} {F F' : Nat → Prop} {W W' : World}, Agree F W W' → (∀ b, F b → F' b) → (∀ g, block = some g → W'.heap[g]? = W.heap[g]?) → holds h0 F W → holds h0 F' W'
  lt : ∀ {h0 : Nat} {F : Nat → Prop} {W : World} {g : Nat}, holds h0 F W → block = some g → h0 ≤ g ∧ g < W.heap.size
def fact (p : World → (Nat → Prop) → Prop) (k : ∀ {W W' : World} {F F' : Nat → Prop}, Agree F W W' → (∀ b, F b → F' b) → p W F → p W' F') : Res := {
  block := none
  holds _ F W := p W F
  keep := fun ha hF _ h => k ha hF h
  lt := fun _ h => by cases h }
def rds {α : Type} (xs : List α) (A : Option Addr) (n c : Nat) (S : Sh α) : Res := fact (fun W F => Rds S W F xs A n c) fun ha hF h => (h.keep ha).more hF
def rep {α : Type} (x : α) (cs : List Value) (S : Sh α) : Res := fact (fun W F => S.rep W F x cs) fun ha hF h => S.more hF (S.keep ha h)
def cells (b o : Nat) (cs : List Value) : Res := fact (fun W F => F b ∧ W.rangeAt b o cs) fun ha hF h => ⟨hF _ h.1, fun j v hj => (ha.cell (p := ⟨b, o + j, none⟩) h.1).trans (h.2 j v hj)⟩
def box (g : Nat) (cs : List Value) (t : Nat) : Res := {
  block := some g
  holds h0 _ W := h0 ≤ g ∧ W.heap[g]? = some (.cells cs.toArray t (0, 0))
  keep := fun _ _ hb h => ⟨h.1, (hb g rfl).trans h.2⟩
  lt := fun h e => by injection e with e; subst e; exact ⟨h.1, blk_lt h.2⟩ }
theorem ownsRow_same {w w' : World} {base e size n : Nat} {v : Value} {xs : List Value} (h : w.ownsRow base e size v n xs) (hb : ∀ g, v.ownBlock = some g → w'.heap[g]? = w.heap[g]?) : w'.ownsRow base e size v n xs := by
  refine ⟨h.1, ?_⟩
  rcases h.2 with h0 | ⟨g, cap, cur, hv, hg, hh, r⟩
  · exact .inl h0
  · exact .inr ⟨g, cap, cur, hv, hg, by rw [hb g (by rw [hv]; rfl)]; exact hh, r⟩
def row {α : Type} (e : Nat) (v : Value) (xs : List α) (S : Sh α) : Res := {
  block := v.ownBlock
  holds h0 F W := ∃ zs : List (α × List Value), zs.map (·.1) = xs ∧ W.ownsRow h0 e S.size v xs.length (flat zs) ∧ ∀ z ∈ zs, S.rep W F z.1 z.2
  keep := fun ha hF hb ⟨zs, h1, h2, h3⟩ => ⟨zs, h1, ownsRow_same h2 hb, fun z hz => S.more hF (S.keep ha (h3 z hz))⟩
  lt := fun ⟨_, _, h2, _⟩ e => h2.lt _ e }
def Free (h0 : Nat) (F0 : Nat → Prop) (Γ : List Res) (W : World) (b : Nat) : Prop := (F0 b ∨ (h0 ≤ b ∧ b < W.heap.size)) ∧ ∀ r ∈ Γ, r.block ≠ some b
def All (h0 : Nat) (F0 : Nat → Prop) (W : World) (b : Nat) : Prop := F0 b ∨ (h0 ≤ b ∧ b < W.heap.size)
structure Sep (w0 : World) (F0 : Nat → Prop) (Γ : List Res) (W : World) : Prop where
  below : Below w0.heap.size w0 W
  low : ∀ b, F0 b → b < w0.heap.size
  all : ∀ r ∈ Γ, r.holds w0.heap.size (Free w0.heap.size F0 Γ W) W
  dj : Γ.Pairwise fun r r' => ∀ g, r.block = some g → r'.block ≠ some g
def At (Γ : List Res) (r : Res) : Prop := r ∈ Γ
theorem At.z {Γ : List Res} {r : Res} : At (r :: Γ) r := List.mem_cons_self ..
theorem At.s {Γ : List Res} {r q : Res} (h : At Γ r) : At (q :: Γ) r := List.mem_cons_of_mem _ h
def Put (Γ : List Res) (r r' : Res) (Γ' : List Res) : Prop := ∃ l1 l2, Γ = l1 ++ r :: l2 ∧ Γ' = l1 ++ r' :: l2
theorem Put.z {Γ : List Res} {r r' : Res} : Put (r :: Γ) r r' (r' :: Γ) := ⟨[], Γ, rfl, rfl⟩
theorem Put.s {Γ Γ' : List Res} {r r' q : Res} (h : Put Γ r r' Γ') : Put (q :: Γ) r r' (q :: Γ') := by
  obtain ⟨l1, l2, rfl, rfl⟩ := h
  exact ⟨q :: l1, l2, rfl, rfl⟩
def Del (Γ : List Res) (r : Res) (Γ' : List Res) : Prop := ∃ l1 l2, Γ = l1 ++ r :: l2 ∧ Γ' = l1 ++ l2
theorem Del.z {Γ : List Res} {r : Res} : Del (r :: Γ) r Γ := ⟨[], Γ, rfl, rfl⟩
theorem Del.s {Γ Γ' : List Res} {r q : Res} (h : Del Γ r Γ') : Del (q :: Γ) r (q :: Γ') := by
  obtain ⟨l1, l2, rfl, rfl⟩ := h
  exact ⟨q :: l1, l2, rfl, rfl⟩
theorem Put.at_ {Γ Γ' : List Res} {r r' : Res} (h : Put Γ r r' Γ') : At Γ r := by
  obtain ⟨l1, l2, rfl, rfl⟩ := h
  simp [At]
def Sub (Γ' Γ : List Res) : Prop := ∃ l, Γ.Perm (Γ' ++ l)
theorem Sub.nil {Γ : List Res} : Sub [] Γ := ⟨Γ, by simp⟩
theorem Sub.refl {Γ : List Res} : Sub Γ Γ := ⟨[], by simp⟩
theorem Sub.skip {Γ Γ' : List Res} {r : Res} (h : Sub Γ' Γ) : Sub Γ' (r :: Γ) := by
  obtain ⟨l, hl⟩ := h
  exact ⟨r :: l, (hl.cons r).trans List.perm_middle.symm⟩
theorem Sub.take {Γ Γ1 Γ' : List Res} {r : Res} (hd : Del Γ r Γ1) (h : Sub Γ' Γ1) : Sub (r :: Γ') Γ := by
  obtain ⟨l1, l2, rfl, rfl⟩ := hd
  obtain ⟨l, hl⟩ := h
  exact ⟨l, List.perm_middle.trans (hl.cons r)⟩
section
variable {w0 W W' : World} {F0 : Nat → Prop} {Γ Γ' : List Res}
theorem Sep.size (h : Sep w0 F0 Γ W) : w0.heap.size ≤ W.heap.size := h.below.size
theorem Free.lt (h : Sep w0 F0 Γ W) {b : Nat} (hb : Free w0.heap.size F0 Γ W b) : b < W.heap.size := by
  rcases hb.1 with h1 | h1
  · exact Nat.lt_of_lt_of_le (h.low b h1) h.size
  · exact h1.2
theorem Free.all {h0 : Nat} {b : Nat} (hb : Free h0 F0 Γ W b) : All h0 F0 W b := hb.1
theorem All.lt (h : Sep w0 F0 Γ W) {b : Nat} (hb : All w0.heap.size F0 W b) : b < W.heap.size := by
  rcases hb with h1 | h1
  · exact Nat.lt_of_lt_of_le (h.low b h1) h.size
  · exact h1.2
theorem Sep.start (w : World) (F : Nat → Prop) (hF : ∀ b, F b → b < w.heap.size) : Sep w F [] w := ⟨Below.refl _ _, hF, by simp, List.Pairwise.nil⟩
theorem Sep.get (h : Sep w0 F0 Γ W) {r : Res} (hr : At Γ r) : r.holds w0.heap.size (Free w0.heap.size F0 Γ W) W := h.all r hr
theorem Sep.out (h : Sep w0 F0 Γ W) {r : Res} (hr : At Γ r) : r.holds w0.heap.size (All w0.heap.size F0 W) W := r.keep (fun _ _ => rfl) (fun b hb => hb.1) (fun _ _ => rfl) (h.all r hr)
theorem Sep.lts (h : Sep w0 F0 Γ W) {r : Res} (hr : At Γ r) : r.holds w0.heap.size (Lt W.heap.size) W := r.keep (fun _ _ => rfl) (fun b hb => Free.lt h hb) (fun _ _ => rfl) (h.all r hr)
theorem Sep.sub (h : Sep w0 F0 Γ W) (hs : Sub Γ' Γ) : Sep w0 F0 Γ' W := by
  obtain ⟨l, hl⟩ := hs
  have hm : ∀ r ∈ Γ', r ∈ Γ := fun r hr => hl.mem_iff.2 (List.mem_append_left _ hr)
  refine ⟨h.below, h.low, fun r hr => r.keep (fun _ _ => rfl) (fun b hb => ⟨hb.1, fun q hq => hb.2 q (hm q hq)⟩) (fun _ _ => rfl) (h.all r (hm r hr)), ?_⟩
  have hp := (hl.pairwise_iff (R := fun r r' : Res => ∀ g, r.block = some g → r'.block ≠ some g) (fun hab g hb ha => hab g ha hb)).1 h.dj
  exact (List.pairwise_append.1 hp).1
theorem Sep.grow (h : Sep w0 F0 Γ W) (hg : W.grownBy W' none) {r : Res} (hr : r.holds w0.heap.size (Free w0.heap.size F0 (r :: Γ) W') W') (hb : ∀ g, r.block = some g → W.heap.size ≤ g) : Sep w0 F0 (r :: Γ) W' := by
  have hsz := h.size
  have hfree : ∀ b, Free w0.heap.size F0 Γ W b → Free w0.heap.size F0 (r :: Γ) W' b := by
    intro b hb'
    have hlt := Free.lt h hb'
    refine ⟨hb'.1.imp (fun x => x) (fun x => ⟨x.1, Nat.lt_of_lt_of_le x.2 hg.size⟩), fun q hq => ?_⟩
    rcases List.mem_cons.1 hq with rfl | hq
    · intro e
      have := hb b e
      omega
    · exact hb'.2 q hq
  refine ⟨h.below.grown hg hsz (fun k hk => by cases hk), h.low, ?_, ?_⟩
  · intro q hq
    rcases List.mem_cons.1 hq with rfl | hq
    · exact hr
    · exact q.keep (fun b hb' => hg.block b (Free.lt h hb') (by simp)) hfree (fun g hg' => hg.block g (q.lt (h.all q hq) hg').2 (by simp)) (h.all q hq)
  · refine List.pairwise_cons.2 ⟨fun q hq g h1 h2 => ?_, h.dj⟩
    have h3 := hb g h1
    have h4 := (q.lt (h.all q hq) h2).2
    omega
theorem Sep.more (h : Sep w0 F0 Γ W) (hg : W.grownBy W' none) : Sep w0 F0 Γ W' := by
  have hfree : ∀ b, Free w0.heap.size F0 Γ W b → Free w0.heap.size F0 Γ W' b := fun b hb' =>
    ⟨hb'.1.imp (fun x => x) (fun x => ⟨x.1, Nat.lt_of_lt_of_le x.2 hg.size⟩), hb'.2⟩
  exact ⟨h.below.grown hg h.size (fun k hk => by cases hk), h.low, fun q hq => q.keep (fun b hb' => hg.block b (Free.lt h hb') (by simp)) hfree (fun g hg' => hg.block g (q.lt (h.all q hq) hg').2 (by simp)) (h.all q hq), h.dj⟩
theorem grown_of_below {W W' : World} {row : Option Nat} (h : Below W.heap.size W W') : W.grownBy W' row := ⟨h.os, h.tape, h.output, h.size, fun k hk _ => h.block k hk⟩
theorem Sep.belows (h : Sep w0 F0 Γ W) (hb : Below W.heap.size W W') : Sep w0 F0 Γ W' := h.more (grown_of_below hb)
theorem Sep.drew (h : Sep w0 F0 Γ W) : Sep w0 F0 Γ W.drew := h.belows (Below.refl _ _).drew
theorem Sep.drewN (h : Sep w0 F0 Γ W) (n : Nat) : Sep w0 F0 Γ (W.drewN n) := h.belows (below_drewN (Below.refl _ _) n)
theorem Sep.add (h : Sep w0 F0 Γ W) {r : Res} (hn : r.block = none) (hr : r.holds w0.heap.size (Free w0.heap.size F0 Γ W) W) : Sep w0 F0 (r :: Γ) W := by
  refine h.grow ⟨rfl, rfl, rfl, Nat.le_refl _, fun _ _ _ => rfl⟩ (r.keep (fun _ _ => rfl) (fun b hb => ⟨hb.1, fun q hq => ?_⟩) (fun _ _ => rfl) hr) (fun g hg => by rw [hn] at hg; cases hg)
  rcases List.mem_cons.1 hq with rfl | hq
  · rw [hn]; simp
  · exact hb.2 q hq
theorem Sep.lift (h : Sep w0 F0 Γ W) {r q : Res} (hn : q.block = none) (hr : r.holds w0.heap.size (Free w0.heap.size F0 Γ W) W) : r.holds w0.heap.size (Free w0.heap.size F0 (q :: Γ) W) W :=
  r.keep (fun _ _ => rfl) (fun b hb => ⟨hb.1, fun p hp => by
    rcases List.mem_cons.1 hp with rfl | hp
    · rw [hn]; simp
    · exact hb.2 p hp⟩) (fun _ _ => rfl) hr
theorem Sep.add2 (h : Sep w0 F0 Γ W) {r q : Res} (hn : r.block = none) (hm : q.block = none) (hr : r.holds w0.heap.size (Free w0.heap.size F0 Γ W) W) (hq : q.holds w0.heap.size (Free w0.heap.size F0 Γ W) W) : Sep w0 F0 (r :: q :: Γ) W :=
  (h.add hm hq).add hn (h.lift hm hr)
theorem Sep.add3 (h : Sep w0 F0 Γ W) {r q p : Res} (hn : r.block = none) (hm : q.block = none) (ho : p.block = none) (hr : r.holds w0.heap.size (Free w0.heap.size F0 Γ W) W) (hq : q.holds w0.heap.size (Free w0.heap.size F0 Γ W) W) (hp : p.holds w0.heap.size (Free w0.heap.size F0 Γ W) W) : Sep w0 F0 (r :: q :: p :: Γ) W :=
  ((h.add ho hp).add hm (h.lift ho hq)).add hn ((h.add ho hp).lift hm (h.lift ho hr))
theorem Sep.put (h : Sep w0 F0 Γ W) {r r' : Res} (hp : Put Γ r r' Γ') (hg : W.grownBy W' r.block) (hb : ∀ g, r'.block = some g → r.block = some g ∨ W.heap.size ≤ g)
    (hr : (∀ b, Free w0.heap.size F0 Γ W b → Free w0.heap.size F0 Γ' W' b) → Agree (Free w0.heap.size F0 Γ W) W W' → r.holds w0.heap.size (Free w0.heap.size F0 Γ W) W → r'.holds w0.heap.size (Free w0.heap.size F0 Γ' W') W') : Sep w0 F0 Γ' W' := by
  obtain ⟨l1, l2, rfl, rfl⟩ := hp
  have hmr : r ∈ l1 ++ r :: l2 := by simp
  have hother : ∀ q, q ∈ l1 ∨ q ∈ l2 → q ∈ l1 ++ r :: l2 := fun q hq => by rcases hq with hq | hq <;> simp [hq]
  have hp := List.pairwise_append.1 h.dj
  have hp2 := List.pairwise_cons.1 hp.2.1
  have hdj : ∀ q, q ∈ l1 ∨ q ∈ l2 → ∀ g, q.block = some g → r.block ≠ some g := by
    intro q hq g h1 h2
    rcases hq with hq | hq
    · exact hp.2.2 q hq r (by simp) g h1 h2
    · exact hp2.1 q hq g h2 h1
  have hfree : ∀ b, Free w0.heap.size F0 (l1 ++ r :: l2) W b → Free w0.heap.size F0 (l1 ++ r' :: l2) W' b := by
    intro b hb'
    have hlt := Free.lt h hb'
    refine ⟨hb'.1.imp (fun x => x) (fun x => ⟨x.1, Nat.lt_of_lt_of_le x.2 hg.size⟩), fun q hq => ?_⟩
    simp only [List.mem_append, List.mem_cons] at hq
    rcases hq with hq | rfl | hq
    · exact hb'.2 q (hother q (.inl hq))
    · intro e
      rcases hb b e with h1 | h1
      · exact hb'.2 r hmr h1
      · omega
    · exact hb'.2 q (hother q (.inr hq))
  have hag : Agree (Free w0.heap.size F0 (l1 ++ r :: l2) W) W W' := fun b hb' => hg.block b (Free.lt h hb') (fun e => hb'.2 r hmr e.symm)
  have hkeep : ∀ q, q ∈ l1 ∨ q ∈ l2 → q.holds w0.heap.size (Free w0.heap.size F0 (l1 ++ r' :: l2) W') W' := fun q hq =>
    q.keep hag hfree (fun g hg' => hg.block g (q.lt (h.all q (hother q hq)) hg').2 (fun e => hdj q hq g hg' e.symm)) (h.all q (hother q hq))
  refine ⟨h.below.grown hg h.size (fun k hk => (r.lt (h.all r hmr) hk).1), h.low, ?_, ?_⟩
  · intro q hq
    simp only [List.mem_append, List.mem_cons] at hq
    rcases hq with hq | rfl | hq
    · exact hkeep q (.inl hq)
    · exact hr hfree hag (h.all r hmr)
    · exact hkeep q (.inr hq)
  · have hnew : ∀ q, q ∈ l1 ∨ q ∈ l2 → ∀ g, q.block = some g → r'.block ≠ some g := by
      intro q hq g h1 h2
      rcases hb g h2 with h3 | h3
      · exact hdj q hq g h1 h3
      · have := (q.lt (h.all q (hother q hq)) h1).2
        omega
    refine List.pairwise_append.2 ⟨hp.1, List.pairwise_cons.2 ⟨fun q hq g h1 h2 => hnew q (.inr hq) g h2 h1, hp2.2⟩, ?_⟩
    intro q hq q' hq' g h1 h2
    rcases List.mem_cons.1 hq' with rfl | hq'
    · exact hnew q (.inl hq) g h1 h2
    · exact hp.2.2 q hq q' (by simp [hq']) g h1 h2
theorem Sep.alloc (h : Sep w0 F0 Γ W) (cs : List Value) (t : Nat) : Sep w0 F0 (box W.heap.size cs t :: Γ) (W.alloc (.cells cs.toArray t)) :=
  h.grow (World.grownBy_alloc W _ none) ⟨h.size, heap_alloc_new W _⟩ (fun g hg => by injection hg with hg; omega)
theorem Sep.store (h : Sep w0 F0 Γ W) {g t j : Nat} {cs : List Value} (u : Value) (hp : Put Γ (box g cs t) (box g (cs.set j u) t) Γ') : Sep w0 F0 Γ' (W.setCell ⟨g, j, none⟩ u) := by
  refine h.put hp ⟨rfl, rfl, rfl, by simp [World.setCell], fun k hk hne => Below.heap_setCell _ _ _ _ (fun e => hne (by rw [e]; rfl))⟩ (fun g' hg' => .inl hg') ?_
  intro _ _ hr
  refine ⟨hr.1, ?_⟩
  have := blk_set (i := j) (u := u) hr.2
  rw [this]
  simp
theorem Sep.freeze (h : Sep w0 F0 Γ W) {r r' : Res} (hp : Put Γ r r' Γ') (hn : r'.block = none) (hr : (∀ b, Free w0.heap.size F0 Γ W b ∨ (r.block = some b ∧ w0.heap.size ≤ b ∧ b < W.heap.size) → Free w0.heap.size F0 Γ' W b) → r.holds w0.heap.size (Free w0.heap.size F0 Γ W) W → r'.holds w0.heap.size (Free w0.heap.size F0 Γ' W) W) : Sep w0 F0 Γ' W := by
  refine h.put hp ⟨rfl, rfl, rfl, Nat.le_refl _, fun _ _ _ => rfl⟩ (fun g hg => by rw [hn] at hg; cases hg) ?_
  intro hf _ hh
  refine hr (fun b hb => ?_) hh
  rcases hb with hb | ⟨hb, h1, h2⟩
  · exact hf b hb
  · refine ⟨.inr ⟨h1, h2⟩, fun q hq e => ?_⟩
    obtain ⟨l1, l2, rfl, rfl⟩ := hp
    have hp := List.pairwise_append.1 h.dj
    have hp2 := List.pairwise_cons.1 hp.2.1
    simp only [List.mem_append, List.mem_cons] at hq
    rcases hq with hq | rfl | hq
    · exact hp.2.2 q hq r (by simp) b e hb
    · rw [hn] at e; cases e
    · exact hp2.1 q hq b hb e
end
def AggN (P : Program) (t : TypeId) (n : Nat) : Prop := ∃ d, P.underlying t = some d ∧ d.isRow = true ∧ (P.info? t).map (·.size) = some n
def OneT (P : Program) (t : TypeId) : Prop := ∃ d, P.underlying t = some d ∧ d.isRow = false ∧ (P.info? t).map (·.size) = some 1
def ZeroT (P : Program) (t : TypeId) (cs : List Value) : Prop := ∃ z : Value, z.cells = cs.toArray ∧ ∀ W, (zeroValue t).run P W = .ok z W
def SliceT (P : Program) (t e size bytes : Nat) : Prop := P.underlying t = some (.slice e) ∧ ∃ i z, P.info? e = some i ∧ i.zero = some z ∧ i.size = size ∧ i.bytes = bytes ∧ z.cells.size = size
theorem SliceT.mk {P : Program} {t e size bytes : Nat} (h : P.underlying t = some (.slice e)) (h1 : (P.info? e).map (fun i => (i.zero.map (·.cells.size), i.size, i.bytes)) = some (some size, size, bytes)) : SliceT P t e size bytes := by
  refine ⟨h, ?_⟩
  match hh : P.info? e, h1 with
  | some i, h1 =>
    simp only [Option.map_some, Option.some.injEq, Prod.mk.injEq] at h1
    match hz : i.zero, h1 with
    | some z, h1 => exact ⟨i, z, rfl, hz, h1.2.1, h1.2.2, by simpa using h1.1⟩
theorem AggN.mk {P : Program} {t n : Nat} {d : TypeDesc} (h : P.underlying t = some d) (hd : d.isRow = true) (hi : (P.info? t).map (·.size) = some n) : AggN P t n := ⟨d, h, hd, hi⟩
theorem OneT.mk {P : Program} {t : Nat} {d : TypeDesc} (h : P.underlying t = some d) (hd : d.isRow = false) (hi : (P.info? t).map (·.size) = some 1) : OneT P t := ⟨d, h, hd, hi⟩
theorem OneT.load {P : Program} {t : Nat} (h : OneT P t) {W : World} {p : Addr} {v : Value} (hv : W.cell? p = some v) : (loadVar t p).run P W = .ok v W := by
  obtain ⟨d, hu, hd, _⟩ := h
  have hagg : (isAgg t).run P W = .ok false W := by
    unfold isAgg
    rw [Sem.run_bind, run_underlying hu W]
    cases d <;> simp_all
  simp [loadVar, Sem.run_bind, hagg, hv]
theorem AggN.load {P : Program} {t b o : Nat} {cs : List Value} (h : AggN P t cs.length) {W : World} (hv : W.rangeAt b o cs) : (loadVar t ⟨b, o, none⟩).run P W = .ok (.agg cs.toArray) W := by
  obtain ⟨d, hu, hd, hi⟩ := h
  exact run_loadVar_mid W b o t cs d hv hu hd hi
theorem cells_one {v : Value} (h : v.oneCell' = true) : v.cells = #[v] := by cases v <;> first | rfl | cases h
theorem OneT.store {P : Program} {t : Nat} (h : OneT P t) {W : World} {p : Addr} {v u : Value} (hv : W.cell? p = some u) (hf : W.frozen? p = false) (h1 : v.oneCell' = true) : (storeVar t p v).run P W = .ok () (W.setCell p v) := by
  obtain ⟨d, hu, hd, hi⟩ := h
  match hh : P.info? t, hi with
  | some i, hi =>
    simp at hi
    have e : p.add 0 = p := by unfold Addr.add; simp
    simp [storeVar, sizeOf, typeInfo, hh, cells_one h1, hi, storeCells, e, run_store P W p v _ h1, hv, hf]
theorem AggN.store {P : Program} {t g ty : Nat} {old cs : List Value} (h : AggN P t cs.length) {W : World} (hg : W.heap[g]? = some (.cells old.toArray ty (0, 0))) (hl : old.length = cs.length) (h1 : Ones cs) :
    (storeVar t ⟨g, 0, none⟩ (.agg cs.toArray)).run P W = .ok () (W.setRow g cs.toArray) := by
  obtain ⟨d, hu, hd, hi⟩ := h
  exact run_storeVar_row W g ty t old.toArray cs.toArray hg (by simpa using hi) (by simpa using hl) (all_oneCell_toArray h1)
def RV (w0 : World) (F0 : Nat → Prop) (Γ : List Res) (v : Value) (e : Ending) (W : World) : Prop := e = .returned v ∧ Sep w0 F0 Γ W
def RS (w0 : World) (F0 : Nat → Prop) (Γ : List Res) {τ : Type} (S : Sh τ) (x : τ) (e : Ending) (W : World) : Prop := ∃ cs : List Value, e = .returned (.agg cs.toArray) ∧ Sep w0 F0 (rep x cs S :: Γ) W
def RL (w0 : World) (F0 : Nat → Prop) (Γ : List Res) {τ : Type} (S : Sh τ) (xs : List τ) (e : Ending) (W : World) : Prop := ∃ A n c, e = .returned (.slice A n c) ∧ Sep w0 F0 (rds xs A n c S :: Γ) W
def RO (w0 : World) (F0 : Nat → Prop) (Γ : List Res) {τ : Type} (S : Sh τ) (t : Nat) (xs : List τ) (e : Ending) (W : World) : Prop := ∃ v, e = .returned v ∧ Sep w0 F0 (row t v xs S :: Γ) W
def RSE (w0 : World) (F0 : Nat → Prop) (Γ : List Res) {τ : Type} (S : Sh τ) (x : τ) (n : Int) (e : Ending) (W : World) : Prop := ∃ cs : List Value, e = .returned (.tuple #[.agg cs.toArray, .int .i64 n]) ∧ Sep w0 F0 (rep x cs S :: Γ) W
def RLE (w0 : World) (F0 : Nat → Prop) (Γ : List Res) {τ : Type} (S : Sh τ) (xs : List τ) (m : Int) (e : Ending) (W : World) : Prop := ∃ A n c, e = .returned (.tuple #[.slice A n c, .int .i64 m]) ∧ Sep w0 F0 (rds xs A n c S :: Γ) W
section
variable {P : Program} {w0 W : World} {F0 : Nat → Prop} {Γ Γ' Γ1 : List Res}
theorem Sep.old (h : Sep w0 F0 Γ W) {f : FuncId} {args : Array Value} {v : Value} (hc : Calls P f args W fun e w' => e = .returned v ∧ Below W.heap.size W w') : Calls P f args W (RV w0 F0 Γ v) :=
  hc.mono fun e w' ⟨h1, h2⟩ => ⟨h1, h.belows h2⟩
theorem Sep.oldN (h : Sep w0 F0 Γ W) {f : FuncId} {args : Array Value} {v : Value} (hc : Calls P f args W fun e w' => e = .returned v ∧ ∃ m, w' = W.drewN m) : Calls P f args W (RV w0 F0 Γ v) :=
  hc.mono fun e w' ⟨h1, m, h2⟩ => ⟨h1, h2 ▸ h.drewN m⟩
theorem Sep.oldS (h : Sep w0 F0 Γ W) {f : FuncId} {args : Array Value} {v : Value} (hc : Calls P f args W fun e w' => e = .returned v ∧ W = w') : Calls P f args W (RV w0 F0 Γ v) :=
  hc.mono fun e w' ⟨h1, h2⟩ => ⟨h1, h2 ▸ h⟩
theorem Sep.boxAt (h : Sep w0 F0 Γ W) {g t : Nat} {cs : List Value} (hm : At Γ (box g cs t)) : W.rangeAt g 0 cs := fun j v hv => by
  rw [Nat.zero_add, blk_cell (h.get hm).2]; simpa using hv
theorem Sep.cellsAt (h : Sep w0 F0 Γ W) {b o : Nat} {cs : List Value} (hm : At Γ (cells b o cs)) : W.rangeAt b o cs := (h.get hm).2
section
variable {ops : Array Oper} {Q : Exit → Act → World → Prop} {a : Act} {rest : List Oper} {o : Oper} {t : TypeId} {x y : Operand}
theorem Sep.wbox (h : Sep w0 F0 Γ W) {cs : List Value} (hgd : Region.wanted o (yielded ops a.tmps) = true) (ho : o.op = .box t x) (hx : (a.eval x).cells = cs.toArray)
    (k : ∀ g W', Sep w0 F0 (box g cs t :: Γ) W' → wpList P ops Q rest (a.put o.dst (.pointer (some ⟨g, 0, none⟩))) W') : wpList P ops Q (o :: rest) a W :=
  BigFrame.wpList_want hgd fun K hK => by
    unfold Oper.wp execOp
    simp only [ho, Instr.box, newVar, newRow, Sem.run_bind, run_newObj_alloc, Result.andThen_ok, Sem.run_pure, hx]
    exact hK _ _ (k _ _ (h.alloc cs t))
theorem Sep.walloc (h : Sep w0 F0 Γ W) {cs : List Value} (hgd : Region.wanted o (yielded ops a.tmps) = true) (ho : o.op = .alloc t) (hz : ZeroT P t cs)
    (k : ∀ g W', Sep w0 F0 (box g cs t :: Γ) W' → wpList P ops Q rest (a.put o.dst (.pointer (some ⟨g, 0, none⟩))) W') : wpList P ops Q (o :: rest) a W :=
  BigFrame.wpList_want hgd fun K hK => by
    obtain ⟨z, hz1, hz2⟩ := hz
    unfold Oper.wp execOp
    simp only [ho, Instr.alloc, newVar, newRow, Sem.run_bind, run_newObj_alloc, Result.andThen_ok, Sem.run_pure, hz2, hz1]
    exact hK _ _ (k _ _ (h.alloc cs t))
theorem wload (hgd : Region.wanted o (yielded ops a.tmps) = true) (ho : o.op = .load t x) {p : Addr} {v : Value} (hx : a.eval x = .pointer (some p)) (hr : (loadVar t p).run P W = .ok v W)
    (k : wpList P ops Q rest (a.put o.dst v) W) : wpList P ops Q (o :: rest) a W :=
  BigFrame.wpList_want hgd fun K hK => by
    unfold Oper.wp execOp
    simp only [ho, Instr.loadAt, Instr.sureAddr, Sem.run_bind, Result.andThen_ok, Sem.run_pure, hx, hr]
    exact hK _ _ k
theorem Sep.wload1b (h : Sep w0 F0 Γ W) (hgd : Region.wanted o (yielded ops a.tmps) = true) (ho : o.op = .load t x) {g j ty : Nat} {cs : List Value} {v : Value} (hx : a.eval x = .pointer (some ⟨g, j, none⟩)) (h1 : OneT P t) (hm : At Γ (box g cs ty)) (hv : cs[j]? = some v)
    (k : wpList P ops Q rest (a.put o.dst v) W) : wpList P ops Q (o :: rest) a W := by
  refine wload hgd ho hx (h1.load ?_) k
  have := h.boxAt hm j v hv
  rwa [Nat.zero_add] at this
theorem Sep.wloadNb (h : Sep w0 F0 Γ W) (hgd : Region.wanted o (yielded ops a.tmps) = true) (ho : o.op = .load t x) {g ty : Nat} {cs : List Value} (hx : a.eval x = .pointer (some ⟨g, 0, none⟩)) (hm : At Γ (box g cs ty)) (h1 : AggN P t cs.length)
    (k : wpList P ops Q rest (a.put o.dst (.agg cs.toArray)) W) : wpList P ops Q (o :: rest) a W :=
  wload hgd ho hx (h1.load (h.boxAt hm)) k
theorem Sep.wload1c (h : Sep w0 F0 Γ W) (hgd : Region.wanted o (yielded ops a.tmps) = true) (ho : o.op = .load t x) {b q j : Nat} {cs : List Value} {v : Value} (hx : a.eval x = .pointer (some ⟨b, q + j, none⟩)) (h1 : OneT P t) (hm : At Γ (cells b q cs)) (hv : cs[j]? = some v)
    (k : wpList P ops Q rest (a.put o.dst v) W) : wpList P ops Q (o :: rest) a W :=
  wload hgd ho hx (h1.load (h.cellsAt hm j v hv)) k
theorem Sep.wload1z (h : Sep w0 F0 Γ W) (hgd : Region.wanted o (yielded ops a.tmps) = true) (ho : o.op = .load t x) {b q : Nat} {cs : List Value} {v : Value} (hx : a.eval x = .pointer (some ⟨b, q, none⟩)) (h1 : OneT P t) (hm : At Γ (cells b q cs)) (hv : cs[0]? = some v)
    (k : wpList P ops Q rest (a.put o.dst v) W) : wpList P ops Q (o :: rest) a W :=
  wload hgd ho hx (h1.load (h.cellsAt hm 0 v hv)) k
theorem Sep.wloadNz (h : Sep w0 F0 Γ W) (hgd : Region.wanted o (yielded ops a.tmps) = true) (ho : o.op = .load t x) {b q : Nat} {cs : List Value} (hx : a.eval x = .pointer (some ⟨b, q, none⟩)) (hm : At Γ (cells b q cs)) (h1 : AggN P t cs.length)
    (k : wpList P ops Q rest (a.put o.dst (.agg cs.toArray)) W) : wpList P ops Q (o :: rest) a W :=
  wload hgd ho hx (h1.load (h.cellsAt hm)) k
theorem wstore (hgd : Region.wanted o (yielded ops a.tmps) = true) (ho : o.op = .store t x y) {p : Addr} {v : Value} {W' : World} (hx : a.eval x = .pointer (some p)) (hy : a.eval y = v) (hr : (storeVar t p v).run P W = .ok () W')
    (k : wpList P ops Q rest (a.put o.dst undef) W') : wpList P ops Q (o :: rest) a W :=
  BigFrame.wpList_want hgd fun K hK => by
    unfold Oper.wp execOp
    simp only [ho, Instr.storeAt, Instr.sureAddr, Sem.run_bind, Result.andThen_ok, Sem.run_pure, hx, hy, hr]
    exact hK _ _ k
theorem Sep.wstore1b (h : Sep w0 F0 Γ W) (hgd : Region.wanted o (yielded ops a.tmps) = true) (ho : o.op = .store t x y) {g j ty : Nat} {cs cs' : List Value} {v u : Value} (hx : a.eval x = .pointer (some ⟨g, j, none⟩)) (hy : a.eval y = v) (h1 : OneT P t) (hone : v.oneCell' = true)
    (hm : At Γ (box g cs ty)) (hv : cs[j]? = some u) (hc : cs.set j v = cs') (hp : Put Γ (box g cs ty) (box g cs' ty) Γ')
    (k : ∀ W', Sep w0 F0 Γ' W' → wpList P ops Q rest (a.put o.dst undef) W') : wpList P ops Q (o :: rest) a W := by
  subst hc
  have hb := (h.get hm).2
  refine wstore hgd ho hx hy (h1.store (u := u) ?_ (blk_free hb) hone) (k _ (h.store v hp))
  have := h.boxAt hm j u hv
  rwa [Nat.zero_add] at this
theorem setRow_far {W : World} {g k : Nat} {cs : Array Value} (h : k ≠ g) : (W.setRow g cs).heap[k]? = W.heap[k]? := setRow_other W g k cs h
theorem Sep.setRow (h : Sep w0 F0 Γ W) {g ty : Nat} {cs cs' : List Value} (hp : Put Γ (box g cs ty) (box g cs' ty) Γ') : Sep w0 F0 Γ' (W.setRow g cs'.toArray) := by
  refine h.put hp ⟨rfl, rfl, rfl, by simp, fun k hk hne => setRow_far (fun e => hne (by rw [e]; rfl))⟩ (fun g' hg' => .inl hg') ?_
  intro _ _ hr
  exact ⟨hr.1, setRow_heap W g cs.toArray cs'.toArray ty _ hr.2⟩
theorem Sep.wstoreNb (h : Sep w0 F0 Γ W) (hgd : Region.wanted o (yielded ops a.tmps) = true) (ho : o.op = .store t x y) {g ty : Nat} {cs cs' : List Value} (hx : a.eval x = .pointer (some ⟨g, 0, none⟩)) (hy : a.eval y = .agg cs'.toArray) (h1 : AggN P t cs'.length) (hone : Ones cs')
    (hm : At Γ (box g cs ty)) (hl : cs.length = cs'.length) (hp : Put Γ (box g cs ty) (box g cs' ty) Γ')
    (k : ∀ W', Sep w0 F0 Γ' W' → wpList P ops Q rest (a.put o.dst undef) W') : wpList P ops Q (o :: rest) a W := by
  have hb := (h.get hm).2
  exact wstore hgd ho hx hy (h1.store hb hl hone) (k _ (h.setRow hp))
end
end
theorem Addr_add_mk (b off k : Nat) : (Addr.mk b off none).add k = ⟨b, off + k, none⟩ := by unfold Addr.add; split <;> simp_all
section
variable {P : Program} {w0 W : World} {F0 : Nat → Prop} {Γ Γ' Γ1 Γ2 : List Res}
theorem Del.sub {r : Res} (h : Del Γ r Γ1) : Sub Γ1 Γ := by
  obtain ⟨l1, l2, rfl, rfl⟩ := h
  exact ⟨[r], by simpa using List.perm_middle.trans (List.perm_append_singleton r (l1 ++ l2)).symm⟩
theorem Del.front {r : Res} (h : Del Γ r Γ1) : Sub (r :: Γ1) Γ := Sub.take h Sub.refl
theorem Sep.del (h : Sep w0 F0 Γ W) {r : Res} (hd : Del Γ r Γ1) : Sep w0 F0 Γ1 W := h.sub hd.sub
theorem Sep.front (h : Sep w0 F0 Γ W) {r : Res} (hd : Del Γ r Γ1) : Sep w0 F0 (r :: Γ1) W := h.sub hd.front
theorem Sep.elem (h : Sep w0 F0 Γ W) {α : Type} {S : Sh α} {xs : List α} {A : Option Addr} {n c i : Nat} (hm : At Γ (rds xs A n c S)) (hi : i < n) :
    ∃ b off z cs, A = some ⟨b, off, none⟩ ∧ xs[i]? = some z ∧ Sep w0 F0 (cells b (off + i * S.size) cs :: rep z cs S :: Γ) W := by
  have hr : Rds S W (Free w0.heap.size F0 Γ W) xs A n c := h.get hm
  obtain ⟨b, off, z, cs, e, hF, hx, hz, hc⟩ := hr.at_ hi
  refine ⟨b, off, z, cs, e, hx, ?_⟩
  have h1 : Sep w0 F0 (rep z cs S :: Γ) W := h.add rfl hz
  exact h1.add rfl ⟨⟨hF.1, fun q hq => by
    rcases List.mem_cons.1 hq with rfl | hq
    · intro e; cases e
    · exact hF.2 q hq⟩, hc⟩
section
variable {ops : Array Oper} {Q : Exit → Act → World → Prop} {a : Act} {rest : List Oper} {o : Oper} {t : TypeId} {x y : Operand}
theorem run_indexAt_slice {e size b off n c : Nat} {k : IntKind} {i : Int} {ie : TypeInfo} (ht : P.underlying t = some (.slice e)) (he : P.info? e = some ie) (hs : ie.size = size) (h0 : 0 ≤ i) (h1 : i < n) :
    (Instr.indexAt t (.slice (some ⟨b, off, none⟩) n c) (.int k i)).run P W = .ok (.pointer (some ⟨b, off + i.toNat * size, none⟩)) W := by
  have : (0 ≤ i ∧ i < n) := ⟨h0, h1⟩
  simp [Instr.indexAt, asIntOf, run_underlying ht, sizeOf, typeInfo, he, hs, this, Addr_add_mk]
theorem Sep.windex (h : Sep w0 F0 Γ W) (hgd : Region.wanted o (yielded ops a.tmps) = true) (ho : o.op = .indexAddr t x y) {α : Type} {S : Sh α} {xs : List α} {A : Option Addr} {n c e bytes : Nat} {kd : IntKind} {i : Int} (hx : a.eval x = .slice A n c) (hy : a.eval y = .int kd i)
    (hm : At Γ (rds xs A n c S)) (hT : SliceT P t e S.size bytes) (h0 : 0 ≤ i) (h1 : i < n)
    (k : ∀ b q z cs, Hid (xs[i.toNat]? = some z) → Sep w0 F0 (cells b q cs :: rep z cs S :: Γ) W → wpList P ops Q rest (a.put o.dst (.pointer (some ⟨b, q, none⟩))) W) : wpList P ops Q (o :: rest) a W :=
  BigFrame.wpList_want hgd fun K hK => by
    obtain ⟨b, off, z, cs, rfl, hz, hS⟩ := h.elem hm (i := i.toNat) (by omega)
    obtain ⟨ht, ie, zv, he, _, hs, _⟩ := hT
    unfold Oper.wp execOp
    simp only [ho, hx, hy, Sem.run_bind, run_indexAt_slice ht he hs h0 h1, Result.andThen_ok, Sem.run_pure]
    exact hK _ _ (k _ _ _ _ (Lib.hid hz) hS)
theorem Sep.windexN (h : Sep w0 F0 Γ W) (hgd : Region.wanted o (yielded ops a.tmps) = true) (ho : o.op = .indexAddr t x y) {α : Type} {S : Sh α} {xs : List α} {A : Option Addr} {n c e bytes : Nat} {kd : IntKind} {i : Nat} (hx : a.eval x = .slice A n c) (hy : a.eval y = .int kd (i : Int))
    (hm : At Γ (rds xs A n c S)) (hT : SliceT P t e S.size bytes) (h1 : i < n)
    (k : ∀ b q z cs, Hid (xs[i]? = some z) → Sep w0 F0 (cells b q cs :: rep z cs S :: Γ) W → wpList P ops Q rest (a.put o.dst (.pointer (some ⟨b, q, none⟩))) W) : wpList P ops Q (o :: rest) a W :=
  h.windex hgd ho hx hy hm hT (by omega) (by omega) fun b q z cs hz hS => k b q z cs (by simpa using hz) hS
theorem map_one (a : Act) (i : Nat) (x : Operand) : ((#[(i, x)] : Array (Nat × Operand)).map fun (i, x) => (i, a.eval x)).toList = (([a.eval x]).zipIdx i).map fun p => (p.2, p.1) := by simp
theorem Sep.wbuild1 (h : Sep w0 F0 Γ W) (hgd : o.guard = none) (ho : o.op = .buildSlice t 1 #[(0, x)]) {e s bytes : Nat} {cs : List Value} (hT : SliceT P t e s bytes) (hs : 0 < s) (hs2 : s ≤ 1000) (hx : (a.eval x).cells = cs.toArray) (hc : cs.length = s)
    (k : ∀ g W', Sep w0 F0 (box g cs e :: Γ) W' → wpList P ops Q rest (a.put o.dst (.slice (some ⟨g, 0, none⟩) 1 1)) W') : wpList P ops Q (o :: rest) a W := by
  obtain ⟨ht, ie, zv, he, hz, hsz, _, hzs⟩ := hT
  refine wpList_buildSlice hgd t e 1 _ ho cs.toArray ie zv ht he hz (by rw [hsz]; omega) (by rw [hsz]; omega) ?_ (k _ _ (h.alloc cs e))
  rw [map_one, hsz, Nat.one_mul]
  refine (Great.fill_whole hs [a.eval x] _ (fun v hv => ?_) (by simp)).trans ?_
  · simp only [List.mem_singleton] at hv
    subst hv
    rw [hx]; simpa using hc
  · simp [hx]
theorem Sep.wappend1 (h : Sep w0 F0 Γ W) (hgd : o.guard = none) (ho : o.op = .call { callee := .builtin .append, args := #[x, y], argTypes := #[t, t] }) {α : Type} {S : Sh α} {e bytes g : Nat} {v : Value} {xs : List α} {z : α} {cs : List Value}
    (hx : a.eval x = v) (hy : a.eval y = .slice (some ⟨g, 0, none⟩) 1 1) (hb : Del Γ (box g cs e) Γ1) (hr : Del Γ1 (row e v xs S) Γ2) (hz : At Γ2 (rep z cs S)) (hT : SliceT P t e S.size bytes) (hpos : 0 < S.size) (hS1 : S.ones) (hl : xs.length ≤ 1000000) (hby : bytes ≤ 10000)
    (k : ∀ v' W', Sep w0 F0 (row e v' (xs ++ [z]) S :: Γ2) W' → wpList P ops Q rest (a.put o.dst v') W') : wpList P ops Q (o :: rest) a W := by
  obtain ⟨ht, ie, zv, he, hz0, hsz, hbz, hzs⟩ := hT
  have hbox := h.get (Put.at_ (by obtain ⟨l1, l2, rfl, rfl⟩ := hb; exact ⟨l1, l2, rfl, rfl⟩ : Put Γ (box g cs e) (box g cs e) Γ))
  have h1 := (h.del hb).front hr
  obtain ⟨zs, hz1, hz2, hz3⟩ := h1.get At.z
  have hrep : S.rep W _ z cs := h1.get (At.s hz)
  have hlen := S.len hrep
  refine wpList_append_own_at W hgd x y t ho w0.heap.size e ie zv S.size bytes ht he hz0 hsz hbz hzs hpos v xs.length (flat zs) hx hz2 ⟨g, 0, none⟩ 1 1 cs hy (by rw [hlen, Nat.one_mul])
    (fun j u hj => by rw [Addr_add_mk, Nat.zero_add, blk_cell hbox.2]; simpa using hj) (hS1 hrep) (by unfold maxLen; omega) ?_ h.size ?_
  · have := Nat.mul_le_mul (show xs.length + 1 ≤ 1000001 by omega) hby
    omega
  · intro v' W' ho1 hgr _ hat
    refine k v' W' (h1.put (r' := row e v' (xs ++ [z]) S) Put.z hgr ?_ ?_)
    · intro g' hg'
      rcases hat with h2 | h2
      · exact .inl (by rw [← hg']; exact h2.symm)
      · rw [show (row e v' (xs ++ [z]) S).block = v'.ownBlock from rfl, h2] at hg'
        injection hg' with hg'
        exact .inr (Nat.le_of_eq hg')
    · intro hfree hag _
      refine ⟨zs ++ [(z, cs)], by simp [hz1], ?_, ?_⟩
      · rw [flat_append, List.length_append]
        simpa [flat] using ho1
      · intro q hq
        rcases List.mem_append.1 hq with hq | hq
        · exact S.more hfree (S.keep hag (hz3 q hq))
        · simp only [List.mem_singleton] at hq
          subst hq
          exact S.more hfree (S.keep hag hrep)
theorem Sep.nilRow (h : Sep w0 F0 Γ W) {α : Type} (S : Sh α) (e : Nat) : Sep w0 F0 (row e (.slice none 0 0) [] S :: Γ) W :=
  h.grow ⟨rfl, rfl, rfl, Nat.le_refl _, fun _ _ _ => rfl⟩ ⟨[], rfl, World.ownsRow_nil _ _ _ _, by simp⟩ (fun g hg => by cases hg)
theorem Sep.freezeRow (h : Sep w0 F0 Γ W) {α : Type} {S : Sh α} {e : Nat} {v : Value} {xs : List α} (hd : Del Γ (row e v xs S) Γ1) : ∃ A n c, v = .slice A n c ∧ n = xs.length ∧ Sep w0 F0 (rds xs A n c S :: Γ1) W := by
  have h1 := h.front hd
  obtain ⟨zs, hz1, hz2, hz3⟩ := h1.get At.z
  have hn : zs.length = xs.length := by rw [← hz1]; simp
  have key : ∀ F : Nat → Prop, (∀ b, Free w0.heap.size F0 (row e v xs S :: Γ1) W b ∨ (v.ownBlock = some b ∧ w0.heap.size ≤ b ∧ b < W.heap.size) → F b) → ∃ A c, v = .slice A xs.length c ∧ Rds S W F xs A xs.length c := by
    intro F hF
    have hz2' : W.ownsRow w0.heap.size e S.size v xs.length (flat zs) := hz2
    rcases hz2'.2 with ⟨hv, h0⟩ | ⟨g, cap, cur, hv, hg, hh, r⟩
    · have hx : xs = [] := List.eq_nil_of_length_eq_zero h0
      subst hx
      exact ⟨none, 0, hv, Rds.nil _ _ _⟩
    · have hgF : F g := hF g (.inr ⟨by rw [hv]; rfl, hg, blk_lt hh⟩)
      obtain ⟨hnc, hcm, hcs, hta⟩ := r
      refine ⟨_, _, hv, rfl, hnc, by unfold maxLen at hcm; omega, fun hpos => ⟨g, 0, rfl, hgF, fun i hi => ?_⟩⟩
      have hi' : i < zs.length := by omega
      refine ⟨zs[i].2, ?_, fun j u hj => ?_⟩
      · have e1 : xs[i] = zs[i].1 := by simp [← hz1]
        rw [e1]
        exact S.more (fun b hb => hF b (.inl hb)) (hz3 _ (List.getElem_mem hi'))
      · have hjl : j < S.size := by
          have := S.len (hz3 _ (List.getElem_mem hi'))
          have := (List.getElem?_eq_some_iff.1 hj).1
          omega
        have e1 := flat_at (fun z hz' => S.len (hz3 z hz')) (List.getElem?_eq_getElem hi') hjl
        rw [hj, ← hta, List.getElem?_take] at e1
        split at e1
        · rw [cell_of_row W g _ cur _ (0, 0) hh, Nat.zero_add]; simpa using e1
        · cases e1
  obtain ⟨A, c, hv, _⟩ := key (fun _ => True) (fun _ _ => trivial)
  refine ⟨A, xs.length, c, hv, rfl, h1.freeze (r' := rds xs A xs.length c S) Put.z rfl ?_⟩
  intro hF _
  obtain ⟨A', c', hv', hr⟩ := key _ hF
  rw [hv] at hv'
  simp only [Value.slice.injEq] at hv'
  obtain ⟨rfl, _, rfl⟩ := hv'
  exact hr
theorem Sep.rowSlice (h : Sep w0 F0 Γ W) {α : Type} {S : Sh α} {e : Nat} {v : Value} {xs : List α} (hm : At Γ (row e v xs S)) : ∃ A c, v = .slice A xs.length c ∧ xs.length ≤ c ∧ c ≤ 9223372036854775807 := by
  obtain ⟨zs, hz1, hz2, hz3⟩ := h.get hm
  have hz2' : W.ownsRow w0.heap.size e S.size v xs.length (flat zs) := hz2
  rcases hz2'.2 with ⟨hv, h0⟩ | ⟨g, cap, cur, hv, hg, hh, hnc, hcm, r⟩
  · exact ⟨none, 0, by rw [hv, h0], by omega, by omega⟩
  · exact ⟨_, cap, hv, hnc, by unfold maxLen at hcm; omega⟩
end
theorem Sep.pure (h : Sep w0 F0 Γ W) {α : Type} {S : Sh α} {z : α} {cs : List Value} (hz : ∀ W F, S.rep W F z cs) : Sep w0 F0 (rep z cs S :: Γ) W := h.add rfl (hz _ _)
theorem Sep.open_int (h : Sep w0 F0 Γ W) {x : Int} {cs : List Value} (hm : At Γ (rep x cs shInt)) : cs = [.int .i64 x] ∧ I64 x := h.get hm
theorem Sep.open_str (h : Sep w0 F0 Γ W) {x : List UInt8} {cs : List Value} (hm : At Γ (rep x cs shStr)) : cs = [.string ⟨x.toArray⟩] ∧ x.length ≤ 9223372036854775807 := h.get hm
theorem Sep.open_op (h : Sep w0 F0 Γ W) {x : Op} {cs : List Value} (hm : At Γ (rep x cs shOp)) : cs = [.int .i64 x.kind, .int .i64 x.n] ∧ I64 x.kind ∧ I64 x.n := rep_op (h.get hm)
theorem Sep.open_point (h : Sep w0 F0 Γ W) {x : Point} {cs : List Value} (hm : At Γ (rep x cs shPoint)) : cs = [.int .i64 x.tx, .int .i64 x.at_] ∧ I64 x.tx ∧ I64 x.at_ := rep_point (h.get hm)
theorem Sep.open_in (h : Sep w0 F0 Γ W) {x : In} {cs : List Value} (hm : At Γ (rep x cs shIn)) : ∃ A n c, cs = [.int .i64 x.p.tx, .int .i64 x.p.at_, .slice A n c] ∧ I64 x.p.tx ∧ I64 x.p.at_ ∧ Sep w0 F0 (rds x.key A n c shOp :: Γ) W := by
  obtain ⟨A, n, c, e, h1, h2, h3⟩ := rep_in (h.get hm)
  exact ⟨A, n, c, e, h1, h2, h.add rfl h3⟩
theorem Sep.open_out (h : Sep w0 F0 Γ W) {x : Out} {cs : List Value} (hm : At Γ (rep x cs shOut)) : ∃ A n c, cs = [.int .i64 x.coin, .slice A n c] ∧ I64 x.coin ∧ Sep w0 F0 (rds x.lock A n c shOp :: Γ) W := by
  obtain ⟨A, n, c, e, h1, h3⟩ := rep_out (h.get hm)
  exact ⟨A, n, c, e, h1, h.add rfl h3⟩
theorem Sep.open_tx (h : Sep w0 F0 Γ W) {x : Tx} {cs : List Value} (hm : At Γ (rep x cs shTx)) : ∃ A n c A' n' c', cs = [.int .i64 x.height, .slice A n c, .slice A' n' c'] ∧ I64 x.height ∧ Sep w0 F0 (rds x.ins A n c shIn :: rds x.outs A' n' c' shOut :: Γ) W := by
  obtain ⟨A, n, c, A', n', c', e, h1, h3, h4⟩ := rep_tx (h.get hm)
  exact ⟨A, n, c, A', n', c', e, h1, h.add2 rfl rfl h3 h4⟩
theorem Sep.open_book (h : Sep w0 F0 Γ W) {x : Book} {cs : List Value} (hm : At Γ (rep x cs shBook)) : ∃ A n c, cs = [.slice A n c] ∧ Sep w0 F0 (rds x.texts A n c shStr :: Γ) W := by
  obtain ⟨A, n, c, e, h3⟩ := rep_book (h.get hm)
  exact ⟨A, n, c, e, h.add rfl h3⟩
theorem Sep.open_undo (h : Sep w0 F0 Γ W) {x : Undo} {cs : List Value} (hm : At Γ (rep x cs shUndo)) : ∃ A n c, cs = [.slice A n c] ∧ Sep w0 F0 (rds x.spent A n c shCoin :: Γ) W := by
  obtain ⟨A, n, c, e, h3⟩ := rep_undo (h.get hm)
  exact ⟨A, n, c, e, h.add rfl h3⟩
theorem Sep.open_coin (h : Sep w0 F0 Γ W) {x : Coin} {cs : List Value} (hm : At Γ (rep x cs shCoin)) : ∃ A n c, cs = [.int .i64 x.p.tx, .int .i64 x.p.at_, .int .i64 x.o.coin, .slice A n c, .int .i64 x.height, .bool x.reward] ∧ I64 x.p.tx ∧ I64 x.p.at_ ∧ I64 x.o.coin ∧ I64 x.height ∧ Sep w0 F0 (rds x.o.lock A n c shOp :: Γ) W := by
  obtain ⟨A, n, c, e, h1, h2, h3, h4, h5⟩ := rep_coin (h.get hm)
  exact ⟨A, n, c, e, h1, h2, h3, h4, h.add rfl h5⟩
theorem Sep.open_block (h : Sep w0 F0 Γ W) {x : Block} {cs : List Value} (hm : At Γ (rep x cs shBlock)) : ∃ A n c, cs = [.int .i64 x.parent, .int .i64 x.height, .int .i64 x.work, .int .i64 x.nonce, .slice A n c] ∧ I64 x.parent ∧ I64 x.height ∧ I64 x.work ∧ I64 x.nonce ∧ Sep w0 F0 (rds x.txs A n c shTx :: Γ) W := by
  obtain ⟨A, n, c, e, h1, h2, h3, h4, h5⟩ := rep_block (h.get hm)
  exact ⟨A, n, c, e, h1, h2, h3, h4, h.add rfl h5⟩
theorem Sep.open_tree (h : Sep w0 F0 Γ W) {x : Tree} {cs : List Value} (hm : At Γ (rep x cs shTree)) : ∃ A n c A' n' c', cs = [.slice A n c, .slice A' n' c'] ∧ Sep w0 F0 (rds x.names A n c shInt :: rds x.blocks A' n' c' shBlock :: Γ) W := by
  obtain ⟨A, n, c, A', n', c', e, h3, h4⟩ := rep_tree (h.get hm)
  exact ⟨A, n, c, A', n', c', e, h.add2 rfl rfl h3 h4⟩
theorem Sep.open_node (h : Sep w0 F0 Γ W) {x : Node} {cs : List Value} (hm : At Γ (rep x cs shNode)) : ∃ A n c A' n' c' A2 n2 c2, cs = [.slice A n c, .slice A' n' c', .slice A2 n2 c2, .int .i64 x.tip] ∧ I64 x.tip ∧ Sep w0 F0 (rds x.t.names A n c shInt :: rds x.t.blocks A' n' c' shBlock :: rds x.pool A2 n2 c2 shTx :: Γ) W := by
  obtain ⟨A, n, c, A', n', c', A2, n2, c2, e, h3, h4, h5, h6⟩ := rep_node (h.get hm)
  exact ⟨A, n, c, A', n', c', A2, n2, c2, e, h6, h.add3 rfl rfl rfl h3 h4 h5⟩
theorem Sep.mk_out (h : Sep w0 F0 Γ W) {k : Int} {lock : List Op} {A : Option Addr} {n c : Nat} (hm : At Γ (rds lock A n c shOp)) (h1 : I64 k) : Sep w0 F0 (rep ⟨k, lock⟩ [.int .i64 k, .slice A n c] shOut :: Γ) W := h.add rfl (out_mk (x := ⟨k, lock⟩) h1 (h.get hm))
theorem Sep.mk_tx (h : Sep w0 F0 Γ W) {k : Int} {ins : List In} {outs : List Out} {A : Option Addr} {n c : Nat} {A' : Option Addr} {n' c' : Nat} (hm : At Γ (rds ins A n c shIn)) (hm' : At Γ (rds outs A' n' c' shOut)) (h1 : I64 k) : Sep w0 F0 (rep ⟨k, ins, outs⟩ [.int .i64 k, .slice A n c, .slice A' n' c'] shTx :: Γ) W := h.add rfl (tx_mk (x := ⟨k, ins, outs⟩) h1 (h.get hm) (h.get hm'))
theorem Sep.mk_block (h : Sep w0 F0 Γ W) {k1 k2 k3 k4 : Int} {txs : List Tx} {A : Option Addr} {n c : Nat} (hm : At Γ (rds txs A n c shTx)) (h1 : I64 k1) (h2 : I64 k2) (h3 : I64 k3) (h4 : I64 k4) : Sep w0 F0 (rep ⟨k1, k2, k3, k4, txs⟩ [.int .i64 k1, .int .i64 k2, .int .i64 k3, .int .i64 k4, .slice A n c] shBlock :: Γ) W := h.add rfl (block_mk (x := ⟨k1, k2, k3, k4, txs⟩) h1 h2 h3 h4 (h.get hm))
theorem Sep.mk_tree (h : Sep w0 F0 Γ W) {ns : List Int} {bs : List Block} {A : Option Addr} {n c : Nat} {A' : Option Addr} {n' c' : Nat} (hm : At Γ (rds ns A n c shInt)) (hm' : At Γ (rds bs A' n' c' shBlock)) : Sep w0 F0 (rep ⟨ns, bs⟩ [.slice A n c, .slice A' n' c'] shTree :: Γ) W := h.add rfl (tree_mk (x := ⟨ns, bs⟩) (h.get hm) (h.get hm'))
theorem Sep.nil_rds (h : Sep w0 F0 Γ W) {α : Type} (S : Sh α) : Sep w0 F0 (rds [] none 0 0 S :: Γ) W := h.add rfl (Rds.nil _ _ _)
theorem Sep.addRow {W' : World} (h : Sep w0 F0 Γ W) {α : Type} {S : Sh α} {e : Nat} {v : Value} {xs : List α} {zs : List (α × List Value)} (hg : W.grownBy W' none) (h1 : zs.map (·.1) = xs) (h3 : W'.ownsRow W.heap.size e S.size v xs.length (flat zs)) (h2 : ∀ z ∈ zs, S.rep W (Free w0.heap.size F0 Γ W) z.1 z.2) :
    Sep w0 F0 (Proofs.Ytnnbnjanekibpaa.row e v xs S :: Γ) W' := by
  have hge : ∀ g, v.ownBlock = some g → W.heap.size ≤ g := fun g hg => (h3.lt g hg).1
  refine h.grow hg ⟨zs, h1, ?_, fun z hz => S.more (fun b hb => ?_) (S.keep (fun b hb => hg.block b (Free.lt h hb) (by simp)) (h2 z hz))⟩ hge
  · refine ⟨h3.1, ?_⟩
    have hsz := h.size
    rcases h3.2 with h0 | ⟨g, cap, cur, hv, hg, r⟩
    · exact .inl h0
    · exact .inr ⟨g, cap, cur, hv, by omega, r⟩
  · have hlt := Free.lt h hb
    refine ⟨hb.1.imp (fun x => x) (fun x => ⟨x.1, Nat.lt_of_lt_of_le x.2 hg.size⟩), fun q hq => ?_⟩
    rcases List.mem_cons.1 hq with rfl | hq
    · intro e
      have := hge b e
      omega
    · exact hb.2 q hq
theorem Sep.lit (h : Sep w0 F0 Γ W) {α : Type} {S : Sh α} {g e : Nat} {cs : List Value} (zs : List (α × List Value)) (hd : Del Γ (Proofs.Ytnnbnjanekibpaa.box g cs e) Γ1) (hc : cs = flat zs) (hz : ∀ z ∈ zs, At Γ1 (rep z.1 z.2 S)) (hn : zs.length ≤ 1000000) : Sep w0 F0 (rds (zs.map (·.1)) (some ⟨g, 0, none⟩) zs.length zs.length S :: Γ1) W := by
  have h1 := h.front hd
  refine h1.freeze (r' := rds (zs.map (·.1)) (some ⟨g, 0, none⟩) zs.length zs.length S) Put.z rfl ?_
  intro hF hb
  have hb' : w0.heap.size ≤ g ∧ W.heap[g]? = some (.cells cs.toArray e (0, 0)) := hb
  refine Rds.of_block (zs := zs) (F := Free w0.heap.size F0 (rds (zs.map (·.1)) (some ⟨g, 0, none⟩) zs.length zs.length S :: Γ1) W) hb'.2 (by simp [hc]) (fun z hz' => ?_) (hF g (.inr ⟨rfl, hb'.1, blk_lt hb'.2⟩)) (Nat.le_refl _) (by omega)
  have h2 : S.rep W (Free w0.heap.size F0 (Proofs.Ytnnbnjanekibpaa.box g cs e :: Γ1) W) z.1 z.2 := h1.get (At.s (hz z hz'))
  exact S.more (fun b hb => hF b (.inl hb)) h2
theorem Sep.lit1 (h : Sep w0 F0 Γ W) {α : Type} {S : Sh α} {g e : Nat} {cs : List Value} {x : α} (hd : Del Γ (Proofs.Ytnnbnjanekibpaa.box g cs e) Γ1) (hz : At Γ1 (rep x cs S)) : Sep w0 F0 (rds [x] (some ⟨g, 0, none⟩) 1 1 S :: Γ1) W :=
  h.lit [(x, cs)] hd (by simp [flat]) (by intro z hz'; simp only [List.mem_singleton] at hz'; subst hz'; exact hz) (by simp)
theorem Sep.getRds (h : Sep w0 F0 Γ W) {α : Type} {S : Sh α} {xs : List α} {A : Option Addr} {n c : Nat} (hm : At Γ (rds xs A n c S)) : Rds S W (Free w0.heap.size F0 Γ W) xs A n c := h.get hm
theorem Sep.ltsRds (h : Sep w0 F0 Γ W) {α : Type} {S : Sh α} {xs : List α} {A : Option Addr} {n c : Nat} (hm : At Γ (rds xs A n c S)) : Rds S W (Lt W.heap.size) xs A n c := h.lts hm
theorem Sep.ltsRep (h : Sep w0 F0 Γ W) {α : Type} {S : Sh α} {x : α} {cs : List Value} (hm : At Γ (rep x cs S)) : S.rep W (Lt W.heap.size) x cs := h.lts hm
theorem Sep.getRep (h : Sep w0 F0 Γ W) {α : Type} {S : Sh α} {x : α} {cs : List Value} (hm : At Γ (rep x cs S)) : S.rep W (Free w0.heap.size F0 Γ W) x cs := h.get hm
theorem Sep.getRow (h : Sep w0 F0 Γ W) {α : Type} {S : Sh α} {e : Nat} {v : Value} {xs : List α} (hm : At Γ (row e v xs S)) : ∃ zs : List (α × List Value), zs.map (·.1) = xs ∧ W.ownsRow w0.heap.size e S.size v xs.length (flat zs) ∧ ∀ z ∈ zs, S.rep W (Free w0.heap.size F0 Γ W) z.1 z.2 := h.get hm
theorem Sep.putRow {W' : World} {α : Type} {S : Sh α} {e : Nat} {v : Value} {xs xs' : List α} (h : Sep w0 F0 (Proofs.Ytnnbnjanekibpaa.row e v xs S :: Γ) W) (hg : W.grownBy W' v.ownBlock)
    (hr : (∀ b, Free w0.heap.size F0 (Proofs.Ytnnbnjanekibpaa.row e v xs S :: Γ) W b → Free w0.heap.size F0 (Proofs.Ytnnbnjanekibpaa.row e v xs' S :: Γ) W' b) → Agree (Free w0.heap.size F0 (Proofs.Ytnnbnjanekibpaa.row e v xs S :: Γ) W) W W' → ∀ zs : List (α × List Value), zs.map (·.1) = xs → W.ownsRow w0.heap.size e S.size v xs.length (flat zs) → (∀ z ∈ zs, S.rep W (Free w0.heap.size F0 (Proofs.Ytnnbnjanekibpaa.row e v xs S :: Γ) W) z.1 z.2) →
      ∃ zs : List (α × List Value), zs.map (·.1) = xs' ∧ W'.ownsRow w0.heap.size e S.size v xs'.length (flat zs) ∧ ∀ z ∈ zs, S.rep W' (Free w0.heap.size F0 (Proofs.Ytnnbnjanekibpaa.row e v xs' S :: Γ) W') z.1 z.2) : Sep w0 F0 (Proofs.Ytnnbnjanekibpaa.row e v xs' S :: Γ) W' :=
  h.put (r := Proofs.Ytnnbnjanekibpaa.row e v xs S) (r' := Proofs.Ytnnbnjanekibpaa.row e v xs' S) Put.z hg (fun g hg => .inl hg) (fun hf ha ⟨zs, h1, h2, h3⟩ => hr hf ha zs h1 h2 h3)
theorem Sep.len (h : Sep w0 F0 Γ W) {α : Type} {S : Sh α} {xs : List α} {A : Option Addr} {n c : Nat} (hm : At Γ (rds xs A n c S)) : xs.length = n ∧ n ≤ c ∧ c ≤ 9223372036854775807 := ⟨(h.getRds hm).1, (h.getRds hm).2.1, (h.getRds hm).2.2.1⟩
theorem Sep.addRds (h : Sep w0 F0 Γ W) {α : Type} {S : Sh α} {xs : List α} {A : Option Addr} {n c : Nat} (hr : Rds S W (Free w0.heap.size F0 Γ W) xs A n c) : Sep w0 F0 (rds xs A n c S :: Γ) W := h.add rfl hr
theorem Sep.addRep (h : Sep w0 F0 Γ W) {α : Type} {S : Sh α} {x : α} {cs : List Value} (hr : S.rep W (Free w0.heap.size F0 Γ W) x cs) : Sep w0 F0 (rep x cs S :: Γ) W := h.add rfl hr
theorem Sep.start1 {α : Type} {S : Sh α} {x : α} {cs : List Value} {w : World} {F : Nat → Prop} (hF : ∀ b, F b → b < w.heap.size) (h : S.rep w F x cs) : Sep w F [rep x cs S] w := (Sep.start w F hF).add rfl (S.more (fun b hb => ⟨.inl hb, by simp⟩) h)
end
attribute [irreducible] fact rds rep cells box row At Put Del Sub
end Go.Proofs.Ytnnbnjanekibpaa
namespace Go.Proofs.Ytnnbnjanekibpaa
open Go.RowKit
set_option linter.unusedVariables false
def Yl (P : Program) (w0 : World) (F0 : Nat → Prop) (Γ : List Res) (o : Oper) (a : Act) (v : Value) : Prop := ∀ W, Sep w0 F0 Γ W → (execOp a.eval o).run P W = .ok (.value v) W
section
variable {P : Program} {w0 W : World} {F0 : Nat → Prop} {Γ : List Res} {ops : Array Oper} {a : Act} {rest : List Oper} {o : Oper} {t : TypeId} {x y : Operand}
theorem Yl.pure {v : Value} (h : ∀ W, (execOp a.eval o).run P W = .ok (.value v) W) : Yl P w0 F0 Γ o a v := fun W _ => h W
theorem Yl.move (ho : o.op = .move x) : Yl P w0 F0 Γ o a (a.eval x) := fun W _ => by unfold execOp; simp only [ho]; rfl
theorem Yl.assign (ho : o.op = .assign x) : Yl P w0 F0 Γ o a (a.eval x) := fun W _ => by unfold execOp; simp only [ho]; rfl
theorem Yl.load (ho : o.op = .load t x) {p : Addr} {v : Value} (hx : a.eval x = .pointer (some p)) (hr : ∀ W, Sep w0 F0 Γ W → (loadVar t p).run P W = .ok v W) : Yl P w0 F0 Γ o a v := fun W hS => by
  unfold execOp
  simp only [ho, Instr.loadAt, Instr.sureAddr, Sem.run_bind, Result.andThen_ok, Sem.run_pure, hx, hr W hS]
theorem Yl.load1b (ho : o.op = .load t x) {g j ty : Nat} {cs : List Value} {v : Value} (hx : a.eval x = .pointer (some ⟨g, j, none⟩)) (h1 : OneT P t) (hm : At Γ (box g cs ty)) (hv : cs[j]? = some v) : Yl P w0 F0 Γ o a v :=
  Yl.load ho hx fun W hS => h1.load (by have := hS.boxAt hm j v hv; rwa [Nat.zero_add] at this)
theorem Yl.loadNb (ho : o.op = .load t x) {g ty : Nat} {cs : List Value} (hx : a.eval x = .pointer (some ⟨g, 0, none⟩)) (hm : At Γ (box g cs ty)) (h1 : AggN P t cs.length) : Yl P w0 F0 Γ o a (.agg cs.toArray) :=
  Yl.load ho hx fun W hS => h1.load (hS.boxAt hm)
theorem Yl.load1c (ho : o.op = .load t x) {b q j : Nat} {cs : List Value} {v : Value} (hx : a.eval x = .pointer (some ⟨b, q + j, none⟩)) (h1 : OneT P t) (hm : At Γ (cells b q cs)) (hv : cs[j]? = some v) : Yl P w0 F0 Γ o a v :=
  Yl.load ho hx fun W hS => h1.load (hS.cellsAt hm j v hv)
theorem Yl.load1z (ho : o.op = .load t x) {b q : Nat} {cs : List Value} {v : Value} (hx : a.eval x = .pointer (some ⟨b, q, none⟩)) (h1 : OneT P t) (hm : At Γ (cells b q cs)) (hv : cs[0]? = some v) : Yl P w0 F0 Γ o a v :=
  Yl.load ho hx fun W hS => h1.load (hS.cellsAt hm 0 v hv)
theorem Yl.loadNz (ho : o.op = .load t x) {b q : Nat} {cs : List Value} (hx : a.eval x = .pointer (some ⟨b, q, none⟩)) (hm : At Γ (cells b q cs)) (h1 : AggN P t cs.length) : Yl P w0 F0 Γ o a (.agg cs.toArray) :=
  Yl.load ho hx fun W hS => h1.load (hS.cellsAt hm)
theorem Sep.region (h : Sep w0 F0 Γ W) {id : Nat} {Q : Exit → Act → World → Prop} {l : List Oper} (hm : P.follows .mixedOrders = true) (hB : Region.lexB .any l.toArray = true)
    (k : wpQuiet P l.toArray (Sep w0 F0 Γ) (fun a' => ∀ W', Sep w0 F0 Γ W' → Q .normal a' W') l a) : (Code.region id l.toArray true).wp P Q a W :=
  wp_region_quiet (C := Sep w0 F0 Γ) hm hB h.drew (by simpa using k)
def lateOn (late : List Nat) (listed : Array Bool) : Bool := late.any fun s => listed.getD s false
def reach (md : Region.Mode) (ops : Array Oper) : Nat → Nat → Nat → Bool
  | 0, _, _ => false
  | n + 1, s, i => match ops[s]? with
    | some o => o.after.any fun e => Region.binds md e && (e.on == i || reach md ops n e.on i)
    | none => false
def lateWaits (md : Region.Mode) (ops : Array Oper) (late : List Nat) (i : Nat) : Bool := late.all fun s => s != i && reach md ops ops.size s i
def closedB (md : Region.Mode) (ops : Array Oper) (listed : Array Bool) : Bool := (List.range ops.size).all fun j => !listed.getD j false || match ops[j]? with
  | some o => o.after.all fun e => !Region.binds md e || listed.getD e.on false
  | none => true
def Closed (md : Region.Mode) (ops : Array Oper) (listed : Array Bool) : Prop := ∀ j o, ops[j]? = some o → listed.getD j false = true → ∀ e ∈ o.after, Region.binds md e = true → listed.getD e.on false = true
theorem closed_of {md : Region.Mode} {ops : Array Oper} {listed : Array Bool} (h : closedB md ops listed = true) : Closed md ops listed := by
  intro j o hj hl e he hb
  have hlt := (Array.getElem?_eq_some_iff.1 hj).1
  have := (List.all_eq_true.1 h) j (List.mem_range.2 hlt)
  simp only [hl, hj, Bool.not_true, Bool.false_or] at this
  have h2 := Array.all_eq_true'.1 this e he
  simpa [hb] using h2
theorem closed_set {md : Region.Mode} {ops : Array Oper} {listed : Array Bool} {j : Nat} (h : Closed md ops listed) (hj : j ∈ Region.ready md ops listed) : Closed md ops (listed.setIfInBounds j true) := by
  obtain ⟨_, oj, hoj, hall⟩ := mem_ready.1 hj
  intro k o hk hl e he hb
  by_cases hjk : j = k
  · subst hjk
    rw [hoj] at hk
    injection hk with hk
    subst hk
    exact getD_set_true (hall e he hb)
  · rw [getD_set_ne false hjk] at hl
    exact getD_set_true (h k o hk hl e he hb)
theorem reach_listed {md : Region.Mode} {ops : Array Oper} {listed : Array Bool} (h : Closed md ops listed) {i : Nat} : ∀ (n s : Nat), reach md ops n s i = true → listed.getD s false = true → listed.getD i false = true
  | 0, s, hr, _ => by cases hr
  | n + 1, s, hr, hl => by
    unfold reach at hr
    split at hr
    · rename_i o ho
      obtain ⟨e, he, hb⟩ := Array.any_eq_true'.1 hr
      simp only [Bool.and_eq_true, Bool.or_eq_true, beq_iff_eq] at hb
      have h1 := h s o ho hl e he hb.1
      rcases hb.2 with h2 | h2
      · rw [← h2]; exact h1
      · exact reach_listed h n e.on h2 h1
    · cases hr
theorem reach_ready {md : Region.Mode} {ops : Array Oper} {listed : Array Bool} (h : Closed md ops listed) {i s n : Nat} (hr : reach md ops n s i = true) (hs : s ∈ Region.ready md ops listed) : listed.getD i false = true := by
  obtain ⟨_, o, ho, hall⟩ := mem_ready.1 hs
  cases n with
  | zero => cases hr
  | succ n =>
    unfold reach at hr
    simp only [ho] at hr
    obtain ⟨e, he, hb⟩ := Array.any_eq_true'.1 hr
    simp only [Bool.and_eq_true, Bool.or_eq_true, beq_iff_eq] at hb
    have h1 := hall e he hb.1
    rcases hb.2 with h2 | h2
    · rw [← h2]; exact h1
    · exact reach_listed h n e.on h2 h1
theorem getD_ft {listed : Array Bool} {i : Nat} (h : listed.getD i true = false) : listed.getD i false = false := by
  rcases Nat.lt_or_ge i listed.size with h' | h'
  · simp [h'] at h ⊢; exact h
  · simp [Array.getElem?_eq_none h'] at h
variable {md : Region.Mode} {Q : Exit → Act → World → Prop} {S : World → Prop} {late : List Nat}
def wpAnyT (P : Program) (md : Region.Mode) (ops : Array Oper) (Q : Exit → Act → World → Prop) (S : World → Prop) (late : List Nat) : Nat → Array Bool → Act → World → Prop
  | 0, listed, a, w => Region.ready md ops listed = [] ∧ Q .normal a w
  | fuel + 1, listed, a, w =>
    (Region.ready md ops listed = [] → Q .normal a w) ∧
    ∀ i ∈ Region.ready md ops listed, wpOp P ops Q i (fun a' w' => (lateOn late (listed.setIfInBounds i true) = false → S w') ∧ wpAnyT P md ops Q S late fuel (listed.setIfInBounds i true) a' w') a w
theorem wpAny_of_T : ∀ (fuel : Nat) (listed : Array Bool) (a : Act) (w : World), wpAnyT P md ops Q S late fuel listed a w → wpAny P md ops Q fuel listed a w
  | 0, _, _, _, h => h
  | fuel + 1, _, _, _, h => ⟨h.1, fun i hi => wpOp_mono (fun a' w' h' => wpAny_of_T fuel _ a' w' h'.2) (h.2 i hi)⟩
theorem lateOn_set {listed : Array Bool} {j : Nat} (h : lateOn late listed = false) (hj : j ∉ late) : lateOn late (listed.setIfInBounds j true) = false := by
  rw [lateOn, List.any_eq_false] at h ⊢
  intro s hs
  have hne : j ≠ s := fun e => hj (e ▸ hs)
  rw [getD_set_ne false hne]
  exact h s hs
theorem wpAnyT_first {i : Nat} {oi : Oper} {v : Value} (hi : ops[i]? = some oi) (hsel : ∀ (j : Nat) (o : Oper) cs b, ops[j]? = some o → o.op ≠ .select cs b)
    (hQ : ∀ c a w, Q (.panic c) (a.put oi.dst v) w → Q (.panic c) a w) (hlw : lateWaits md ops late i = true) :
    ∀ (fuel : Nat) (listed : Array Bool) (a : Act) (w : World),
      (∀ j oj, ops[j]? = some oj → j ≠ i → listed.getD j true = false → (∀ e ∈ oj.after, Region.binds md e = true → e.on ≠ i) → oi.apart ops oj = true) →
      i ∈ Region.ready md ops listed → YieldsIf P ops S oi v a → S w → lateOn late listed = false → Closed md ops listed →
      wpAnyT P md ops Q S late fuel (listed.setIfInBounds i true) (a.put oi.dst v) w → wpAnyT P md ops Q S late (fuel + 1) listed a w := by
  have hil : i ∉ late := fun h => by
    have := (List.all_eq_true.1 hlw) i h
    simp at this
  intro fuel
  induction fuel with
  | zero =>
    intro listed a w _ hr hy hS hl hcl H
    refine ⟨fun h => (by rw [h] at hr; cases hr), fun j hj => ?_⟩
    by_cases hji : j = i
    · subst hji; exact hy.wpOp hi hS ⟨fun _ => hS, H⟩
    · have := ready_mono hj hji
      rw [H.1] at this
      cases this
  | succ fuel ih =>
    intro listed a w hfree hr hy hS hl hcl H
    refine ⟨fun h => (by rw [h] at hr; cases hr), fun j hj => ?_⟩
    by_cases hji : j = i
    · subst hji; exact hy.wpOp hi hS ⟨fun _ => hS, H⟩
    · have h1 := H.2 j (ready_mono hj hji)
      obtain ⟨hjun, oj, hoj, hall⟩ := mem_ready.1 hj
      have hnot : ∀ e ∈ oj.after, Region.binds md e = true → e.on ≠ i := fun e he hb heq => by
        have h1 := hall e he hb
        have h0 := (mem_ready.1 hr).1
        rw [heq] at h1
        rcases Nat.lt_or_ge i listed.size with h' | h'
        · simp [h'] at h0 h1; rw [h0] at h1; cases h1
        · simp [Array.getElem?_eq_none h'] at h1
      have hjl : j ∉ late := fun hmem => by
        have := (List.all_eq_true.1 hlw) j hmem
        simp only [Bool.and_eq_true] at this
        have h5 := reach_ready hcl this.2 hj
        rw [getD_ft (mem_ready.1 hr).1] at h5
        cases h5
      have hl' := lateOn_set hl hjl
      have h2 := wpOp_putIf hoj (hfree j oj hoj hji hjun hnot) (fun cs b => hsel i oi cs b hi) (fun cs b => hsel j oj cs b hoj) hQ hy h1
      have hfree' : ∀ k ok, ops[k]? = some ok → k ≠ i → (listed.setIfInBounds j true).getD k true = false →
          (∀ e ∈ ok.after, Region.binds md e = true → e.on ≠ i) → oi.apart ops ok = true := fun k ok hk hki hun hno => by
        refine hfree k ok hk hki ?_ hno
        by_cases hjk : j = k
        · subst hjk; exact hjun
        · rw [getD_set_ne true hjk] at hun; exact hun
      have hl2 : lateOn late ((listed.setIfInBounds i true).setIfInBounds j true) = false := by
        rw [Array.setIfInBounds_comm _ _ (Ne.symm hji)]
        exact lateOn_set hl' hil
      refine wpOp_mono (fun a' w' h3 => ⟨fun _ => h3.2.1 hl2, ih (listed.setIfInBounds j true) a' w' hfree' (ready_mono hr (Ne.symm hji)) h3.1 (h3.2.1 hl2) hl' (closed_set hcl hj) ?_⟩) h2
      rw [Array.setIfInBounds_comm _ _ hji]
      exact h3.2.2
theorem wpAnyT_take (i : Nat) {oi : Oper} {v : Value} {fuel : Nat} {listed : Array Bool} (hi : ops[i]? = some oi) (hw : Region.wanted oi (yielded ops a.tmps) = true) (hy : Yl P w0 F0 Γ oi a v) (h : Sep w0 F0 Γ W)
    (hs : (Region.noSelect ops && Region.free md ops listed i && (Region.ready md ops listed).contains i && lateWaits md ops late i && !lateOn late listed && closedB md ops listed) = true)
    (hQ : ∀ c a w, Q (.panic c) (a.put oi.dst v) w → Q (.panic c) a w)
    (k : wpAnyT P md ops Q (Sep w0 F0 Γ) late fuel (listed.setIfInBounds i true) (a.put oi.dst v) W) : wpAnyT P md ops Q (Sep w0 F0 Γ) late (fuel + 1) listed a W := by
  simp only [Bool.and_eq_true, Bool.not_eq_true'] at hs
  obtain ⟨⟨⟨⟨⟨h1, h2⟩, h3⟩, h4⟩, h5⟩, h6⟩ := hs
  exact wpAnyT_first hi (Region.noSelect_spec h1) hQ h4 fuel listed a W (Region.free_spec hi h2) (by simpa using h3) (.inl ⟨hw, fun W hS => hy W hS⟩) h h5 (closed_of h6) k
structure NextT (P : Program) (md : Region.Mode) (ops : Array Oper) (Q : Exit → Act → World → Prop) (S : World → Prop) (late : List Nat) (fuel : Nat) (listed : Array Bool) (a : Act) (w : World) : Prop where
  s : lateOn late listed = false → S w
  t : wpAnyT P md ops Q S late fuel listed a w
theorem wp_chQ {Q Q' : Exit → Act → World → Prop} {K K' : Act → World → Prop} {w : World} (hK : ∀ a w, K' a w → K a w) (hp : ∀ c w, Q' (.panic c) a w → Q (.panic c) a w) (hl : LetsOut Q' → LetsOut Q) (h : o.wp P a w K' Q') : o.wp P a w K Q := by
  unfold Oper.wp at *
  generalize (execOp a.eval o).run P w = r at *
  cases r with
  | ok n w' =>
    cases n <;> simp only [Oper.upon] at h ⊢ <;>
      first
        | exact hK _ _ h
        | exact Calls.mono h (fun e w'' he => by cases e <;> first | exact hK _ _ he | exact hp _ _ he | exact hl he)
        | exact Rows.mono h (fun _ _ he => hK _ _ he)
  | halt x w' => cases x <;> simp only [Oper.upon] at h ⊢ <;> first | exact hp _ _ h | exact h
theorem wpAnyT_one (i : Nat) {fuel : Nat} {listed : Array Bool} {w : World} (hr : (Region.ready md ops listed == [i]) = true) (ho : ops[i]? = some o)
    (h : wpList P ops (Exit.then (NextT P md ops Q S late fuel (listed.setIfInBounds i true)) Q) [o] a w) : wpAnyT P md ops Q S late (fuel + 1) listed a w := by
  have hr' : Region.ready md ops listed = [i] := by simpa using hr
  refine ⟨fun h0 => (by rw [h0] at hr'; cases hr'), fun j hj => ?_⟩
  rw [hr'] at hj
  have hji : j = i := by simpa using hj
  subst hji
  unfold wpOp
  simp only [ho]
  unfold wpList at h
  split
  · rename_i hw
    rw [if_pos hw] at h
    rcases h with h | ⟨h1, h2⟩
    · exact .inl (wp_chQ (fun a w hk => ⟨hk.s, hk.t⟩) (fun c w hp => hp) (fun hl => hl) h)
    · exact .inr ⟨h1, h2⟩
  · rename_i hw
    rw [if_neg hw] at h
    exact ⟨h.s, h.t⟩
theorem wpAnyT_done {fuel : Nat} {listed : Array Bool} {w : World} (hr : ((Region.ready md ops listed) == []) = true) (h : Q .normal a w) : wpAnyT P md ops Q S late fuel listed a w := by
  have hr' : Region.ready md ops listed = [] := by simpa using hr
  cases fuel with
  | zero => exact ⟨hr', h⟩
  | succ n => exact ⟨fun _ => h, by rw [hr']; simp⟩
theorem takeL {l : List Oper} (i : Nat) {oi : Oper} {v : Value} {fuel : Nat} {listed : Array Bool} (hi : l[i]? = some oi) (hw : Region.wanted oi (yielded l.toArray a.tmps) = true) (hy : Yl P w0 F0 Γ oi a v) (h : Sep w0 F0 Γ W)
    (hs : (Region.noSelect l.toArray && Region.free md l.toArray listed i && (Region.ready md l.toArray listed).contains i && lateWaits md l.toArray late i && !lateOn late listed && closedB md l.toArray listed) = true)
    (hQ : ∀ c a w, Q (.panic c) (a.put oi.dst v) w → Q (.panic c) a w)
    (k : wpAnyT P md l.toArray Q (Sep w0 F0 Γ) late fuel (listed.setIfInBounds i true) (a.put oi.dst v) W) : wpAnyT P md l.toArray Q (Sep w0 F0 Γ) late (fuel + 1) listed a W :=
  wpAnyT_take i (by simpa using hi) hw hy h hs hQ k
theorem oneL {l : List Oper} (i : Nat) {fuel : Nat} {listed : Array Bool} {w : World} (hr : (Region.ready md l.toArray listed == [i]) = true) (ho : l[i]? = some o)
    (h : wpList P l.toArray (Exit.then (NextT P md l.toArray Q S late fuel (listed.setIfInBounds i true)) Q) [o] a w) : wpAnyT P md l.toArray Q S late (fuel + 1) listed a w :=
  wpAnyT_one i hr (by simpa using ho) h
theorem late_no {late : List Nat} {listed : Array Bool} {p : Prop} (h : lateOn late listed = true) (h' : lateOn late listed = false) : p := by rw [h] at h'; cases h'
theorem Sep.regionT (h : Sep w0 F0 Γ W) (late : List Nat) {id : Nat} {l : List Oper} (hm : P.follows .mixedOrders = true) (k : ∀ W', Sep w0 F0 Γ W' → wpAnyT P .any l.toArray Q (Sep w0 F0 Γ) late l.length (Array.replicate l.length false) a W') : (Code.region id l.toArray true).wp P Q a W := by
  refine wp_region_any hm (wpAny_of_T (S := Sep w0 F0 Γ) (late := late) _ _ _ _ ?_)
  have := k W.drew h.drew
  simpa using this
theorem Sep.regionS (h : Sep w0 F0 Γ W) (late : List Nat) {Γs : List Res} (hs : Sub Γs Γ) {id : Nat} {l : List Oper} (hm : P.follows .mixedOrders = true) (k : ∀ W', Sep w0 F0 Γ W' → wpAnyT P .any l.toArray Q (Sep w0 F0 Γs) late l.length (Array.replicate l.length false) a W') : (Code.region id l.toArray true).wp P Q a W := by
  refine wp_region_any hm (wpAny_of_T (S := Sep w0 F0 Γs) (late := late) _ _ _ _ ?_)
  have := k W.drew h.drew
  simpa using this
end
def Got (P : Program) (W : World) (tmps : Array Value) : ResultVar → Value → Prop
  | .tmp t, v => tmps.getD t undef = v
  | .cell a t, v => ∃ p, tmps.getD a undef = .pointer (some p) ∧ (loadVar t p).run P W = .ok v W
def getR (tmps : Array Value) : ResultVar → Sem Value
  | .tmp t => Pure.pure (tmps.getD t undef)
  | .cell a t => do loadVar t (← asAddr (tmps.getD a undef))
theorem Got.run {P : Program} {W : World} {tmps : Array Value} {r : ResultVar} {v : Value} (h : Got P W tmps r v) : (getR tmps r).run P W = .ok v W := by
  cases r with
  | tmp t => simp only [Got] at h; simp only [getR, h, Sem.run_pure]
  | cell a t => obtain ⟨p, h1, h2⟩ := h; simp only [getR, h1, asAddr, Sem.run_bind, Sem.run_pure, Result.andThen_ok, h2]
theorem results_eq (fn : Func) (tmps : Array Value) : results fn tmps = (do let vs ← fn.results.mapM (getR tmps); Pure.pure (if h : vs.size = 1 then vs[0] else .tuple vs)) := rfl
section
variable {P : Program} {w0 W : World} {F0 : Nat → Prop} {Γ : List Res} {fn : Func} {tmps : Array Value} {r s q p : ResultVar} {v u x y : Value}
theorem Got.tmp {t : Tmp} (h : tmps.getD t undef = v) : Got P W tmps (.tmp t) v := h
theorem Got.boxN (hS : Sep w0 F0 Γ W) {a g t ty : Nat} {cs : List Value} (hx : tmps.getD a undef = .pointer (some ⟨g, 0, none⟩)) (hm : At Γ (box g cs ty)) (h1 : AggN P t cs.length) : Got P W tmps (.cell a t) (.agg cs.toArray) := ⟨_, hx, h1.load (hS.boxAt hm)⟩
theorem Got.box1 (hS : Sep w0 F0 Γ W) {a g t ty : Nat} {v : Value} (hx : tmps.getD a undef = .pointer (some ⟨g, 0, none⟩)) (hm : At Γ (box g [v] ty)) (h1 : OneT P t) : Got P W tmps (.cell a t) v := ⟨_, hx, h1.load (by have := hS.boxAt hm 0 v rfl; simpa using this)⟩
theorem results1 (h : fn.results = #[r]) (g : Got P W tmps r v) : (results fn tmps).run P W = .ok v W := by
  rw [results_eq, h]; simp [g.run]
theorem results2 (h : fn.results = #[r, s]) (g : Got P W tmps r v) (g' : Got P W tmps s u) : (results fn tmps).run P W = .ok (.tuple #[v, u]) W := by
  rw [results_eq, h]; simp [g.run, g'.run]
end
attribute [irreducible] Yl wpAnyT
end Go.Proofs.Ytnnbnjanekibpaa
namespace Go.Proofs.Ytnnbnjanekibpaa
open Go.RowKit
set_option linter.unusedVariables false
theorem own_cell {w : World} {base e size n c : Nat} {A : Option Addr} {xs : List Value} (h : w.ownsRow base e size (.slice A n c) n xs) {i : Nat} (hi : i < xs.length) :
    ∃ g, A = some ⟨g, 0, none⟩ ∧ base ≤ g ∧ g < w.heap.size ∧ w.cell? ⟨g, i, none⟩ = xs[i]? ∧ w.frozen? ⟨g, i, none⟩ = false := by
  obtain ⟨hl, h2⟩ := h
  rcases h2 with ⟨hv, hn⟩ | ⟨g, cap, cur, hv, hg, hh, hnc, hcm, hcs, ht⟩
  · rw [hn, Nat.zero_mul] at hl; omega
  · simp only [Value.slice.injEq] at hv
    obtain ⟨rfl, _, rfl⟩ := hv
    refine ⟨g, rfl, hg, blk_lt hh, ?_, blk_free hh⟩
    rw [blk_cell hh, ← ht, List.getElem?_take, if_pos (by rw [← hl]; exact hi)]
    simp
theorem own_set {w : World} {base e size n c : Nat} {A : Option Addr} {xs : List Value} (h : w.ownsRow base e size (.slice A n c) n xs) {g i : Nat} (hA : A = some ⟨g, 0, none⟩) (u : Value) :
    (w.setCell ⟨g, i, none⟩ u).ownsRow base e size (.slice A n c) n (xs.set i u) := by
  obtain ⟨hl, h2⟩ := h
  refine ⟨by rw [List.length_set]; exact hl, ?_⟩
  rcases h2 with ⟨hv, hn⟩ | ⟨g', cap, cur, hv, hg, hh, hnc, hcm, hcs, ht⟩
  · simp only [Value.slice.injEq] at hv
    rw [hv.1] at hA; cases hA
  · simp only [Value.slice.injEq] at hv
    obtain ⟨e1, e2, e3⟩ := hv
    rw [e1] at hA
    simp only [Option.some.injEq, Addr.mk.injEq] at hA
    obtain ⟨rfl, _⟩ := hA
    refine .inr ⟨_, cap, cur.setIfInBounds i u, by rw [e1, e3], hg, blk_set hh, hnc, hcm, by simpa using hcs, ?_⟩
    rw [← ht]
    simp [List.take_set]
theorem flat_cell {α : Type} {s : Nat} {zs : List (α × List Value)} (hz : ∀ z ∈ zs, z.2.length = s) {k j : Nat} {z : α × List Value} (hk : zs[k]? = some z) (hj : j < s) : (flat zs)[k * s + j]? = z.2[j]? := by
  induction zs generalizing k with
  | nil => simp at hk
  | cons y zs ih =>
    have hy : y.2.length = s := hz y (List.mem_cons_self ..)
    cases k with
    | zero =>
      simp at hk
      subst hk
      show (y.2 ++ flat zs)[0 * s + j]? = _
      rw [Nat.zero_mul, Nat.zero_add, List.getElem?_append_left (by omega)]
    | succ k =>
      show (y.2 ++ flat zs)[(k + 1) * s + j]? = _
      rw [List.getElem?_append_right (by rw [hy, Nat.succ_mul]; omega), hy, show (k + 1) * s + j - s = k * s + j by rw [Nat.succ_mul]; omega]
      exact ih (fun z h => hz z (List.mem_cons_of_mem _ h)) (by simpa using hk)
theorem flat_set {α : Type} {s : Nat} {zs : List (α × List Value)} (hz : ∀ z ∈ zs, z.2.length = s) {k j : Nat} {z : α × List Value} (hk : zs[k]? = some z) (hj : j < s) (u : Value) (x : α) : (flat zs).set (k * s + j) u = flat (zs.set k (x, z.2.set j u)) := by
  induction zs generalizing k with
  | nil => simp at hk
  | cons y zs ih =>
    have hy : y.2.length = s := hz y (List.mem_cons_self ..)
    cases k with
    | zero =>
      simp at hk
      subst hk
      show (y.2 ++ flat zs).set (0 * s + j) u = y.2.set j u ++ flat zs
      rw [Nat.zero_mul, Nat.zero_add, List.set_append_left _ _ (by omega)]
    | succ k =>
      show (y.2 ++ flat zs).set ((k + 1) * s + j) u = y.2 ++ flat (zs.set k (x, z.2.set j u))
      rw [List.set_append_right _ _ (by rw [hy, Nat.succ_mul]; omega), hy, show (k + 1) * s + j - s = k * s + j by rw [Nat.succ_mul]; omega, ih (fun z h => hz z (List.mem_cons_of_mem _ h)) (by simpa using hk)]
end Go.Proofs.Ytnnbnjanekibpaa
namespace Go.Proofs.Ytnnbnjanekibpaa
open Go.RowKit
set_option linter.unusedVariables false
def setL {α : Type} : List α → Nat → List α → List α
  | l, _, [] => l
  | l, o, v :: vs => setL (l.set o v) (o + 1) vs
theorem own_setCells {base e size n c g : Nat} {A : Option Addr} (hA : A = some ⟨g, 0, none⟩) : ∀ (vs : List Value) (i : Nat) (w : World) (xs : List Value), w.ownsRow base e size (.slice A n c) n xs →
    (w.setCells g i vs).ownsRow base e size (.slice A n c) n (setL xs i vs)
  | [], _, _, _, h => h
  | v :: vs, i, w, xs, h => own_setCells hA vs (i + 1) _ _ (own_set h hA v)
theorem setL_get {α : Type} : ∀ (vs : List α) (i : Nat) (l : List α), i + vs.length ≤ l.length → ∀ j, (setL l i vs)[j]? = if i ≤ j ∧ j < i + vs.length then vs[j - i]? else l[j]?
  | [], i, l, h, j => by rw [setL, if_neg (by simp only [List.length_nil]; omega)]
  | v :: vs, i, l, h, j => by
    simp only [List.length_cons] at h
    rw [setL, setL_get vs (i + 1) (l.set i v) (by simp; omega)]
    by_cases h1 : j = i
    · subst h1
      rw [if_neg (by omega), if_pos (by simp), List.getElem?_set_self (by omega)]; simp
    · by_cases h2 : i + 1 ≤ j ∧ j < i + 1 + vs.length
      · rw [if_pos h2, if_pos (by simp; omega), show j - i = (j - (i + 1)) + 1 by omega, List.getElem?_cons_succ]
      · rw [if_neg h2, if_neg (by simp; omega), List.getElem?_set_ne (by omega)]
theorem setL_all {α : Type} (l vs : List α) (h : l.length = vs.length) : setL l 0 vs = vs := by
  apply List.ext_getElem?
  intro j
  rw [setL_get vs 0 l (by omega)]
  by_cases hj : j < vs.length
  · rw [if_pos ⟨by omega, by omega⟩, Nat.sub_zero]
  · rw [if_neg (by omega), List.getElem?_eq_none (by omega), List.getElem?_eq_none (by omega)]
theorem setL_flat {α : Type} {s : Nat} {zs : List (α × List Value)} (hz : ∀ z ∈ zs, z.2.length = s) {k : Nat} {z : α × List Value} (hk : zs[k]? = some z) (x : α) : ∀ (vs : List Value) (j : Nat) (cs : List Value), z.2.length = cs.length → j + vs.length ≤ s →
    setL (flat (zs.set k (x, cs))) (k * s + j) vs = flat (zs.set k (x, setL cs j vs))
  | [], j, cs, _, _ => rfl
  | v :: vs, j, cs, hl, h => by
    simp only [List.length_cons] at h
    have hzl : z.2.length = s := hz z (List.mem_of_getElem? hk)
    have hkl := (List.getElem?_eq_some_iff.1 hk).1
    have h1 : ∀ y ∈ zs.set k (x, cs), y.2.length = s := fun y hy => by
      rcases List.mem_or_eq_of_mem_set hy with h' | h'
      · exact hz y h'
      · subst h'; simp; omega
    rw [setL, flat_set h1 (k := k) (j := j) (z := (x, cs)) (List.getElem?_set_self (by omega)) (by omega) v x, List.set_set, Nat.add_assoc, setL_flat hz hk x vs (j + 1) (cs.set j v) (by simp; omega) (by omega)]
    rfl
section
variable {P : Program} {w0 W : World} {F0 : Nat → Prop} {Γ Γ' Γ1 : List Res}
variable {ops : Array Oper} {Q : Exit → Act → World → Prop} {a : Act} {rest : List Oper} {o : Oper} {t : TypeId} {x y : Operand}
theorem Sep.rowSome (h : Sep w0 F0 Γ W) {α : Type} {S : Sh α} {e n c k : Nat} {A : Option Addr} {xs : List α} (hm : At Γ (row e (.slice A n c) xs S)) (hk : k < xs.length) : ∃ g, A = some ⟨g, 0, none⟩ ∧ n = xs.length ∧ n ≤ c ∧ c ≤ 9223372036854775807 := by
  obtain ⟨zs, hz1, hz2, hz3⟩ := h.getRow hm
  rcases hz2.2 with ⟨hv, h0⟩ | ⟨g, cap, cur, hv, hg, hh, hnc, hcm, r⟩
  · omega
  · simp only [Value.slice.injEq] at hv
    exact ⟨g, hv.1, hv.2.1, by omega, by unfold maxLen at hcm; omega⟩
theorem Sep.rowLen (h : Sep w0 F0 Γ W) {α : Type} {S : Sh α} {e n c : Nat} {A : Option Addr} {xs : List α} (hm : At Γ (row e (.slice A n c) xs S)) : n = xs.length ∧ n ≤ c ∧ c ≤ 9223372036854775807 := by
  obtain ⟨A', c', e1, h1, h2⟩ := h.rowSlice hm
  simp only [Value.slice.injEq] at e1
  obtain ⟨_, rfl, rfl⟩ := e1
  exact ⟨rfl, h1, h2⟩
theorem Sep.rowCells (h : Sep w0 F0 Γ W) {α : Type} {S : Sh α} {e n c k g : Nat} {xs : List α} {z : α} (hm : At Γ (row e (.slice (some ⟨g, 0, none⟩) n c) xs S)) (hk : xs[k]? = some z) :
    ∃ cs, Sep w0 F0 (rep z cs S :: Γ) W ∧ W.rangeAt g (k * S.size) cs ∧ W.there g (k * S.size) S.size := by
  obtain ⟨zs, hz1, hz2, hz3⟩ := h.getRow hm
  obtain ⟨q, hq, rfl⟩ : ∃ q, zs[k]? = some q ∧ q.1 = z := by
    rw [← hz1, List.getElem?_map] at hk
    obtain ⟨q, hq, e⟩ := Option.map_eq_some_iff.1 hk
    exact ⟨q, hq, e⟩
  have hall : ∀ z ∈ zs, z.2.length = S.size := fun z hz => S.len (hz3 z hz)
  have hql := hall q (List.mem_of_getElem? hq)
  have hxl : (flat zs).length = zs.length * S.size := flat_length hall
  have hkl := (List.getElem?_eq_some_iff.1 hq).1
  have hle : (k + 1) * S.size ≤ zs.length * S.size := Nat.mul_le_mul_right _ hkl
  rw [Nat.succ_mul] at hle
  have hn : n = xs.length := (h.rowLen hm).1
  subst hn
  refine ⟨q.2, h.addRep (hz3 q (List.mem_of_getElem? hq)), fun j v hj => ?_, fun j hj => ?_⟩
  · have hjl := (List.getElem?_eq_some_iff.1 hj).1
    obtain ⟨g', e1, _, _, hc, _⟩ := own_cell hz2 (i := k * S.size + j) (by omega)
    simp only [Option.some.injEq, Addr.mk.injEq] at e1
    obtain ⟨rfl, _⟩ := e1
    rw [hc, flat_cell hall hq (by omega)]; exact hj
  · obtain ⟨g', e1, _, _, hc, hf⟩ := own_cell hz2 (i := k * S.size + j) (by omega)
    simp only [Option.some.injEq, Addr.mk.injEq] at e1
    obtain ⟨rfl, _⟩ := e1
    refine ⟨?_, hf⟩
    rw [hc, flat_cell hall hq hj, List.getElem?_eq_getElem (by omega)]; rfl
theorem Sep.wloadNr (h : Sep w0 F0 Γ W) (hgd : Region.wanted o (yielded ops a.tmps) = true) (ho : o.op = .load t x) {α : Type} {S : Sh α} {g k e n c : Nat} {xs : List α} (hx : a.eval x = .pointer (some ⟨g, k * S.size, none⟩)) (hm : At Γ (row e (.slice (some ⟨g, 0, none⟩) n c) xs S)) (h1 : AggN P t S.size) (hk : k < xs.length)
    (kk : ∀ z cs, Hid (xs[k]? = some z) → Sep w0 F0 (rep z cs S :: Γ) W → wpList P ops Q rest (a.put o.dst (.agg cs.toArray)) W) : wpList P ops Q (o :: rest) a W := by
  obtain ⟨cs, h2, h3, _⟩ := h.rowCells hm (List.getElem?_eq_getElem hk)
  have hl : cs.length = S.size := S.len (h2.getRep At.z)
  exact wload hgd ho hx (by rw [← hl] at h1; exact h1.load h3) (kk _ _ (Lib.hid (List.getElem?_eq_getElem hk)) h2)
theorem Sep.rowSet (h : Sep w0 F0 Γ W) {α : Type} {S : Sh α} {e n c k j g : Nat} {xs : List α} {z z' : α} {vs : List Value} (hd : Del Γ (row e (.slice (some ⟨g, 0, none⟩) n c) xs S) Γ1) (hk : xs[k]? = some z) (hj : j + vs.length ≤ S.size)
    (hr : ∀ cs, S.rep W (Free w0.heap.size F0 (row e (.slice (some ⟨g, 0, none⟩) n c) xs S :: Γ1) W) z cs → S.rep W (Free w0.heap.size F0 (row e (.slice (some ⟨g, 0, none⟩) n c) xs S :: Γ1) W) z' (setL cs j vs)) :
    Sep w0 F0 (row e (.slice (some ⟨g, 0, none⟩) n c) (xs.set k z') S :: Γ1) (W.setCells g (k * S.size + j) vs) := by
  have h1 := h.front hd
  have hn : n = xs.length := (h1.rowLen At.z).1
  subst hn
  have hfar : ∀ (vs : List Value) (i : Nat) (w : World) (b : Nat), b ≠ g → (w.setCells g i vs).heap[b]? = w.heap[b]? := by
    intro vs
    induction vs with
    | nil => intro i w b hb; rfl
    | cons v vs ih => intro i w b hb; rw [World.setCells, ih _ _ _ hb]; exact Below.heap_setCell _ _ _ _ hb
  have hsz : ∀ (vs : List Value) (i : Nat) (w : World), (w.setCells g i vs).heap.size = w.heap.size ∧ (w.setCells g i vs).os = w.os ∧ (w.setCells g i vs).tape = w.tape ∧ (w.setCells g i vs).output = w.output := by
    intro vs
    induction vs with
    | nil => intro i w; exact ⟨rfl, rfl, rfl, rfl⟩
    | cons v vs ih => intro i w; rw [World.setCells]; obtain ⟨a1, a2, a3, a4⟩ := ih (i + 1) (w.setCell ⟨g, i, none⟩ v); exact ⟨by rw [a1]; simp [World.setCell], a2, a3, a4⟩
  obtain ⟨s1, s2, s3, s4⟩ := hsz vs (k * S.size + j) W
  have hgr : W.grownBy (W.setCells g (k * S.size + j) vs) (some g) := ⟨s2, s3, s4, by omega, fun b _ hb => hfar _ _ _ _ (fun e => hb (by rw [e]))⟩
  refine h1.putRow hgr ?_
  intro hfree hag zs hz1 hz2 hz3
  obtain ⟨q, hq, rfl⟩ : ∃ q, zs[k]? = some q ∧ q.1 = z := by
    rw [← hz1, List.getElem?_map] at hk
    obtain ⟨q, hq, e⟩ := Option.map_eq_some_iff.1 hk
    exact ⟨q, hq, e⟩
  have hall : ∀ z ∈ zs, z.2.length = S.size := fun z hz => S.len (hz3 z hz)
  have hql := hall q (List.mem_of_getElem? hq)
  refine ⟨zs.set k (z', setL q.2 j vs), by rw [List.map_set, hz1], ?_, ?_⟩
  · have := own_setCells rfl vs (k * S.size + j) W (flat zs) hz2
    rw [List.length_set]
    have e2 := setL_flat hall hq z' vs j q.2 rfl hj
    have e3 : flat (zs.set k (z', q.2)) = flat zs := by
      have : ∀ (l : List (α × List Value)) (i : Nat) (q : α × List Value) (y : α), l[i]? = some q → flat (l.set i (y, q.2)) = flat l := by
        intro l
        induction l with
        | nil => intro i q y h; cases h
        | cons p l ih =>
          intro i q y h
          cases i with
          | zero => simp at h; subst h; rfl
          | succ i => simp only [List.set_cons_succ, flat_cons]; rw [ih i q y (by simpa using h)]
      exact this zs k q z' hq
    rw [e3] at e2
    rw [← e2]
    exact this
  · intro p hp
    rcases List.mem_or_eq_of_mem_set hp with h' | h'
    · exact S.more hfree (S.keep hag (hz3 p h'))
    · subst h'
      exact S.more hfree (S.keep hag (hr q.2 (hz3 q (List.mem_of_getElem? hq))))
theorem Sep.wstore1r (h : Sep w0 F0 Γ W) (hgd : Region.wanted o (yielded ops a.tmps) = true) (ho : o.op = .store t x y) {α : Type} {S : Sh α} {g k j e n c : Nat} {xs : List α} {z z' : α} {u : Value} (hx : a.eval x = .pointer (some ⟨g, k * S.size + j, none⟩)) (hy : a.eval y = u) (h1 : OneT P t) (hone : u.oneCell' = true)
    (hd : Del Γ (row e (.slice (some ⟨g, 0, none⟩) n c) xs S) Γ1) (hk : xs[k]? = some z) (hj : j < S.size)
    (hr : ∀ cs, S.rep W (Free w0.heap.size F0 (row e (.slice (some ⟨g, 0, none⟩) n c) xs S :: Γ1) W) z cs → S.rep W (Free w0.heap.size F0 (row e (.slice (some ⟨g, 0, none⟩) n c) xs S :: Γ1) W) z' (cs.set j u))
    (kk : ∀ W', Sep w0 F0 (row e (.slice (some ⟨g, 0, none⟩) n c) (xs.set k z') S :: Γ1) W' → wpList P ops Q rest (a.put o.dst undef) W') : wpList P ops Q (o :: rest) a W := by
  obtain ⟨cs, h2, h3, h4⟩ := (h.front hd).rowCells At.z hk
  obtain ⟨h5, h6⟩ := h4 j hj
  obtain ⟨v, hv⟩ := Option.isSome_iff_exists.1 h5
  refine wstore hgd ho hx hy (h1.store (u := v) hv h6 hone) (kk _ ?_)
  exact h.rowSet (vs := [u]) (j := j) hd hk (by simp; omega) (fun cs hc => hr cs hc)
theorem Sep.wstoreNr (h : Sep w0 F0 Γ W) (hgd : Region.wanted o (yielded ops a.tmps) = true) (ho : o.op = .store t x y) {α : Type} {S : Sh α} (hS1 : S.ones) {g k e n c : Nat} {xs : List α} {z z' : α} {cs : List Value} (hx : a.eval x = .pointer (some ⟨g, k * S.size, none⟩)) (hy : a.eval y = .agg cs.toArray) (h1 : AggN P t S.size)
    (hd : Del Γ (row e (.slice (some ⟨g, 0, none⟩) n c) xs S) Γ1) (hk : xs[k]? = some z) (hz : At Γ1 (rep z' cs S))
    (kk : ∀ W', Sep w0 F0 (row e (.slice (some ⟨g, 0, none⟩) n c) (xs.set k z') S :: Γ1) W' → wpList P ops Q rest (a.put o.dst undef) W') : wpList P ops Q (o :: rest) a W := by
  have h0 := h.front hd
  obtain ⟨cs0, h2, h3, h4⟩ := h0.rowCells At.z hk
  have hrep : S.rep W _ z' cs := h0.getRep (At.s hz)
  have hl := S.len hrep
  have hi : (P.info? t).map (·.size) = some cs.toArray.size := by obtain ⟨_, _, _, hi⟩ := h1; simpa [hl] using hi
  refine wstore hgd ho hx hy (run_storeVar_mid W g (k * S.size) t cs.toArray (by simpa [hl] using h4) hi (all_oneCell_toArray (hS1 hrep))) (kk _ ?_)
  have := h.rowSet (vs := cs) (j := 0) hd hk (by omega) (z' := z') (fun c hc => by rw [setL_all c cs (by rw [S.len hc, hl])]; exact hrep)
  simpa using this
end
end Go.Proofs.Ytnnbnjanekibpaa
namespace Go.Proofs.Ytnnbnjanekibpaa
open Go.RowKit
theorem ag_op : AggN Try.prog 108 2 := .mk Try.underlying108 rfl (by kernel_rfl)
theorem z_op : ZeroT Try.prog 108 [.int .i64 0, .int .i64 0] := ⟨.agg #[.int .i64 0, .int .i64 0], rfl, fun _ => by kernel_rfl⟩
theorem ag_point : AggN Try.prog 88 2 := .mk Try.underlying88 rfl (by kernel_rfl)
theorem z_point : ZeroT Try.prog 88 [.int .i64 0, .int .i64 0] := ⟨.agg #[.int .i64 0, .int .i64 0], rfl, fun _ => by kernel_rfl⟩
theorem ag_in : AggN Try.prog 91 3 := .mk Try.underlying91 rfl (by kernel_rfl)
theorem z_in : ZeroT Try.prog 91 [.int .i64 0, .int .i64 0, .slice none 0 0] := ⟨.agg #[.int .i64 0, .int .i64 0, .slice none 0 0], rfl, fun _ => by kernel_rfl⟩
theorem ag_out : AggN Try.prog 98 2 := .mk Try.underlying98 rfl (by kernel_rfl)
theorem z_out : ZeroT Try.prog 98 [.int .i64 0, .slice none 0 0] := ⟨.agg #[.int .i64 0, .slice none 0 0], rfl, fun _ => by kernel_rfl⟩
theorem ag_tx : AggN Try.prog 81 3 := .mk Try.underlying81 rfl (by kernel_rfl)
theorem z_tx : ZeroT Try.prog 81 [.int .i64 0, .slice none 0 0, .slice none 0 0] := ⟨.agg #[.int .i64 0, .slice none 0 0, .slice none 0 0], rfl, fun _ => by kernel_rfl⟩
theorem ag_book : AggN Try.prog 39 1 := .mk Try.underlying39 rfl (by kernel_rfl)
theorem z_book : ZeroT Try.prog 39 [.slice none 0 0] := ⟨.agg #[.slice none 0 0], rfl, fun _ => by kernel_rfl⟩
theorem ag_coin : AggN Try.prog 100 6 := .mk Try.underlying100 rfl (by kernel_rfl)
theorem z_coin : ZeroT Try.prog 100 [.int .i64 0, .int .i64 0, .int .i64 0, .slice none 0 0, .int .i64 0, .bool false] := ⟨.agg #[.int .i64 0, .int .i64 0, .int .i64 0, .slice none 0 0, .int .i64 0, .bool false], rfl, fun _ => by kernel_rfl⟩
theorem ag_undo : AggN Try.prog 83 1 := .mk Try.underlying83 rfl (by kernel_rfl)
theorem z_undo : ZeroT Try.prog 83 [.slice none 0 0] := ⟨.agg #[.slice none 0 0], rfl, fun _ => by kernel_rfl⟩
theorem ag_block : AggN Try.prog 66 5 := .mk Try.underlying66 rfl (by kernel_rfl)
theorem z_block : ZeroT Try.prog 66 [.int .i64 0, .int .i64 0, .int .i64 0, .int .i64 0, .slice none 0 0] := ⟨.agg #[.int .i64 0, .int .i64 0, .int .i64 0, .int .i64 0, .slice none 0 0], rfl, fun _ => by kernel_rfl⟩
theorem ag_tree : AggN Try.prog 56 2 := .mk Try.underlying56 rfl (by kernel_rfl)
theorem z_tree : ZeroT Try.prog 56 [.slice none 0 0, .slice none 0 0] := ⟨.agg #[.slice none 0 0, .slice none 0 0], rfl, fun _ => by kernel_rfl⟩
theorem one_int : OneT Try.prog 3 := .mk Try.underlying3 rfl (by kernel_rfl)
theorem z_int : ZeroT Try.prog 3 [.int .i64 0] := ⟨.int .i64 0, rfl, fun _ => by kernel_rfl⟩
theorem one_str : OneT Try.prog 9 := .mk Try.underlying9 rfl (by kernel_rfl)
theorem z_str : ZeroT Try.prog 9 [.string ⟨#[]⟩] := ⟨.string ⟨#[]⟩, rfl, fun _ => by kernel_rfl⟩
theorem one_bool : OneT Try.prog 4 := .mk Try.underlying4 rfl (by kernel_rfl)
theorem z_bool : ZeroT Try.prog 4 [.bool false] := ⟨.bool false, rfl, fun _ => by kernel_rfl⟩
theorem one_errno : OneT Try.prog 22 := .mk Try.underlying22 rfl (by kernel_rfl)
theorem z_errno : ZeroT Try.prog 22 [.int .i64 0] := ⟨.int .i64 0, rfl, fun _ => by kernel_rfl⟩
theorem one_sop : OneT Try.prog 89 := .mk Try.underlying89 rfl (by kernel_rfl)
theorem sl_op : SliceT Try.prog 89 108 2 16 := .mk Try.underlying89 (by kernel_rfl)
theorem one_spoint : OneT Try.prog 167 := .mk Try.underlying167 rfl (by kernel_rfl)
theorem sl_point : SliceT Try.prog 167 88 2 16 := .mk Try.underlying167 (by kernel_rfl)
theorem one_sin : OneT Try.prog 78 := .mk Try.underlying78 rfl (by kernel_rfl)
theorem sl_in : SliceT Try.prog 78 91 3 40 := .mk Try.underlying78 (by kernel_rfl)
theorem one_sout : OneT Try.prog 79 := .mk Try.underlying79 rfl (by kernel_rfl)
theorem sl_out : SliceT Try.prog 79 98 2 32 := .mk Try.underlying79 (by kernel_rfl)
theorem one_stx : OneT Try.prog 64 := .mk Try.underlying64 rfl (by kernel_rfl)
theorem sl_tx : SliceT Try.prog 64 81 3 56 := .mk Try.underlying64 (by kernel_rfl)
theorem one_scoin : OneT Try.prog 77 := .mk Try.underlying77 rfl (by kernel_rfl)
theorem sl_coin : SliceT Try.prog 77 100 6 64 := .mk Try.underlying77 (by kernel_rfl)
theorem one_sblock : OneT Try.prog 54 := .mk Try.underlying54 rfl (by kernel_rfl)
theorem sl_block : SliceT Try.prog 54 66 5 56 := .mk Try.underlying54 (by kernel_rfl)
theorem one_sint : OneT Try.prog 24 := .mk Try.underlying24 rfl (by kernel_rfl)
theorem sl_int : SliceT Try.prog 24 3 1 8 := .mk Try.underlying24 (by kernel_rfl)
theorem one_sstr : OneT Try.prog 37 := .mk Try.underlying37 rfl (by kernel_rfl)
theorem sl_str : SliceT Try.prog 37 9 1 16 := .mk Try.underlying37 (by kernel_rfl)
theorem one_of {t : Nat} (h : [3, 22, 4, 9, 89, 167, 78, 79, 64, 77, 54, 24, 37].contains t = true) : OneT Try.prog t := by
  have h' := List.contains_iff_mem.1 h
  simp only [List.mem_cons, List.not_mem_nil, or_false] at h'
  rcases h' with rfl | rfl | rfl | rfl | rfl | rfl | rfl | rfl | rfl | rfl | rfl | rfl | rfl
  · exact one_int
  · exact one_errno
  · exact one_bool
  · exact one_str
  · exact one_sop
  · exact one_spoint
  · exact one_sin
  · exact one_sout
  · exact one_stx
  · exact one_scoin
  · exact one_sblock
  · exact one_sint
  · exact one_sstr
theorem agg_of {t n : Nat} (h : [(108, 2), (88, 2), (91, 3), (98, 2), (81, 3), (39, 1), (100, 6), (83, 1), (66, 5), (56, 2)].contains (t, n) = true) : AggN Try.prog t n := by
  have h' := List.contains_iff_mem.1 h
  simp only [List.mem_cons, List.not_mem_nil, or_false, Prod.mk.injEq] at h'
  rcases h' with ⟨rfl, rfl⟩ | ⟨rfl, rfl⟩ | ⟨rfl, rfl⟩ | ⟨rfl, rfl⟩ | ⟨rfl, rfl⟩ | ⟨rfl, rfl⟩ | ⟨rfl, rfl⟩ | ⟨rfl, rfl⟩ | ⟨rfl, rfl⟩ | ⟨rfl, rfl⟩
  · exact ag_op
  · exact ag_point
  · exact ag_in
  · exact ag_out
  · exact ag_tx
  · exact ag_book
  · exact ag_coin
  · exact ag_undo
  · exact ag_block
  · exact ag_tree
end Go.Proofs.Ytnnbnjanekibpaa
namespace Go.Proofs.Ytnnbnjanekibpaa
open Go.RowKit
set_option linter.unusedVariables false
set_option maxRecDepth 100000
def eqB {α : Type} [DecidableEq α] (xs ys : List α) : Bool := decide (xs = ys)
theorem equal_int (xs ys : List Int) (A A' : Option Addr) (n c n' c' : Nat) (w : World) (F F' : Nat → Prop) (h : Rds shInt w F xs A n c) (h' : Rds shInt w F' ys A' n' c') :
    Calls Try.prog 18 #[.slice A n c, .slice A' n' c'] w fun e w' => e = .returned (.bool (eqB xs ys)) ∧ ∃ m, w' = w.drewN m := by
  have hn := h.2.1
  have hc := h.2.2.1
  have hn' := h'.2.1
  have hc' := h'.2.2.1
  by_cases hl : n = n'
  · obtain rfl := hl
    go_enter Try.func18, Try.ntmps18
    go_wp2
    go_loopw [5, 13] (fun _ i wr => ∃ (k m : Nat), k ≤ n ∧ i = .int .i64 k ∧ wr = w.drewN m ∧ xs.take k = ys.take k) (fun _ i _ => n - (intOf i).toNat)
    case atStart => exact ⟨0, 0, by omega, rfl, rfl, rfl⟩
    case round =>
      obtain ⟨k, m, hk, rfl, rfl, hs⟩ := hrel
      by_cases hlt : k < n
      · obtain ⟨b, off, x, rfl, -, hx, hcell, x0, x1⟩ := h.int hlt
        obtain ⟨b', off', y, rfl, -, hy, hcell', y0, y1⟩ := h'.int hlt
        have Hs := Lib.hid hs
        have Hx := Lib.hid hx
        have Hy := Lib.hid hy
        have i1 : (0 : Int) ≤ (k : Int) := by omega
        have i2 : (k : Int) < (n : Int) := by omega
        clear hs hx hy h h'
        by_cases hxy : x = y
        · subst hxy
          go_wp2
          go_quiet (fail)
          go_wp2
          go_roundw
          case measure => simp [intOf]; omega
          case rel => exact ⟨k + 1, _, by omega, by go_num, rfl, by rw [take_snoc Hx.out, take_snoc Hy.out, Hs.out]⟩
        · have hd : (x == y) = false := by simpa using hxy
          go_wp2
          go_quiet (fail)
          go_wp2
          go_ret
          refine ⟨ret_bool ?_, _, World.drewN_drewN _ _ _⟩
          have : xs ≠ ys := fun e => hxy (by have := Hx.out; rw [e, Hy.out] at this; injection this with this; exact this.symm)
          simp [eqB, this]
      · obtain rfl : k = n := by omega
        have Hs := Lib.hid hs
        clear hs
        go_wp2
        go_ret
        refine ⟨ret_bool ?_, _, rfl⟩
        have := Hs.out
        rw [List.take_of_length_le (by have := h.1; omega), List.take_of_length_le (by have := h'.1; omega)] at this
        simp [eqB, this]
  · have hd : ((n : Int) == (n' : Int)) = false := by simp; omega
    have e : eqB xs ys = false := by
      have : xs ≠ ys := fun e => hl (by rw [← h.1, ← h'.1, e])
      simp [eqB, this]
    rw [e]
    clear hl e
    go_enter Try.func18, Try.ntmps18
    go_wp2
    go_ret
    exact ⟨rfl, 0, rfl⟩
end Go.Proofs.Ytnnbnjanekibpaa
namespace Go.Proofs.Ytnnbnjanekibpaa
open Go.RowKit
set_option linter.unusedVariables false
set_option maxRecDepth 100000
theorem Rds.op {w : World} {F : Nat → Prop} {xs : List Op} {A : Option Addr} {n c k : Nat} (h : Rds shOp w F xs A n c) (hk : k < n) :
    ∃ b off x, A = some ⟨b, off, none⟩ ∧ F b ∧ xs[k]? = some x ∧ (w.cell? ⟨b, off + k * 2, none⟩ = some (.int .i64 x.kind) ∧ w.cell? ⟨b, off + k * 2 + 1, none⟩ = some (.int .i64 x.n)) ∧ I64 x.kind ∧ I64 x.n := by
  obtain ⟨b, off, x, cs, e, hF, hx, hr, hc⟩ := h.at_ hk
  obtain ⟨rfl, h1, h2⟩ := rep_op hr
  exact ⟨b, off, x, e, hF, hx, ⟨by simpa [shOp, shS2, shInt] using hc 0 _ rfl, by simpa [shOp, shS2, shInt] using hc 1 _ rfl⟩, h1, h2⟩
def idxGo {α : Type} [DecidableEq α] (x : α) : List α → Nat → Int
  | [], _ => -1
  | y :: l, k => if x = y then k else idxGo x l (k + 1)
def idx {α : Type} [DecidableEq α] (xs : List α) (x : α) : Int := idxGo x xs 0
def memB {α : Type} [DecidableEq α] (xs : List α) (x : α) : Bool := decide (x ∈ xs)
theorem idxGo_mem {α : Type} [DecidableEq α] (x : α) (l : List α) (k : Nat) : (0 ≤ idxGo x l k ↔ x ∈ l) := by
  induction l generalizing k with
  | nil => simp [idxGo]
  | cons y l ih =>
    by_cases h : x = y
    · subst h; simp [idxGo]
    · rw [idxGo, if_neg h, ih (k + 1)]; simp [h]
theorem idx_mem {α : Type} [DecidableEq α] (xs : List α) (x : α) : (0 ≤ idx xs x ↔ x ∈ xs) := idxGo_mem x xs 0
theorem idxGo_ge {α : Type} [DecidableEq α] (x : α) (l : List α) (k : Nat) : -1 ≤ idxGo x l k ∧ idxGo x l k < k + l.length ∨ idxGo x l k = -1 := by
  induction l generalizing k with
  | nil => simp [idxGo]
  | cons y l ih =>
    by_cases h : x = y
    · subst h; simp [idxGo]; omega
    · simp only [idxGo, if_neg h, List.length_cons]
      rcases ih (k + 1) with h | h
      · left; omega
      · right; exact h
theorem idx_bd {α : Type} [DecidableEq α] (xs : List α) (x : α) : -1 ≤ idx xs x ∧ idx xs x ≤ xs.length := by
  rcases idxGo_ge x xs 0 with h | h <;> unfold idx <;> omega
theorem index_int (xs : List (Int)) (y : Int) (A : Option Addr) (n c : Nat) (w : World) (F : Nat → Prop) (h : Rds shInt w F xs A n c) :
    Calls Try.prog 50 #[.slice A n c, .int .i64 y] w fun e w' => e = .returned (.int .i64 (idx xs y)) ∧ w = w' := by
  have hn := h.2.1
  have hc := h.2.2.1
  go_enter Try.func50, Try.ntmps50
  go_wp2
  go_loop [5, 8] (fun _ i => ∃ (k : Nat), k ≤ n ∧ i = .int .i64 k ∧ idxGo y (xs.drop k) k = idx xs y) (fun _ i => n - (intOf i).toNat)
  case atStart => exact ⟨0, by omega, rfl, rfl⟩
  case round =>
    obtain ⟨k, hk, rfl, hs⟩ := hrel
    by_cases hlt : k < n
    · obtain ⟨b, off, x, rfl, -, hx, hcell, x0⟩ := h.int hlt
      rw [drop_cons hx, idxGo] at hs
      clear hx h x0
      by_cases hxy : y = x
      · subst hxy
        rw [if_pos rfl] at hs
        have Hs := Lib.hid hs
        clear hs
        go_wp2
        go_ret
        exact ⟨ret_int Hs.out, rfl⟩
      · rw [if_neg hxy] at hs
        have Hs := Lib.hid hs
        clear hs
        have hd : (y == x) = false := by simpa using hxy
        clear hxy
        go_wp2
        go_round
        case measure => simp [intOf]; omega
        case rel => exact ⟨k + 1, by omega, by go_num, Hs.out⟩
    · obtain rfl : k = n := by omega
      have Hs := Lib.hid hs
      clear hs
      go_wp2
      go_ret
      have := Hs.out
      rw [List.drop_eq_nil_of_le (by have := h.1; omega), idxGo] at this
      exact ⟨ret_int this, rfl⟩
theorem contains_int (xs : List (Int)) (y : Int) (A : Option Addr) (n c : Nat) (w : World) (F : Nat → Prop) (h : Rds shInt w F xs A n c) :
    Calls Try.prog 71 #[.slice A n c, .int .i64 y] w fun e w' => e = .returned (.bool (memB xs y)) ∧ w = w' := by
  go_enter Try.func71, Try.ntmps71
  go_wp2_with fail
  refine (index_int _ _ _ _ _ _ _ h).mono ?_; rintro e w' ⟨rfl, rfl⟩
  have hm := idx_mem xs y
  have e : decide (0 ≤ idx xs y) = memB xs y := by unfold memB; rw [decide_eq_decide]; exact hm
  have E := Lib.hid e
  clear e hm
  go_wp2_with fail
  go_ret
  exact ⟨ret_bool E.out, rfl⟩
end Go.Proofs.Ytnnbnjanekibpaa
namespace Go.Proofs.Ytnnbnjanekibpaa
open Go.RowKit
set_option linter.unusedVariables false
set_option maxRecDepth 100000
def Mid (w w' : World) : Nat → Prop := fun b => w.heap.size ≤ b ∧ b < w'.heap.size
end Go.Proofs.Ytnnbnjanekibpaa
namespace Go.Proofs.Ytnnbnjanekibpaa
open Go.RowKit
set_option linter.unusedVariables false
set_option maxRecDepth 100000
theorem own_below {w w' : World} {base e size n : Nat} {v : Value} {xs : List Value} (h : w.ownsRow base e size v n xs) (hb : Below w.heap.size w w') : w'.ownsRow base e size v n xs := by
  refine ⟨h.1, ?_⟩
  rcases h.2 with h0 | ⟨g, cap, cur, hv, hg, hh, r⟩
  · exact .inl h0
  · refine .inr ⟨g, cap, cur, hv, hg, ?_, r⟩
    rw [hb.block g ?_]
    · exact hh
    · rcases Nat.lt_or_ge g w.heap.size with h | h
      · exact h
      · rw [Array.getElem?_eq_none h] at hh; cases hh
theorem block_append {wa w5 : World} {o : Obj} {v : Value} (hgr : (wa.alloc o).grownBy w5 v.ownBlock) {b : Nat} (hb : b < wa.heap.size) (hne : v.ownBlock ≠ some b) : w5.heap[b]? = wa.heap[b]? :=
  (hgr.block b (by simp; omega) (fun e => hne e.symm)).trans (Below.heap_alloc _ _ _ hb)
theorem int_info2 : ∃ i z, Try.prog.info? 3 = some i ∧ i.zero = some z ∧ i.size = 1 ∧ i.bytes = 8 ∧ z.cells.size = 1 := by
  have h1 : (Try.prog.info? 3).map (fun i => (i.zero.map (·.cells.size), i.size, i.bytes)) = some (some 1, 1, 8) := by kernel_rfl
  match hh : Try.prog.info? 3, h1 with
  | some i, h1 =>
    simp only [Option.map_some, Option.some.injEq, Prod.mk.injEq] at h1
    match hz : i.zero, h1 with
    | some z, h1 => exact ⟨i, z, rfl, hz, h1.2.1, h1.2.2, by simpa using h1.1⟩
end Go.Proofs.Ytnnbnjanekibpaa
namespace Go.Proofs.Ytnnbnjanekibpaa
open Go.RowKit
set_option linter.unusedVariables false
set_option maxRecDepth 100000
def opBad (o : Op) : Int := if o.kind < 1 ∨ 13 < o.kind then 4 else if (o.kind ≠ 1 ∧ o.n ≠ 0) ∨ o.n < -1000000 ∨ 1000000 < o.n then 3 else 0
def opsGo : List Op → Int
  | [] => 0
  | o :: l => if opBad o ≠ 0 then opBad o else opsGo l
def opsCheck (l : List Op) : Int := if 16 < l.length then 2 else opsGo l
theorem lockCheck_any (xs : List Op) (A : Option Addr) (n c : Nat) (w : World) (F : Nat → Prop) (h : Rds shOp w F xs A n c) (hF : ∀ b, F b → b < w.heap.size) :
    Calls Try.prog 106 #[.slice A n c] w fun e w' => e = .returned (.int .i64 (opsCheck xs)) ∧ Below w.heap.size w w' := by
  have hn := h.2.1
  have hc := h.2.2.1
  have hl := h.1
  by_cases h16 : 16 < n
  · have e : opsCheck xs = 2 := by simp only [opsCheck]; rw [if_pos (by omega)]
    rw [e]
    clear e hl
    go_enter Try.func106, Try.ntmps106
    go_wp2
    go_ret
    exact ⟨rfl, Below.refl _ _⟩
  · have e : opsCheck xs = opsGo xs := by simp only [opsCheck]; rw [if_neg (by omega)]
    rw [e]
    have HR := Lib.hid h
    have HLN := Lib.hid hl
    clear e hl h
    go_enter Try.func106, Try.ntmps106
    go_wp2
    go_loopw [4, 10] (fun _ i wr => ∃ k : Nat, k ≤ n ∧ i = .int .i64 k ∧ Below w.heap.size w wr ∧ opsGo (xs.drop k) = opsGo xs) (fun _ i _ => n - (intOf i).toNat)
    case atStart => exact ⟨0, by omega, rfl, Below.refl _ _, rfl⟩
    case round =>
      obtain ⟨k, hk, rfl, hb, hs⟩ := hrel
      by_cases hlt : k < n
      · obtain ⟨b, off, x, rfl, hFb, hx, ⟨hc1, hc2⟩, -, -⟩ := HR.out.op hlt
        rw [drop_cons hx, opsGo] at hs
        rw [← hb.cell (p := ⟨b, off + k * 2, none⟩) (hF b hFb)] at hc1
        rw [← hb.cell (p := ⟨b, off + k * 2 + 1, none⟩) (hF b hFb)] at hc2
        have HB := Lib.hid (hb.alloc hb.size (.cells #[.int .i64 x.kind, .int .i64 x.n] 108))
        clear hx hb
        have i1 : (0 : Int) ≤ (k : Int) := by omega
        have i2 : (k : Int) < (n : Int) := by omega
        obtain ⟨xk, xn⟩ := x
        simp only at hc1 hc2 HB
        rcases Classical.em (xk < 1 ∨ 13 < xk) with hk1 | hk1
        · have e : opBad ⟨xk, xn⟩ = 4 := by simp only [opBad]; rw [if_pos hk1]
          rw [e, if_pos (by decide)] at hs
          have HS := Lib.hid hs
          clear hs e
          rcases Classical.em (xk < 1) with hk2 | hk2
          · clear hk1
            go_wp2
            go_ret
            exact ⟨ret_int HS.out, HB.out⟩
          · have hk3 : 13 < xk := by omega
            clear hk1
            go_wp2
            go_ret
            exact ⟨ret_int HS.out, HB.out⟩
        · have g1 : ¬ xk < 1 := by omega
          have g2 : ¬ 13 < xk := by omega
          have e0 : opBad ⟨xk, xn⟩ = if (xk ≠ 1 ∧ xn ≠ 0) ∨ xn < -1000000 ∨ 1000000 < xn then 3 else 0 := by simp only [opBad]; rw [if_neg hk1]
          rw [e0] at hs
          clear hk1 e0
          rcases Classical.em ((xk ≠ 1 ∧ xn ≠ 0) ∨ xn < -1000000 ∨ 1000000 < xn) with h3 | h3
          · rw [if_pos h3, if_pos (by decide)] at hs
            have HS := Lib.hid hs
            clear hs
            by_cases h4 : xk ≠ 1 ∧ xn ≠ 0
            · have k1 : (xk != 1) = true := by simpa using h4.1
              have k2 : (xn != 0) = true := by simpa using h4.2
              clear h3 h4
              go_wp2
              go_ret
              exact ⟨ret_int HS.out, HB.out⟩
            · by_cases h5 : xk = 1
              · subst h5
                clear h4
                rcases Classical.em (xn < -1000000) with h6 | h6
                · clear h3
                  go_wp2
                  go_ret
                  exact ⟨ret_int HS.out, HB.out⟩
                · have h7 : 1000000 < xn := by omega
                  clear h3
                  go_wp2
                  go_ret
                  exact ⟨ret_int HS.out, HB.out⟩
              · exfalso; omega
          · rw [if_neg h3, if_neg (by decide)] at hs
            have HS := Lib.hid hs
            clear hs
            have h6 : ¬ xn < -1000000 := by omega
            have h7 : ¬ 1000000 < xn := by omega
            by_cases h5 : xk = 1
            · subst h5
              clear h3
              go_wp2
              go_roundw
              case measure => simp [intOf]; omega
              case rel => exact ⟨k + 1, by omega, by go_num, HB.out, HS.out⟩
            · obtain rfl : xn = 0 := by omega
              have k1 : (xk != 1) = true := by simpa using h5
              clear h3 h5
              go_wp2
              go_roundw
              case measure => simp [intOf]; omega
              case rel => exact ⟨k + 1, by omega, by go_num, HB.out, HS.out⟩
      · obtain rfl : k = n := by omega
        rw [List.drop_eq_nil_of_le (by rw [HLN.out]; omega), opsGo] at hs
        have HS := Lib.hid hs
        clear hs
        go_wp2
        go_ret
        exact ⟨ret_int HS.out, hb⟩
end Go.Proofs.Ytnnbnjanekibpaa
namespace Go.Proofs.Ytnnbnjanekibpaa
open Go.RowKit
set_option linter.unusedVariables false
set_option maxRecDepth 100000
def coinCheck (n : Int) : Int := if 0 ≤ n ∧ n ≤ 1000000000 then 0 else 3
theorem coinCheck_any (n : Int) (w : World) : Calls Try.prog 26 #[.int .i64 n] w fun e w' => e = .returned (.int .i64 (coinCheck n)) ∧ w = w' := by
  go_enter Try.func26, Try.ntmps26
  go_wp2
  all_goals (go_ret; refine ⟨ret_int ?_, rfl⟩; unfold coinCheck; first | (rw [if_pos (by omega)]) | (rw [if_neg (by omega)]))
def sumGo : List Int → Int → Int × Int
  | [], a => (a, 0)
  | x :: l, a => if 0 ≤ x ∧ x ≤ 1000000000 then (if 1000000000 < a + x then (0, 12) else sumGo l (a + x)) else (0, 3)
def coinSum (l : List Int) : Int × Int := sumGo l 0
theorem sum_any (xs : List Int) (A : Option Addr) (n c : Nat) (w : World) (F : Nat → Prop) (h : Rds shInt w F xs A n c) :
    Calls Try.prog 23 #[.slice A n c] w fun e w' => e = .returned (.tuple #[.int .i64 (coinSum xs).1, .int .i64 (coinSum xs).2]) ∧ w = w' := by
  have hn := h.2.1
  have hc := h.2.2.1
  go_enter Try.func23, Try.ntmps23
  go_wp2
  go_loop [4, 10] (fun a i => ∃ (k : Nat) (aa : Int), k ≤ n ∧ i = .int .i64 k ∧ a = .int .i64 aa ∧ 0 ≤ aa ∧ aa ≤ 1000000000 ∧ sumGo (xs.drop k) aa = coinSum xs) (fun _ i => n - (intOf i).toNat)
  case atStart => exact ⟨0, 0, by omega, rfl, rfl, by omega, by omega, rfl⟩
  case round =>
    obtain ⟨k, aa, hk, rfl, rfl, a0, a1, hs⟩ := hrel
    by_cases hlt : k < n
    · obtain ⟨b, off, x, rfl, -, hx, hcell, x0, x1⟩ := h.int hlt
      rw [drop_cons hx, sumGo] at hs
      have Hs := Lib.hid hs
      clear hs hx h
      by_cases hv : 0 ≤ x ∧ x ≤ 1000000000
      · obtain ⟨v0, v1⟩ := hv
        have e : coinCheck x = 0 := by unfold coinCheck; rw [if_pos ⟨v0, v1⟩]
        have E := Lib.hid e
        clear e
        by_cases hf : 1000000000 < aa + x
        · go_wp2_with (go_at_call 26; refine (coinCheck_any _ _).mono ?_; rintro e w' ⟨rfl, rfl⟩; rw [E.out])
          go_ret2
          have := Hs.out
          rw [if_pos (by omega), if_pos (by omega)] at this
          exact ⟨ret_int2 (by rw [← this]) (by rw [← this]), rfl⟩
        · go_wp2_with (go_at_call 26; refine (coinCheck_any _ _).mono ?_; rintro e w' ⟨rfl, rfl⟩; rw [E.out])
          go_round
          case measure => simp [intOf]; omega
          case rel =>
            have := Hs.out
            rw [if_pos (by omega), if_neg (by omega)] at this
            exact ⟨k + 1, _, by omega, by go_num, rfl, by omega, by omega, this⟩
      · have e : coinCheck x = 3 := by unfold coinCheck; rw [if_neg hv]
        have E := Lib.hid e
        clear e
        have hv' : x < 0 ∨ 1000000000 < x := by omega
        have Hv := Lib.hid hv
        clear hv
        go_wp2_with (go_at_call 26; refine (coinCheck_any _ _).mono ?_; rintro e w' ⟨rfl, rfl⟩; rw [E.out])
        go_ret2
        have := Hs.out
        rw [if_neg Hv.out] at this
        exact ⟨ret_int2 (by rw [← this]) (by rw [← this]), rfl⟩
    · obtain rfl : k = n := by omega
      have Hs := Lib.hid hs
      clear hs
      go_wp2
      go_ret2
      have := Hs.out
      rw [List.drop_eq_nil_of_le (by have := h.1; omega)] at this
      exact ⟨ret_int2 (by rw [← this]; rfl) (by rw [← this]; rfl), rfl⟩
def isAmountB (n : Int) : Bool := decide (0 ≤ n) && decide (n ≤ 1000000000)
theorem isAmount_any (n : Int) (w : World) : Calls Try.prog 27 #[.int .i64 n] w fun e w' => e = .returned (.bool (isAmountB n)) ∧ w = w' := by
  go_enter Try.func27, Try.ntmps27
  go_wp2
  all_goals (go_ret; refine ⟨ret_bool ?_, rfl⟩; unfold isAmountB; first | rfl | (simp; omega))
theorem sumOf_any (xs : List Int) (A : Option Addr) (n c : Nat) (w : World) (F : Nat → Prop) (h : Rds shInt w F xs A n c) :
    Calls Try.prog 25 #[.slice A n c] w fun e w' => e = .returned (.tuple #[.int .i64 (coinSum xs).1, .int .i64 (coinSum xs).2]) ∧ w = w' := by
  have hn := h.2.1
  have hc := h.2.2.1
  go_enter Try.func25, Try.ntmps25
  go_wp2
  go_loop [4, 9] (fun a i => ∃ (k : Nat) (aa : Int), k ≤ n ∧ i = .int .i64 k ∧ a = .int .i64 aa ∧ 0 ≤ aa ∧ aa ≤ 1000000000 ∧ sumGo (xs.drop k) aa = coinSum xs) (fun _ i => n - (intOf i).toNat)
  case atStart => exact ⟨0, 0, by omega, rfl, rfl, by omega, by omega, rfl⟩
  case round =>
    obtain ⟨k, aa, hk, rfl, rfl, a0, a1, hs⟩ := hrel
    by_cases hlt : k < n
    · obtain ⟨b, off, x, rfl, -, hx, hcell, x0, x1⟩ := h.int hlt
      rw [drop_cons hx, sumGo] at hs
      have Hs := Lib.hid hs
      clear hs hx h
      by_cases hv : 0 ≤ x ∧ x ≤ 1000000000
      · obtain ⟨v0, v1⟩ := hv
        have e : isAmountB x = true := by simp [isAmountB, v0, v1]
        have E := Lib.hid e
        clear e
        by_cases hf : 1000000000 < aa + x
        · go_wp2_with (go_at_call 27; refine (isAmount_any _ _).mono ?_; rintro e w' ⟨rfl, rfl⟩; rw [E.out])
          go_ret2
          have := Hs.out
          rw [if_pos (by omega), if_pos (by omega)] at this
          exact ⟨ret_int2 (by rw [← this]) (by rw [← this]), rfl⟩
        · go_wp2_with (go_at_call 27; refine (isAmount_any _ _).mono ?_; rintro e w' ⟨rfl, rfl⟩; rw [E.out])
          go_round
          case measure => simp [intOf]; omega
          case rel =>
            have := Hs.out
            rw [if_pos (by omega), if_neg (by omega)] at this
            exact ⟨k + 1, _, by omega, by go_num, rfl, by omega, by omega, this⟩
      · have e : isAmountB x = false := by simp [isAmountB]; omega
        have E := Lib.hid e
        clear e
        have Hv := Lib.hid hv
        clear hv
        go_wp2_with (go_at_call 27; refine (isAmount_any _ _).mono ?_; rintro e w' ⟨rfl, rfl⟩; rw [E.out])
        go_ret2
        have := Hs.out
        rw [if_neg Hv.out] at this
        exact ⟨ret_int2 (by rw [← this]) (by rw [← this]), rfl⟩
    · obtain rfl : k = n := by omega
      have Hs := Lib.hid hs
      clear hs
      go_wp2
      go_ret2
      have := Hs.out
      rw [List.drop_eq_nil_of_le (by have := h.1; omega)] at this
      exact ⟨ret_int2 (by rw [← this]; rfl) (by rw [← this]; rfl), rfl⟩
end Go.Proofs.Ytnnbnjanekibpaa
namespace Go.Proofs.Ytnnbnjanekibpaa
open Go.RowKit
set_option linter.unusedVariables false
set_option maxRecDepth 100000
theorem Rds.inn {w : World} {F : Nat → Prop} {xs : List In} {A : Option Addr} {n c k : Nat} (h : Rds shIn w F xs A n c) (hk : k < n) :
    ∃ b off x A' n' c', A = some ⟨b, off, none⟩ ∧ F b ∧ xs[k]? = some x ∧ (w.cell? ⟨b, off + k * 3, none⟩ = some (.int .i64 x.p.tx) ∧ w.cell? ⟨b, off + k * 3 + 1, none⟩ = some (.int .i64 x.p.at_) ∧ w.cell? ⟨b, off + k * 3 + 2, none⟩ = some (.slice A' n' c')) ∧ I64 x.p.tx ∧ I64 x.p.at_ ∧ Rds shOp w F x.key A' n' c' := by
  obtain ⟨b, off, x, cs, e, hF, hx, hr, hc⟩ := h.at_ hk
  obtain ⟨A', n', c', rfl, h1, h2, h3⟩ := rep_in hr
  exact ⟨b, off, x, A', n', c', e, hF, hx, ⟨by simpa [shIn, shPoint, shS2, shInt, shSlice] using hc 0 _ rfl, by simpa [shIn, shPoint, shS2, shInt, shSlice] using hc 1 _ rfl, by simpa [shIn, shPoint, shS2, shInt, shSlice] using hc 2 _ rfl⟩, h1, h2, h3⟩
theorem Rds.out_ {w : World} {F : Nat → Prop} {xs : List Out} {A : Option Addr} {n c k : Nat} (h : Rds shOut w F xs A n c) (hk : k < n) :
    ∃ b off x A' n' c', A = some ⟨b, off, none⟩ ∧ F b ∧ xs[k]? = some x ∧ (w.cell? ⟨b, off + k * 2, none⟩ = some (.int .i64 x.coin) ∧ w.cell? ⟨b, off + k * 2 + 1, none⟩ = some (.slice A' n' c')) ∧ I64 x.coin ∧ Rds shOp w F x.lock A' n' c' := by
  obtain ⟨b, off, x, cs, e, hF, hx, hr, hc⟩ := h.at_ hk
  obtain ⟨A', n', c', rfl, h1, h2⟩ := rep_out hr
  exact ⟨b, off, x, A', n', c', e, hF, hx, ⟨by simpa [shOut, shS2, shInt, shSlice] using hc 0 _ rfl, by simpa [shOut, shS2, shInt, shSlice] using hc 1 _ rfl⟩, h1, h2⟩
theorem txSame_any (y : In) (A : Option Addr) (n c g : Nat) (x : In) (w : World) (h0 : w.cell? ⟨g, 0, none⟩ = some (.int .i64 x.p.tx)) (h1 : w.cell? ⟨g, 1, none⟩ = some (.int .i64 x.p.at_)) (hg : g < w.heap.size) :
    Calls Try.prog 115 #[.agg #[.int .i64 y.p.tx, .int .i64 y.p.at_, .slice A n c], .pointer (some ⟨g, 0, none⟩)] w fun e w' => e = .returned (.bool (decide (y.p = x.p))) ∧ Below w.heap.size w w' := by
  have hb : Below w.heap.size w (w.alloc (.cells #[.int .i64 y.p.tx, .int .i64 y.p.at_, .slice A n c] 91)) := (Below.refl _ _).alloc (Nat.le_refl _) _
  have HB := Lib.hid hb
  have g0 : (w.alloc (.cells #[.int .i64 y.p.tx, .int .i64 y.p.at_, .slice A n c] 91)).cell? ⟨g, 0, none⟩ = some (.int .i64 x.p.tx) := by rw [World.cell?_alloc_lt w _ _ hg]; exact h0
  have g1 : (w.alloc (.cells #[.int .i64 y.p.tx, .int .i64 y.p.at_, .slice A n c] 91)).cell? ⟨g, 1, none⟩ = some (.int .i64 x.p.at_) := by rw [World.cell?_alloc_lt w _ _ hg]; exact h1
  clear hb h0 h1
  obtain ⟨⟨yt, ya⟩, yk⟩ := y
  obtain ⟨⟨xt, xa⟩, xk⟩ := x
  simp only at g0 g1 HB ⊢
  by_cases e1 : yt = xt
  · subst e1
    by_cases e2 : ya = xa
    · subst e2
      go_enter Try.func115, Try.ntmps115
      go_wp2
      all_goals first | omega | skip
      go_ret
      exact ⟨ret_bool (by simp), HB.out⟩
    · go_enter Try.func115, Try.ntmps115
      go_wp2
      go_ret
      exact ⟨ret_bool (by simp [e2]), HB.out⟩
  · go_enter Try.func115, Try.ntmps115
    go_wp2
    go_ret
    exact ⟨ret_bool (by simp [e1]), HB.out⟩
def inIdx (xs : List In) (p : Point) (k : Nat) : Int := match xs with
  | [] => -1
  | y :: l => if y.p = p then k else inIdx l p (k + 1)
theorem inIndex_any (xs : List In) (A : Option Addr) (n c g : Nat) (x : In) (w : World) (F : Nat → Prop) (h : Rds shIn w F xs A n c) (hF : ∀ b, F b → b < w.heap.size) (h0 : w.cell? ⟨g, 0, none⟩ = some (.int .i64 x.p.tx)) (h1 : w.cell? ⟨g, 1, none⟩ = some (.int .i64 x.p.at_)) (hg : g < w.heap.size) :
    Calls Try.prog 97 #[.slice A n c, .func (.func 115) #[] #[.pointer (some ⟨g, 0, none⟩)]] w fun e w' => e = .returned (.int .i64 (inIdx xs x.p 0)) ∧ Below w.heap.size w w' := by
  have hn := h.2.1
  have hc := h.2.2.1
  have hl := h.1
  have HR := Lib.hid h
  have HLN := Lib.hid hl
  have H0 := Lib.hid h0
  have H1 := Lib.hid h1
  clear h hl h0 h1
  go_enter Try.func97, Try.ntmps97
  go_wp2
  go_loopw [5, 8] (fun _ i wr => ∃ k : Nat, k ≤ n ∧ i = .int .i64 k ∧ Below w.heap.size w wr ∧ inIdx (xs.drop k) x.p k = inIdx xs x.p 0) (fun _ i _ => n - (intOf i).toNat)
  case atStart => exact ⟨0, by omega, rfl, Below.refl _ _, rfl⟩
  case round =>
    obtain ⟨k, hk, rfl, hb, hs⟩ := hrel
    by_cases hlt : k < n
    · obtain ⟨b, off, y, A', n', c', rfl, hFb, hx, ⟨hc1, hc2, hc3⟩, -, -, -⟩ := HR.out.inn hlt
      rw [drop_cons hx, inIdx] at hs
      rw [← hb.cell (p := ⟨b, off + k * 3, none⟩) (hF b hFb)] at hc1
      rw [← hb.cell (p := ⟨b, off + k * 3 + 1, none⟩) (hF b hFb)] at hc2
      rw [← hb.cell (p := ⟨b, off + k * 3 + 2, none⟩) (hF b hFb)] at hc3
      have HB := Lib.hid hb
      have i1 : (0 : Int) ≤ (k : Int) := by omega
      have i2 : (k : Int) < (n : Int) := by omega
      have hcall := fun (W : World) (hW : Below w.heap.size w W) => txSame_any y A' n' c' g x W (by rw [hW.cell (p := ⟨g, 0, none⟩) hg]; exact H0.out) (by rw [hW.cell (p := ⟨g, 1, none⟩) hg]; exact H1.out) (Nat.lt_of_lt_of_le hg hW.size)
      have HC := Lib.hid hcall
      clear hx hb hcall
      by_cases hy : y.p = x.p
      · rw [if_pos hy] at hs
        have HS := Lib.hid hs
        have hd : decide (y.p = x.p) = true := by simpa using hy
        have HD := Lib.hid hd
        clear hs hy hd
        go_wp2_with (go_at_call 115; refine (HC.out _ HB.out).mono ?_; rintro e w2 ⟨rfl, hb2⟩; rw [HD.out])
        go_ret
        exact ⟨ret_int HS.out, HB.out.trans (hb2.mono HB.out.size)⟩
      · rw [if_neg hy] at hs
        have HS := Lib.hid hs
        have hd : decide (y.p = x.p) = false := by simpa using hy
        have HD := Lib.hid hd
        clear hs hy hd
        go_wp2_with (go_at_call 115; refine (HC.out _ HB.out).mono ?_; rintro e w2 ⟨rfl, hb2⟩; rw [HD.out])
        go_roundw
        case measure => simp [intOf]; omega
        case rel => exact ⟨k + 1, by omega, by go_num, HB.out.trans (hb2.mono HB.out.size), HS.out⟩
    · obtain rfl : k = n := by omega
      rw [List.drop_eq_nil_of_le (by rw [HLN.out]; omega), inIdx] at hs
      have HS := Lib.hid hs
      clear hs
      go_wp2
      go_ret
      exact ⟨ret_int HS.out, hb⟩
theorem inContains_any (xs : List In) (A : Option Addr) (n c g : Nat) (x : In) (w : World) (F : Nat → Prop) (h : Rds shIn w F xs A n c) (hF : ∀ b, F b → b < w.heap.size) (h0 : w.cell? ⟨g, 0, none⟩ = some (.int .i64 x.p.tx)) (h1 : w.cell? ⟨g, 1, none⟩ = some (.int .i64 x.p.at_)) (hg : g < w.heap.size) :
    Calls Try.prog 53 #[.slice A n c, .func (.func 115) #[] #[.pointer (some ⟨g, 0, none⟩)]] w fun e w' => e = .returned (.bool (decide (0 ≤ inIdx xs x.p 0))) ∧ Below w.heap.size w w' := by
  have HC := Lib.hid (inIndex_any xs A n c g x w F h hF h0 h1 hg)
  clear h hF h0 h1 hg
  generalize inIdx xs x.p 0 = j at HC ⊢
  go_enter Try.func53, Try.ntmps53
  go_wp2_with fail
  refine HC.out.mono ?_
  rintro e w1 ⟨rfl, hb⟩
  rcases Classical.em (0 ≤ j) with hj | hj
  · go_wp2_with fail
    go_ret
    exact ⟨ret_bool (by simp [hj]), hb⟩
  · go_wp2_with fail
    go_ret
    exact ⟨ret_bool (by first | (simp; done) | (simp; omega)), hb⟩
def inBad (x : In) : Int := if x.p.tx < 1 ∨ 120 < x.p.tx ∨ x.p.at_ < 0 ∨ 6 ≤ x.p.at_ then 3 else opsCheck x.key
def insGo : List In → List In → Int
  | [], _ => 0
  | x :: l, seen => if inBad x ≠ 0 then inBad x else if 0 ≤ inIdx seen x.p 0 then 6 else insGo l (seen ++ [x])
def outBad (x : Out) : Int := if x.coin < 1 then 3 else opsCheck x.lock
def outsGo : List Out → Int
  | [] => 0
  | x :: l => if outBad x ≠ 0 then outBad x else outsGo l
def txHead (t : Tx) : Int := if 6 < t.ins.length ∨ 6 < t.outs.length then 2 else if t.outs.length = 0 then 4 else if (t.ins.length = 0 ∧ (t.height < 1 ∨ 1000 < t.height)) ∨ (0 < t.ins.length ∧ t.height ≠ 0) then 3 else 0
def txCheck (t : Tx) : Int := if txHead t ≠ 0 then txHead t else if insGo t.ins [] ≠ 0 then insGo t.ins [] else if outsGo t.outs ≠ 0 then outsGo t.outs else (coinSum (t.outs.map Out.coin)).2
set_option maxHeartbeats 1000000 in
theorem txCheck_any (t : Tx) (cs : List Value) (w : World) (F : Nat → Prop) (h : shTx.rep w F t cs) (hF : ∀ b, F b → b < w.heap.size) :
    Calls Try.prog 90 #[.agg cs.toArray] w fun e w' => e = .returned (.int .i64 (txCheck t)) ∧ Below w.heap.size w w' := by
  obtain ⟨A1, n1, c1, A2, n2, c2, rfl, hh, hi, ho⟩ := rep_tx h
  obtain ⟨th, ins, outs⟩ := t
  simp only at hi ho hh ⊢
  have hl1 := hi.1
  have hn1 := hi.2.1
  have hc1 := hi.2.2.1
  have hl2 := ho.1
  have hn2 := ho.2.1
  have hc2 := ho.2.2.1
  have HI := Lib.hid hi
  have HO := Lib.hid ho
  have hB := (Below.refl w.heap.size w).alloc (Nat.le_refl _) (.cells #[.int .i64 th, .slice A1 n1 c1, .slice A2 n2 c2] 81)
  have hblk := heap_alloc_new w (.cells #[.int .i64 th, .slice A1 n1 c1, .slice A2 n2 c2] 81)
  have HB := Lib.hid hB
  have HK := Lib.hid hblk
  clear hi ho h hh hB hblk
  by_cases h0 : txHead ⟨th, ins, outs⟩ = 0
  · simp only [txHead] at h0
    rw [hl1, hl2] at h0
    have a1 : ¬ (6 < n1 ∨ 6 < n2) := fun e => by rw [if_pos e] at h0; cases h0
    rw [if_neg a1] at h0
    have a2 : ¬ n2 = 0 := fun e => by rw [if_pos e] at h0; cases h0
    rw [if_neg a2] at h0
    have a3 : ¬ ((n1 = 0 ∧ (th < 1 ∨ 1000 < th)) ∨ (0 < n1 ∧ th ≠ 0)) := fun e => by rw [if_pos e] at h0; cases h0
    have e : txCheck ⟨th, ins, outs⟩ = if insGo ins [] ≠ 0 then insGo ins [] else if outsGo outs ≠ 0 then outsGo outs else (coinSum (outs.map Out.coin)).2 := by
      have : ¬ txHead ⟨th, ins, outs⟩ ≠ 0 := by simp only [txHead]; rw [hl1, hl2, if_neg a1, if_neg a2, if_neg a3]; decide
      simp only [txCheck]; rw [if_neg this]
    obtain ⟨R, hR⟩ : ∃ R, R = if insGo ins [] ≠ 0 then insGo ins [] else if outsGo outs ≠ 0 then outsGo outs else (coinSum (outs.map Out.coin)).2 := ⟨_, rfl⟩
    rw [e, ← hR]
    have R1 := Lib.hid (show ∀ v, v = insGo ins [] → v ≠ 0 → v = R from fun v hv h => by rw [hR, ← hv, if_pos h])
    have R2 := Lib.hid (show insGo ins [] = 0 → ∀ v, v = outsGo outs → v ≠ 0 → v = R from fun h0 v hv h => by rw [hR, h0, ← hv, if_neg (by decide), if_pos h])
    have R3 := Lib.hid (show insGo ins [] = 0 → outsGo outs = 0 → (coinSum (outs.map Out.coin)).2 = R from fun h0 h1 => by rw [hR, h0, h1, if_neg (by decide), if_neg (by decide)])
    clear hR
    have m1 : n1 ≤ 6 := by omega
    have m2 : n2 ≤ 6 := by omega
    have m3 : 0 < n2 := by omega
    have L1 := Lib.hid hl1
    have L2 := Lib.hid hl2
    clear e h0 a1 a2 hl1 hl2 hn1 hn2 hc1 hc2
    obtain ⟨i0, zv, hi, hz0, hz1, hz2, hz3⟩ := int_info2
    have hi1 := HI.out.2.1
    have hi2 := HI.out.2.2.1
    have ho1 := HO.out.2.1
    have ho2 := HO.out.2.2.1
    go_enter Try.func90, Try.ntmps90
    rcases (show (n1 = 0 ∧ ¬ th < 1 ∧ ¬ 1000 < th) ∨ (0 < n1 ∧ th = 0) by omega) with ⟨g1, g2, g3⟩ | ⟨g1, g2⟩
    case' inl =>
      have q1 : ((n1 : Int) == 0) = true := by simp [g1]
      have q4 : ¬ (0 : Int) < (n1 : Int) := by omega
      clear a3 g1
      go_wp2
      rename_i z0 z1 z2 z3
      clear z1 z0
    case' inr =>
      have q1 : ((n1 : Int) == 0) = false := by simp; omega
      have q4 : (0 : Int) < (n1 : Int) := by omega
      have q5 : (th != 0) = false := by simp [g2]
      clear a3 g1 g2
      go_wp2
    all_goals (
      go_loopw [3, 4, 5, 54] (fun _ _ _ i wr => ∃ k : Nat, k ≤ n1 ∧ i = .int .i64 k ∧ Below w.heap.size w wr ∧ wr.heap[w.heap.size]? = some (.cells #[.int .i64 th, .slice A1 n1 c1, .slice A2 n2 c2] 81 (0, 0)) ∧ insGo (ins.drop k) (ins.take k) = insGo ins []) (fun _ _ _ i _ => n1 - (intOf i).toNat)
      case atStart => exact ⟨0, by omega, rfl, HB.out, HK.out, rfl⟩
      case round =>
        obtain ⟨k, hk, rfl, hb, hbox, hs⟩ := hrel
        have Hb := Lib.hid hb
        have Hbox := Lib.hid hbox
        have hwz := blk_lt hbox
        clear hb hbox q1 q4
        rcases Classical.em (k < n1) with hlt | hlt
        · obtain ⟨b, off, x, A', n', c', rfl, hFb, hx, ⟨hc1, hc2, hc3⟩, -, -, hrk⟩ := HI.out.inn hlt
          have hbx := blk_cell (i := 1) Hbox.out
          have hFw := hF b hFb
          rw [← Hb.out.cell (p := ⟨b, off + k * 3, none⟩) hFw] at hc1
          rw [← Hb.out.cell (p := ⟨b, off + k * 3 + 1, none⟩) hFw] at hc2
          rw [← Hb.out.cell (p := ⟨b, off + k * 3 + 2, none⟩) hFw] at hc3
          rw [drop_cons hx, insGo] at hs
          have HT := Lib.hid (take_snoc hx)
          have HW := Lib.hid (Hb.out.alloc Hb.out.size (.cells #[.int .i64 x.p.tx, .int .i64 x.p.at_, .slice A' n' c'] 91))
          have HRK := Lib.hid ((hrk.keep ((Agree.below HW.out).mono hF)).more (F' := Lt (wr.alloc (.cells #[.int .i64 x.p.tx, .int .i64 x.p.at_, .slice A' n' c'] 91)).heap.size) fun b hb => by have := hF b hb; show b < _; simp; omega)
          have HBX := Lib.hid (blk_below (g := w.heap.size) Hbox.out ((Below.refl wr.heap.size wr).alloc (Nat.le_refl _) (.cells #[.int .i64 x.p.tx, .int .i64 x.p.at_, .slice A' n' c'] 91)) hwz)
          have HNW := Lib.hid (heap_alloc_new wr (.cells #[.int .i64 x.p.tx, .int .i64 x.p.at_, .slice A' n' c'] 91))
          have i1 : (0 : Int) ≤ (k : Int) := by omega
          have i2 : (k : Int) < (n1 : Int) := by omega
          clear hx hrk hFb
          by_cases hp : x.p.tx < 1 ∨ 120 < x.p.tx ∨ x.p.at_ < 0 ∨ 6 ≤ x.p.at_
          · have e : inBad x = 3 := by simp only [inBad]; rw [if_pos hp]
            rw [e, if_pos (by decide)] at hs
            have HS := Lib.hid (R1.out 3 hs (by decide))
            clear e hs
            obtain ⟨⟨xt, xa⟩, xk⟩ := x
            simp only at hc1 hc2 hp HW
            rcases Classical.em (xt < 1) with p1 | p1
            · clear hp
              go_wp2_with fail
              go_ret
              exact ⟨ret_int HS.out, HW.out⟩
            · rcases Classical.em (120 < xt) with p2 | p2
              · clear hp
                go_wp2_with fail
                go_ret
                exact ⟨ret_int HS.out, HW.out⟩
              · rcases Classical.em (xa < 0) with p3 | p3
                · clear hp
                  go_wp2_with fail
                  go_ret
                  exact ⟨ret_int HS.out, HW.out⟩
                · have p4 : 6 ≤ xa := by omega
                  clear hp
                  go_wp2_with fail
                  go_ret
                  exact ⟨ret_int HS.out, HW.out⟩
          · have e : inBad x = opsCheck x.key := by simp only [inBad]; rw [if_neg hp]
            rw [e] at hs
            have p1 : ¬ x.p.tx < 1 := by omega
            have p2 : ¬ 120 < x.p.tx := by omega
            have p3 : ¬ x.p.at_ < 0 := by omega
            have p4 : ¬ 6 ≤ x.p.at_ := by omega
            have HS := Lib.hid hs
            clear e hp hs
            go_wp2_with fail
            generalize hW1 : wr.alloc (.cells #[.int .i64 x.p.tx, .int .i64 x.p.at_, .slice A' n' c'] 91) = W1 at HW HRK HBX HNW ⊢
            have hsW : wr.heap.size < W1.heap.size := by rw [← hW1]; simp
            clear hW1
            refine (lockCheck_any _ _ _ _ _ _ HRK.out (fun b hb => hb)).mono ?_
            rintro e w2 ⟨rfl, hb2⟩
            have HW2 := Lib.hid (HW.out.trans (hb2.mono HW.out.size))
            have HBX2 := Lib.hid (blk_below HBX.out hb2 (by omega))
            have HNW2 := Lib.hid (blk_below HNW.out hb2 hsW)
            have hz2' := hb2.size
            clear hb2 HW HRK HBX HNW
            by_cases he : opsCheck x.key = 0
            · rw [he]
              have hs := HS.out
              rw [he, if_neg (by decide)] at hs
              clear HS he
              have hbx2 := blk_cell (i := 1) HBX2.out
              go_wp2_with fail
              refine (inContains_any (ins.take k) _ k _ wr.heap.size x w2 (Lt w2.heap.size) (((HI.out.take (by omega)).keep ((Agree.below HW2.out).mono hF)).more fun b hb => by have := hF b hb; have := HW2.out.size; show b < _; omega) (fun b hb => hb) (by rw [blk_cell HNW2.out]; rfl) (by rw [blk_cell HNW2.out]; rfl) (by omega)).mono ?_
              rintro e w3 ⟨rfl, hb3⟩
              have HW3 := Lib.hid (HW2.out.trans (hb3.mono HW2.out.size))
              have HBX3 := Lib.hid (blk_below HBX2.out hb3 (by omega))
              clear hb3 HW2 HBX2 HNW2 hbx2
              by_cases hx : 0 ≤ inIdx (ins.take k) x.p 0
              · rw [if_pos hx] at hs
                have hd : decide (0 ≤ inIdx (ins.take k) x.p 0) = true := by simpa using hx
                rw [hd]
                have HS := Lib.hid (R1.out 6 hs (by decide))
                clear hd hx hs
                go_wp2_with fail
                go_ret
                exact ⟨ret_int HS.out, HW3.out⟩
              · rw [if_neg hx] at hs
                have hd : decide (0 ≤ inIdx (ins.take k) x.p 0) = false := by simpa using hx
                rw [hd]
                have HS := Lib.hid hs
                clear hd hx hs
                go_wp2_with fail
                go_roundw
                case measure => simp [intOf]; omega
                case rel => exact ⟨k + 1, by omega, by go_num, HW3.out, HBX3.out, by rw [HT.out]; exact HS.out⟩
            · have hs := HS.out
              rw [if_pos he] at hs
              have hd : (opsCheck x.key != 0) = true := by simpa using he
              have HS' := Lib.hid (R1.out _ hs he)
              clear HS he hs
              go_wp2_with fail
              go_ret
              exact ⟨ret_int HS'.out, HW2.out⟩
        · obtain rfl : n1 = k := by omega
          rw [List.drop_eq_nil_of_le (by rw [L1.out]; omega), insGo] at hs
          have HS := Lib.hid hs.symm
          have hbx := blk_cell (i := 2) Hbox.out
          clear hs
          go_wp2_with fail
          go_loopw [6, 8, 9, 97] (fun o _ _ i wr => ∃ k : Nat, k ≤ n2 ∧ i = .int .i64 k ∧ Below w.heap.size w wr ∧ w.heap.size < wr.heap.size ∧ wr.ownsRow (w.heap.size + 1) 3 1 o k (((outs.take k).map Out.coin).map (Value.int .i64)) ∧ (∀ y ∈ outs.take k, I64 y.coin) ∧ outsGo (outs.drop k) = outsGo outs) (fun _ _ _ i _ => n2 - (intOf i).toNat)
          case atStart => exact ⟨0, by omega, rfl, Hb.out, hwz, World.ownsRow_nil _ _ _ _, by simp, rfl⟩
          case round =>
            obtain ⟨k, hk, rfl, hb, hwq, hown, hob, hs'⟩ := hrel
            rcases Classical.em (k < n2) with hlt2 | hlt2
            · obtain ⟨b, off, x, A', n', c', rfl, hFb, hx, ⟨hc1, hc2⟩, xi, hrk⟩ := HO.out.out_ hlt2
              have hFw := hF b hFb
              rw [← hb.cell (p := ⟨b, off + k * 2, none⟩) hFw] at hc1
              rw [← hb.cell (p := ⟨b, off + k * 2 + 1, none⟩) hFw] at hc2
              rw [drop_cons hx, outsGo] at hs'
              have HT := Lib.hid (take_snoc hx)
              have hW := hb.alloc hb.size (.cells #[.int .i64 x.coin, .slice A' n' c'] 98)
              have HW := Lib.hid hW
              have HRK := Lib.hid ((hrk.keep ((Agree.below hW).mono hF)).more (F' := Lt (wr.alloc (.cells #[.int .i64 x.coin, .slice A' n' c'] 98)).heap.size) fun b hb => by have := hF b hb; show b < _; simp; omega)
              have HNW := Lib.hid (heap_alloc_new wr (.cells #[.int .i64 x.coin, .slice A' n' c'] 98))
              have HOW := Lib.hid (own_below hown ((Below.refl wr.heap.size wr).alloc (Nat.le_refl _) (.cells #[.int .i64 x.coin, .slice A' n' c'] 98)))
              have HOB := Lib.hid hob
              have i1 : (0 : Int) ≤ (k : Int) := by omega
              have i2 : (k : Int) < (n2 : Int) := by omega
              clear hx hrk hFb hW hown hob hb
              by_cases hp : x.coin < 1
              · have e : outBad x = 3 := by simp only [outBad]; rw [if_pos hp]
                rw [e, if_pos (by decide)] at hs'
                have HS2 := Lib.hid (R2.out HS.out 3 hs' (by decide))
                clear e hs'
                go_wp2_with fail
                go_ret
                exact ⟨ret_int HS2.out, HW.out⟩
              · have e : outBad x = opsCheck x.lock := by simp only [outBad]; rw [if_neg hp]
                rw [e] at hs'
                have HS2 := Lib.hid hs'
                clear e hs'
                go_wp2_with fail
                generalize hW1 : wr.alloc (.cells #[.int .i64 x.coin, .slice A' n' c'] 98) = W1 at HW HRK HNW HOW ⊢
                have hsW : wr.heap.size < W1.heap.size := by rw [← hW1]; simp
                clear hW1
                refine (lockCheck_any _ _ _ _ _ _ HRK.out (fun b hb => hb)).mono ?_
                rintro e w2 ⟨rfl, hb2⟩
                have HW2 := Lib.hid (HW.out.trans (hb2.mono HW.out.size))
                have HNW2 := Lib.hid (blk_below HNW.out hb2 hsW)
                have HOW2 := Lib.hid (own_below HOW.out hb2)
                have hz2' := hb2.size
                clear hb2 HW HRK HNW HOW
                by_cases he : opsCheck x.lock = 0
                · rw [he]
                  have hs := HS2.out
                  rw [he, if_neg (by decide)] at hs
                  have HS3 := Lib.hid hs
                  clear HS2 he hs
                  have hcx := blk_cell (i := 0) HNW2.out
                  go_wp2_with (at_builtin; refine wpList_append_own_at _ rfl _ _ 24 rfl (w.heap.size + 1) 3 i0 zv 1 8 Try.underlying24 hi hz0 hz1 hz2 hz3 (by omega) _ k (((outs.take k).map Out.coin).map (Value.int .i64)) rfl (HOW2.out.alloc _) ⟨w2.heap.size, 0, none⟩ 1 1 [.int .i64 x.coin] rfl rfl (cell_one_new _ _ _) (by intro u hu; simp at hu; subst hu; rfl) (by unfold maxLen; omega) (by omega) (by simp; omega) ?_; intro v5 w5 hown5 hgr5 _ hob5)
                  have hgr : (w2.alloc (.cells #[.int .i64 x.coin] 3)).grownBy w5 u6.ownBlock := hgr5
                  have hge := fun k hk => own_ge HOW2.out (k := k) hk
                  go_roundw
                  case measure => simp [intOf]; omega
                  case rel =>
                    have hs5 := hgr.size
                    simp only [World.size_alloc] at hs5
                    refine ⟨k + 1, by omega, by go_num, (HW2.out.alloc HW2.out.size _).grown hgr (by have := HW2.out.size; simp; omega) (fun k hk => by have := hge _ hk; omega), by omega, by rw [HT.out, List.map_append, List.map_append]; exact hown5, ?_, HS3.out⟩
                    intro y hy
                    rw [HT.out] at hy
                    rcases List.mem_append.1 hy with h | h
                    · exact HOB.out y h
                    · simp at h; subst h; exact xi
                · have hs := HS2.out
                  rw [if_pos he] at hs
                  have hd : (opsCheck x.lock != 0) = true := by simpa using he
                  have HS3 := Lib.hid (R2.out HS.out _ hs he)
                  clear HS2 he hs
                  go_wp2_with fail
                  go_ret
                  exact ⟨ret_int HS3.out, HW2.out⟩
            · obtain rfl : n2 = k := by omega
              rw [List.drop_eq_nil_of_le (by rw [L2.out]; omega), outsGo] at hs'
              have HS2 := Lib.hid (R3.out HS.out hs'.symm)
              rw [List.take_of_length_le (by rw [L2.out]; omega)] at hown hob
              have HBq := Lib.hid hb
              obtain ⟨A', c', ev, hri⟩ := Rds.of_own_int hown (fun x hx => by obtain ⟨y, hy, rfl⟩ := List.mem_map.1 hx; exact hob y hy)
              subst ev
              have HRI := Lib.hid hri
              clear hs' hown hob hb hri
              go_wp2_with fail
              refine (sum_any _ _ _ _ _ _ HRI.out).mono ?_
              rintro e w2 ⟨rfl, rfl⟩
              go_wp2_with fail
              go_ret
              exact ⟨ret_int HS2.out, HBq.out⟩)
  · have e : txCheck ⟨th, ins, outs⟩ = txHead ⟨th, ins, outs⟩ := by simp only [txCheck]; rw [if_pos h0]
    rw [e]
    clear e
    by_cases a1 : 6 < n1 ∨ 6 < n2
    · have e : txHead ⟨th, ins, outs⟩ = 2 := by simp only [txHead]; rw [if_pos (by rw [hl1, hl2]; exact a1)]
      rw [e]
      clear e h0 hl1 hl2
      by_cases a : 6 < n1
      · clear a1
        go_enter Try.func90, Try.ntmps90
        go_wp2
        go_ret
        exact ⟨rfl, HB.out⟩
      · have a2 : 6 < n2 := by omega
        clear a1
        go_enter Try.func90, Try.ntmps90
        go_wp2
        go_ret
        exact ⟨rfl, HB.out⟩
    · by_cases a2 : n2 = 0
      · have e : txHead ⟨th, ins, outs⟩ = 4 := by simp only [txHead]; rw [if_neg (by rw [hl1, hl2]; exact a1), if_pos (by rw [hl2]; exact a2)]
        rw [e]
        subst a2
        clear e h0 hl1 hl2
        go_enter Try.func90, Try.ntmps90
        go_wp2
        go_ret
        exact ⟨rfl, HB.out⟩
      · have a3 : (n1 = 0 ∧ (th < 1 ∨ 1000 < th)) ∨ (0 < n1 ∧ th ≠ 0) := by
          apply Classical.byContradiction
          intro a3
          exact h0 (by simp only [txHead]; rw [if_neg (by rw [hl1, hl2]; exact a1), if_neg (by rw [hl2]; exact a2), if_neg (by rw [hl1]; exact a3)])
        have e : txHead ⟨th, ins, outs⟩ = 3 := by simp only [txHead]; rw [if_neg (by rw [hl1, hl2]; exact a1), if_neg (by rw [hl2]; exact a2), if_pos (by rw [hl1]; exact a3)]
        rw [e]
        have a4 : 0 < n2 := by omega
        clear e h0 hl1 hl2 a2
        rcases a3 with ⟨rfl, a3⟩ | ⟨a3, a5⟩
        · rcases Classical.em (th < 1) with a5 | a5
          · clear a3
            go_enter Try.func90, Try.ntmps90
            go_wp2
            go_ret
            exact ⟨rfl, HB.out⟩
          · have a6 : 1000 < th := by omega
            clear a3
            go_enter Try.func90, Try.ntmps90
            go_wp2
            go_ret
            exact ⟨rfl, HB.out⟩
        · have a6 : (th != 0) = true := by simpa using a5
          clear a5
          go_enter Try.func90, Try.ntmps90
          go_wp2
          go_ret
          exact ⟨rfl, HB.out⟩
end Go.Proofs.Ytnnbnjanekibpaa
namespace Go.Proofs.Ytnnbnjanekibpaa
open Go.RowKit
set_option linter.unusedVariables false
set_option maxRecDepth 100000
theorem Rds.tx {w : World} {F : Nat → Prop} {xs : List Tx} {A : Option Addr} {n c k : Nat} (h : Rds shTx w F xs A n c) (hk : k < n) :
    ∃ b off x A1 n1 c1 A2 n2 c2, A = some ⟨b, off, none⟩ ∧ F b ∧ xs[k]? = some x ∧ (w.cell? ⟨b, off + k * 3, none⟩ = some (.int .i64 x.height) ∧ w.cell? ⟨b, off + k * 3 + 1, none⟩ = some (.slice A1 n1 c1) ∧ w.cell? ⟨b, off + k * 3 + 2, none⟩ = some (.slice A2 n2 c2)) ∧ shTx.rep w F x [.int .i64 x.height, .slice A1 n1 c1, .slice A2 n2 c2] ∧ I64 x.height ∧ x.ins.length = n1 := by
  obtain ⟨b, off, x, cs, e, hF, hx, hr, hc⟩ := h.at_ hk
  have hr' := hr
  obtain ⟨A1, n1, c1, A2, n2, c2, rfl, h1, h2, h3⟩ := rep_tx hr
  exact ⟨b, off, x, A1, n1, c1, A2, n2, c2, e, hF, hx, ⟨by simpa [shTx, shS3, shS2, shInt, shSlice] using hc 0 _ rfl, by simpa [shTx, shS3, shS2, shInt, shSlice] using hc 1 _ rfl, by simpa [shTx, shS3, shS2, shInt, shSlice] using hc 2 _ rfl⟩, hr', h1, h2.1⟩
def blkRange (b : Block) : Prop := b.parent < 0 ∨ 120 < b.parent ∨ b.height < 1 ∨ 1000 < b.height ∨ b.work < 1 ∨ 1000 < b.work ∨ b.nonce < 0 ∨ 1000000000 < b.nonce
instance (b : Block) : Decidable (blkRange b) := by unfold blkRange; infer_instance
def blkHead (b : Block) : Int := if blkRange b then 3 else if 4 < b.txs.length then 2 else if b.txs.length = 0 then 4 else 0
def txOff (h : Int) (t : Tx) (i : Nat) : Prop := ¬ (t.ins.length = 0 ↔ i = 0) ∨ (i = 0 ∧ t.height ≠ h)
instance (h : Int) (t : Tx) (i : Nat) : Decidable (txOff h t i) := by unfold txOff; infer_instance
def txsGo (h : Int) : List Tx → Nat → Int
  | [], _ => 0
  | t :: l, i => if txCheck t ≠ 0 then txCheck t else if txOff h t i then 4 else txsGo h l (i + 1)
def blkCheck (b : Block) : Int := if blkHead b ≠ 0 then blkHead b else txsGo b.height b.txs 0
set_option maxHeartbeats 1000000 in
theorem blockCheck_any (x : Block) (cs : List Value) (w : World) (F : Nat → Prop) (h : shBlock.rep w F x cs) (hF : ∀ b, F b → b < w.heap.size) :
    Calls Try.prog 78 #[.agg cs.toArray] w fun e w' => e = .returned (.int .i64 (blkCheck x)) ∧ Below w.heap.size w w' := by
  obtain ⟨A, n, c, rfl, i1, i2, i3, i4, hr⟩ := rep_block h
  obtain ⟨bp, bh, bw, bn, txs⟩ := x
  simp only at hr i1 i2 i3 i4 ⊢
  have hl := hr.1
  have hn := hr.2.1
  have hc := hr.2.2.1
  have HR := Lib.hid hr
  have HB := Lib.hid ((Below.refl w.heap.size w).alloc (Nat.le_refl _) (.cells #[.int .i64 bp, .int .i64 bh, .int .i64 bw, .int .i64 bn, .slice A n c] 66))
  have HK := Lib.hid (heap_alloc_new w (.cells #[.int .i64 bp, .int .i64 bh, .int .i64 bw, .int .i64 bn, .slice A n c] 66))
  clear hr h
  by_cases h0 : blkRange ⟨bp, bh, bw, bn, txs⟩
  · have e : blkCheck ⟨bp, bh, bw, bn, txs⟩ = 3 := by simp only [blkCheck, blkHead]; rw [if_pos h0]; rfl
    rw [e]
    unfold blkRange at h0
    simp only at h0
    clear e hl
    rcases Classical.em (bp < 0) with p1 | p1
    · clear h0
      go_enter Try.func78, Try.ntmps78
      go_wp2
      go_ret
      exact ⟨rfl, HB.out⟩
    rcases Classical.em (120 < bp) with p2 | p2
    · clear h0
      go_enter Try.func78, Try.ntmps78
      go_wp2
      go_ret
      exact ⟨rfl, HB.out⟩
    rcases Classical.em (bh < 1) with p3 | p3
    · clear h0
      go_enter Try.func78, Try.ntmps78
      go_wp2
      go_ret
      exact ⟨rfl, HB.out⟩
    rcases Classical.em (1000 < bh) with p4 | p4
    · clear h0
      go_enter Try.func78, Try.ntmps78
      go_wp2
      go_ret
      exact ⟨rfl, HB.out⟩
    rcases Classical.em (bw < 1) with p5 | p5
    · clear h0
      go_enter Try.func78, Try.ntmps78
      go_wp2
      go_ret
      exact ⟨rfl, HB.out⟩
    rcases Classical.em (1000 < bw) with p6 | p6
    · clear h0
      go_enter Try.func78, Try.ntmps78
      go_wp2
      go_ret
      exact ⟨rfl, HB.out⟩
    rcases Classical.em (bn < 0) with p7 | p7
    · clear h0
      go_enter Try.func78, Try.ntmps78
      go_wp2
      go_ret
      exact ⟨rfl, HB.out⟩
    · have p8 : 1000000000 < bn := by omega
      clear h0
      go_enter Try.func78, Try.ntmps78
      go_wp2
      go_ret
      exact ⟨rfl, HB.out⟩
  · have p := h0
    unfold blkRange at p
    simp only at p
    have p1 : ¬ bp < 0 := by omega
    have p2 : ¬ 120 < bp := by omega
    have p3 : ¬ bh < 1 := by omega
    have p4 : ¬ 1000 < bh := by omega
    have p5 : ¬ bw < 1 := by omega
    have p6 : ¬ 1000 < bw := by omega
    have p7 : ¬ bn < 0 := by omega
    have p8 : ¬ 1000000000 < bn := by omega
    clear p
    by_cases a1 : 4 < n
    · have e : blkCheck ⟨bp, bh, bw, bn, txs⟩ = 2 := by simp only [blkCheck, blkHead]; rw [if_neg h0, hl, if_pos a1]; rfl
      rw [e]
      clear e h0 hl
      go_enter Try.func78, Try.ntmps78
      go_wp2
      go_ret
      exact ⟨rfl, HB.out⟩
    · by_cases a2 : n = 0
      · have e : blkCheck ⟨bp, bh, bw, bn, txs⟩ = 4 := by simp only [blkCheck, blkHead]; rw [if_neg h0, hl, if_neg a1, if_pos a2]; rfl
        rw [e]
        subst a2
        clear e h0 hl a1
        go_enter Try.func78, Try.ntmps78
        go_wp2
        go_ret
        exact ⟨rfl, HB.out⟩
      · have e : blkCheck ⟨bp, bh, bw, bn, txs⟩ = txsGo bh txs 0 := by simp only [blkCheck, blkHead]; rw [if_neg h0, hl, if_neg a1, if_neg a2]; rfl
        rw [e]
        have m1 : n ≤ 4 := by omega
        have m2 : 0 < n := by omega
        have HLN := Lib.hid hl
        clear e h0 hl a1 a2
        go_enter Try.func78, Try.ntmps78
        go_wp2
        go_loopw [3, 4, 5, 55] (fun _ _ _ i wr => ∃ k : Nat, k ≤ n ∧ i = .int .i64 k ∧ Below w.heap.size w wr ∧ wr.heap[w.heap.size]? = some (.cells #[.int .i64 bp, .int .i64 bh, .int .i64 bw, .int .i64 bn, .slice A n c] 66 (0, 0)) ∧ txsGo bh (txs.drop k) k = txsGo bh txs 0) (fun _ _ _ i _ => n - (intOf i).toNat)
        case atStart => exact ⟨0, by omega, rfl, HB.out, HK.out, rfl⟩
        case round =>
          obtain ⟨k, hk, rfl, hb, hbox, hs⟩ := hrel
          have hwz := blk_lt hbox
          rcases Classical.em (k < n) with hlt | hlt
          · obtain ⟨b, off, x, A1, n1, c1, A2, n2, c2, rfl, hFb, hx, ⟨hc1, hc2, hc3⟩, hrk, xi, xl⟩ := HR.out.tx hlt
            have hFw := hF b hFb
            rw [← hb.cell (p := ⟨b, off + k * 3, none⟩) hFw] at hc1
            rw [← hb.cell (p := ⟨b, off + k * 3 + 1, none⟩) hFw] at hc2
            rw [← hb.cell (p := ⟨b, off + k * 3 + 2, none⟩) hFw] at hc3
            rw [drop_cons hx, txsGo] at hs
            have hW := hb.alloc hb.size (.cells #[.int .i64 x.height, .slice A1 n1 c1, .slice A2 n2 c2] 81)
            have HW := Lib.hid hW
            have HRK := Lib.hid (shTx.more (F' := Lt (wr.alloc (.cells #[.int .i64 x.height, .slice A1 n1 c1, .slice A2 n2 c2] 81)).heap.size) (fun b hb => by have := hF b hb; show b < _; simp; omega) (shTx.keep ((Agree.below hW).mono hF) hrk))
            have HBX := Lib.hid (blk_below (g := w.heap.size) hbox ((Below.refl wr.heap.size wr).alloc (Nat.le_refl _) (.cells #[.int .i64 x.height, .slice A1 n1 c1, .slice A2 n2 c2] 81)) hwz)
            have HNW := Lib.hid (heap_alloc_new wr (.cells #[.int .i64 x.height, .slice A1 n1 c1, .slice A2 n2 c2] 81))
            have i1' : (0 : Int) ≤ (k : Int) := by omega
            have i2' : (k : Int) < (n : Int) := by omega
            have HS := Lib.hid hs
            clear hx hrk hFb hb hbox hs hW
            go_wp2_with fail
            generalize hW1 : wr.alloc (.cells #[.int .i64 x.height, .slice A1 n1 c1, .slice A2 n2 c2] 81) = W1 at HW HRK HBX HNW ⊢
            have hsW : wr.heap.size < W1.heap.size := by rw [← hW1]; simp
            clear hW1
            refine (txCheck_any _ [_, _, _] _ _ HRK.out (fun b hb => hb)).mono ?_
            rintro e w2 ⟨rfl, hb2⟩
            have HW2 := Lib.hid (HW.out.trans (hb2.mono HW.out.size))
            have HBX2 := Lib.hid (blk_below HBX.out hb2 (by omega))
            have HNW2 := Lib.hid (blk_below HNW.out hb2 hsW)
            clear hb2 HW HRK HBX HNW
            by_cases he : txCheck x = 0
            · rw [he]
              have hs := HS.out
              rw [he, if_neg (by decide)] at hs
              clear HS he
              have b0 := blk_cell (i := 0) HNW2.out
              have b1 := blk_cell (i := 1) HNW2.out
              have b2 := blk_cell (i := 1) HBX2.out
              rcases Classical.em (k = 0) with hk0 | hk0
              · have q1 : ((k : Int) == 0) = true := by simp [hk0]
                rcases Classical.em (n1 = 0) with hn0 | hn0
                · have q2 : ((n1 : Int) == 0) = true := by simp [hn0]
                  rcases Classical.em (x.height = bh) with hh | hh
                  · have q3 : (x.height != bh) = false := by simp [hh]
                    rw [if_neg (by unfold txOff; rw [xl]; simp [hk0, hn0, hh])] at hs
                    have HS := Lib.hid hs
                    clear hs hk0 hn0 hh
                    go_wp2_with fail
                    go_roundw
                    case measure => simp [intOf]; omega
                    case rel => exact ⟨k + 1, by omega, by go_num, HW2.out, HBX2.out, HS.out⟩
                  · have q3 : (x.height != bh) = true := by simp [hh]
                    rw [if_pos (by unfold txOff; exact .inr ⟨hk0, hh⟩)] at hs
                    have HS := Lib.hid hs
                    clear hs hk0 hn0 hh
                    go_wp2_with fail
                    go_ret
                    exact ⟨ret_int HS.out, HW2.out⟩
                · have q2 : ((n1 : Int) == 0) = false := by simp; omega
                  rw [if_pos (by unfold txOff; rw [xl]; simp [hk0, hn0])] at hs
                  have HS := Lib.hid hs
                  clear hs hk0 hn0
                  go_wp2_with fail
                  go_ret
                  exact ⟨ret_int HS.out, HW2.out⟩
              · have q1 : ((k : Int) == 0) = false := by simp; omega
                rcases Classical.em (n1 = 0) with hn0 | hn0
                · have q2 : ((n1 : Int) == 0) = true := by simp [hn0]
                  rw [if_pos (by unfold txOff; rw [xl]; simp [hk0, hn0])] at hs
                  have HS := Lib.hid hs
                  clear hs hk0 hn0
                  go_wp2_with fail
                  go_ret
                  exact ⟨ret_int HS.out, HW2.out⟩
                · have q2 : ((n1 : Int) == 0) = false := by simp; omega
                  rw [if_neg (by unfold txOff; rw [xl]; simp [hk0, hn0])] at hs
                  have HS := Lib.hid hs
                  clear hs hk0 hn0
                  go_wp2_with fail
                  go_roundw
                  case measure => simp [intOf]; omega
                  case rel => exact ⟨k + 1, by omega, by go_num, HW2.out, HBX2.out, HS.out⟩
            · have hs := HS.out
              rw [if_pos he] at hs
              have hd : (txCheck x != 0) = true := by simpa using he
              have HS' := Lib.hid hs
              clear HS he hs
              go_wp2_with fail
              go_ret
              exact ⟨ret_int HS'.out, HW2.out⟩
          · obtain rfl : n = k := by omega
            rw [List.drop_eq_nil_of_le (by rw [HLN.out]; omega), txsGo] at hs
            have HS := Lib.hid hs
            clear hs
            go_wp2
            go_ret
            exact ⟨ret_int HS.out, hb⟩
end Go.Proofs.Ytnnbnjanekibpaa
namespace Go.Proofs.Ytnnbnjanekibpaa
open Go.RowKit
set_option linter.unusedVariables false
set_option maxRecDepth 100000
section
variable {P : Program} (w : World)
end
end Go.Proofs.Ytnnbnjanekibpaa
namespace Go.Proofs.Ytnnbnjanekibpaa
open Go.RowKit
set_option linter.unusedVariables false
set_option maxRecDepth 100000
end Go.Proofs.Ytnnbnjanekibpaa
namespace Go.Proofs.Ytnnbnjanekibpaa
open Go.RowKit
set_option linter.unusedVariables false
set_option maxRecDepth 100000
end Go.Proofs.Ytnnbnjanekibpaa
namespace Go.Proofs.Ytnnbnjanekibpaa
set_option linter.unusedVariables false
theorem idxGo_at {α : Type} [DecidableEq α] (x : α) (l : List α) (k : Nat) (h : 0 ≤ idxGo x l k) : ∃ j : Nat, idxGo x l k = k + j ∧ l[j]? = some x := by
  induction l generalizing k with
  | nil => simp [idxGo] at h
  | cons y l ih =>
    by_cases hxy : x = y
    · subst hxy; exact ⟨0, by simp [idxGo], by simp⟩
    · rw [idxGo, if_neg hxy] at h ⊢
      obtain ⟨j, h1, h2⟩ := ih (k + 1) h
      exact ⟨j + 1, by rw [h1]; omega, by simpa using h2⟩
theorem idx_at {α : Type} [DecidableEq α] {l : List α} {x : α} (h : 0 ≤ idx l x) : ∃ j : Nat, idx l x = j ∧ l[j]? = some x := by
  obtain ⟨j, h1, h2⟩ := idxGo_at x l 0 h
  exact ⟨j, by unfold idx; omega, h2⟩
theorem idxGo_append {α : Type} [DecidableEq α] (x : α) (l m : List α) (k : Nat) (h : 0 ≤ idxGo x l k) : idxGo x (l ++ m) k = idxGo x l k := by
  induction l generalizing k with
  | nil => simp [idxGo] at h
  | cons y l ih =>
    by_cases hxy : x = y
    · subst hxy; simp [idxGo]
    · rw [idxGo, if_neg hxy] at h
      rw [List.cons_append, idxGo, if_neg hxy, idxGo, if_neg hxy]
      exact ih _ h
theorem idx_prefix {α : Type} [DecidableEq α] {l m : List α} (hp : l <+: m) {x : α} (h : 0 ≤ idx l x) : idx m x = idx l x := by
  obtain ⟨r, rfl⟩ := hp
  exact idxGo_append x l r 0 h
theorem idx_prefix_ge {α : Type} [DecidableEq α] {l m : List α} (hp : l <+: m) {x : α} (h : 0 ≤ idx l x) : 0 ≤ idx m x := by rw [idx_prefix hp h]; exact h
end Go.Proofs.Ytnnbnjanekibpaa
namespace Go.Proofs.Ytnnbnjanekibpaa
open Go.RowKit
set_option linter.unusedVariables false
set_option maxRecDepth 100000
theorem Rds.blk {w : World} {F : Nat → Prop} {xs : List Block} {A : Option Addr} {n c k : Nat} (h : Rds shBlock w F xs A n c) (hk : k < n) :
    ∃ b off x A1 n1 c1, A = some ⟨b, off, none⟩ ∧ F b ∧ xs[k]? = some x ∧ (w.cell? ⟨b, off + k * 5, none⟩ = some (.int .i64 x.parent) ∧ w.cell? ⟨b, off + k * 5 + 1, none⟩ = some (.int .i64 x.height) ∧ w.cell? ⟨b, off + k * 5 + 2, none⟩ = some (.int .i64 x.work) ∧ w.cell? ⟨b, off + k * 5 + 3, none⟩ = some (.int .i64 x.nonce) ∧ w.cell? ⟨b, off + k * 5 + 4, none⟩ = some (.slice A1 n1 c1)) ∧ shBlock.rep w F x [.int .i64 x.parent, .int .i64 x.height, .int .i64 x.work, .int .i64 x.nonce, .slice A1 n1 c1] := by
  obtain ⟨b, off, x, cs, e, hF, hx, hr, hc⟩ := h.at_ hk
  have hr' := hr
  obtain ⟨A1, n1, c1, rfl, h1, h2, h3, h4, h5⟩ := rep_block hr
  exact ⟨b, off, x, A1, n1, c1, e, hF, hx, ⟨by simpa [shBlock, shS5, shS4, shS3, shS2, shInt, shSlice] using hc 0 _ rfl, by simpa [shBlock, shS5, shS4, shS3, shS2, shInt, shSlice] using hc 1 _ rfl, by simpa [shBlock, shS5, shS4, shS3, shS2, shInt, shSlice] using hc 2 _ rfl, by simpa [shBlock, shS5, shS4, shS3, shS2, shInt, shSlice] using hc 3 _ rfl, by simpa [shBlock, shS5, shS4, shS3, shS2, shInt, shSlice] using hc 4 _ rfl⟩, hr'⟩
def blkAt (bs : List Block) (i : Int) : Block := (bs[i.toNat]?).getD ⟨0, 0, 0, 0, []⟩
def standsE (ns : List Int) (bs : List Block) (b : Block) (m : Nat) : Int :=
  if b.parent = 0 then (if b.height ≠ 1 then 4 else 0)
  else if idx (ns.take m) b.parent < 0 then 5 else if b.height ≠ (blkAt bs (idx (ns.take m) b.parent)).height + 1 then 4 else 0
theorem index_int_q (xs : List Int) (y : Int) (A : Option Addr) (n c : Nat) (w : World) (F : Nat → Prop) (h : Rds shInt w F xs A n c) :
    Calls Try.prog 50 #[.slice A n c, .int .i64 y] w fun e w' => e = .returned (.int .i64 (idx xs y)) ∧ ∃ m, w' = w.drewN m :=
  (index_int xs y A n c w F h).mono fun e w' ⟨h1, h2⟩ => ⟨h1, 0, h2 ▸ rfl⟩
set_option maxHeartbeats 1000000 in
theorem stands_any (ns : List Int) (bs : List Block) (b : Block) (cs : List Value) (A1 : Option Addr) (n1 c1 : Nat) (A2 : Option Addr) (c2 m : Nat) (w : World) (F : Nat → Prop) (h1 : Rds shInt w F ns A1 n1 c1) (h2 : Rds shBlock w F bs A2 n1 c2) (h : shBlock.rep w F b cs)
    (hF : ∀ b, F b → b < w.heap.size) (hm : m ≤ n1) (hbd : ∀ x ∈ bs.take m, 0 ≤ x.height ∧ x.height ≤ 1000) :
    Calls Try.prog 79 #[.agg #[.slice A1 n1 c1, .slice A2 n1 c2], .agg cs.toArray, .int .i64 m] w fun e w' => e = .returned (.int .i64 (standsE ns bs b m)) ∧ Below w.heap.size w w' := by
  obtain ⟨A, n, c, rfl, i1, i2, i3, i4, hr⟩ := rep_block h
  obtain ⟨bp, bh, bw, bn, txs⟩ := b
  simp only at hr i1 i2 i3 i4 ⊢
  have hB := ((Below.refl w.heap.size w).alloc (Nat.le_refl _) (.cells #[.slice A1 n1 c1, .slice A2 n1 c2] 56)).alloc (by simp) (.cells #[.int .i64 bp, .int .i64 bh, .int .i64 bw, .int .i64 bn, .slice A n c] 66)
  have HR1 := Lib.hid (h1.keep ((Agree.below hB).mono hF))
  have HB := Lib.hid hB
  have hn1 := h1.2.1
  have hc1 := h1.2.2.1
  have hn2 := h2.2.1
  have hc2 := h2.2.2.1
  have hl1 := h1.1
  have hl2 := h2.1
  have T := Lib.hid (HR1.out.take hm)
  have H2 := Lib.hid h2
  clear hr h h1 hB
  by_cases hp : bp = 0
  · have e : standsE ns bs ⟨bp, bh, bw, bn, txs⟩ m = if bh ≠ 1 then 4 else 0 := by simp only [standsE]; rw [if_pos hp]
    rw [e]
    have q : (bp != 0) = false := by simp [hp]
    clear e hp hl1 hl2 h2
    by_cases hh : bh = 1
    · have q2 : (bh != 1) = false := by simp [hh]
      rw [if_neg (by simp [hh])]
      clear hh
      go_enter Try.func79, Try.ntmps79
      go_wp2_with fail
      go_ret
      exact ⟨rfl, HB.out⟩
    · have q2 : (bh != 1) = true := by simp [hh]
      rw [if_pos hh]
      clear hh
      go_enter Try.func79, Try.ntmps79
      go_wp2_with fail
      go_ret
      exact ⟨rfl, HB.out⟩
  · have e : standsE ns bs ⟨bp, bh, bw, bn, txs⟩ m = if idx (ns.take m) bp < 0 then 5 else if bh ≠ (blkAt bs (idx (ns.take m) bp)).height + 1 then 4 else 0 := by simp only [standsE]; rw [if_neg hp]
    rw [e]
    have q : (bp != 0) = true := by simp [hp]
    have bd := idx_bd (ns.take m) bp
    rcases Classical.em (idx (ns.take m) bp < 0) with hi | hi
    · rw [if_pos hi]
      clear e hp hl1 hl2 bd h2
      go_enter Try.func79, Try.ntmps79
      go_wp2_with fail
      go_quiet ((go_at_call 50; exact Calls.quiet_of (index_int_q _ _ _ _ _ _ _ T.out)))
      go_wp2_with fail
      go_ret
      exact ⟨rfl, below_drewN HB.out _⟩
    · rw [if_neg hi]
      obtain ⟨j, hj, hjs⟩ := idx_at (show 0 ≤ idx (ns.take m) bp by omega)
      have hjm : j < m := by have := (List.getElem?_eq_some_iff.1 hjs).1; simp at this; omega
      obtain ⟨b, off, x, A5, n5, c5, rfl, hFb, hx, ⟨hc1', hc2', hc3', hc4', hc5'⟩, hrx⟩ := H2.out.blk (show j < n1 by omega)
      have hxh := hbd x (by rw [List.mem_take_iff_getElem]; exact ⟨j, by have := (List.getElem?_eq_some_iff.1 hx).1; omega, by have := (List.getElem?_eq_some_iff.1 hx).2; exact this⟩)
      have hat : blkAt bs (idx (ns.take m) bp) = x := by rw [hj]; simp [blkAt, hx]
      have hFw := hF b hFb
      rw [← HB.out.cell (p := ⟨b, off + j * 5 + 1, none⟩) hFw] at hc2'
      rw [hat]
      have x1 := hxh.1
      have x2 := hxh.2
      have HJ := Lib.hid hj
      have j1 : (0 : Int) ≤ (j : Int) := by omega
      have j2 : (j : Int) < (n1 : Int) := by omega
      clear e hp hl1 hl2 bd hi hj hjs hx hrx hxh hat hc1' hc3' hc4' hc5' hbd h2
      by_cases hh : bh = x.height + 1
      · have q2 : (bh != x.height + 1) = false := by simp [hh]
        rw [if_neg (by simp [hh])]
        clear hh
        go_enter Try.func79, Try.ntmps79
        go_wp2_with fail
        go_quiet ((go_at_call 50; exact Calls.quiet_of (index_int_q _ _ _ _ _ _ _ T.out)))
        rw [HJ.out]
        go_wp2_with fail
        go_ret
        exact ⟨rfl, below_drewN HB.out _⟩
      · have q2 : (bh != x.height + 1) = true := by simp [hh]
        rw [if_pos hh]
        clear hh
        go_enter Try.func79, Try.ntmps79
        go_wp2_with fail
        go_quiet ((go_at_call 50; exact Calls.quiet_of (index_int_q _ _ _ _ _ _ _ T.out)))
        rw [HJ.out]
        go_wp2_with fail
        go_ret
        exact ⟨rfl, below_drewN HB.out _⟩
end Go.Proofs.Ytnnbnjanekibpaa
namespace Go.Proofs.Ytnnbnjanekibpaa
open Go.RowKit
set_option linter.unusedVariables false
set_option maxRecDepth 100000
def nameAt (ns : List Int) (k : Nat) : Int := (ns[k]?).getD 0
def treeStep (ns : List Int) (bs : List Block) (k : Nat) (n : Int) (b : Block) : Int :=
  if n < 1 ∨ 120 < n then 3 else if blkCheck b ≠ 0 then blkCheck b else if memB (ns.take k) n = true then 6 else standsE ns bs b k
def treeGo (ns : List Int) (bs : List Block) : Nat → Nat → Int
  | _, 0 => 0
  | k, f + 1 => if treeStep ns bs k (nameAt ns k) (blkAt bs k) ≠ 0 then treeStep ns bs k (nameAt ns k) (blkAt bs k) else treeGo ns bs (k + 1) f
def treeCheck (t : Tree) : Int := if t.names.length ≠ t.blocks.length then 4 else if 24 < t.names.length then 2 else treeGo t.names t.blocks 0 t.names.length
theorem blkCheck_bd {b : Block} (h : blkCheck b = 0) : ¬ blkRange b ∧ b.txs.length ≤ 4 := by
  unfold blkCheck at h
  by_cases h0 : blkHead b = 0
  · unfold blkHead at h0
    by_cases h1 : blkRange b
    · rw [if_pos h1] at h0; cases h0
    · rw [if_neg h1] at h0
      by_cases h2 : 4 < b.txs.length
      · rw [if_pos h2] at h0; cases h0
      · exact ⟨h1, by omega⟩
  · rw [if_pos h0] at h; exact absurd h h0
theorem blkCheck_height {b : Block} (h : blkCheck b = 0) : 0 ≤ b.height ∧ b.height ≤ 1000 := by
  have := (blkCheck_bd h).1
  unfold blkRange at this
  omega
set_option maxHeartbeats 1000000 in
theorem treeCheck_any (t : Tree) (cs : List Value) (w : World) (F : Nat → Prop) (h : shTree.rep w F t cs) (hF : ∀ b, F b → b < w.heap.size) :
    Calls Try.prog 40 #[.agg cs.toArray] w fun e w' => e = .returned (.int .i64 (treeCheck t)) ∧ Below w.heap.size w w' := by
  obtain ⟨A1, n, c1, A2, n2, c2, rfl, h1, h2⟩ := rep_tree h
  obtain ⟨ns, bs⟩ := t
  simp only at h1 h2 ⊢
  have hl1 := h1.1
  have hl2 := h2.1
  have hn1 := h1.2.1
  have hc1 := h1.2.2.1
  have hn2 := h2.2.1
  have hc2 := h2.2.2.1
  have H1 := Lib.hid h1
  have H2 := Lib.hid h2
  have HB := Lib.hid ((Below.refl w.heap.size w).alloc (Nat.le_refl _) (.cells #[.slice A1 n c1, .slice A2 n2 c2] 56))
  have HK := Lib.hid (heap_alloc_new w (.cells #[.slice A1 n c1, .slice A2 n2 c2] 56))
  clear h h1 h2
  by_cases e1 : n = n2
  · subst e1
    by_cases e2 : 24 < n
    · have e : treeCheck ⟨ns, bs⟩ = 2 := by simp only [treeCheck]; rw [if_neg (by omega), if_pos (by omega)]
      rw [e]
      clear e hl1 hl2
      go_enter Try.func40, Try.ntmps40
      go_wp2
      go_ret
      exact ⟨rfl, HB.out⟩
    · have e : treeCheck ⟨ns, bs⟩ = treeGo ns bs 0 n := by simp only [treeCheck]; rw [if_neg (by omega), if_neg (by omega), hl1]
      rw [e]
      have L1 := Lib.hid hl1
      have L2 := Lib.hid hl2
      have m1 : n ≤ 24 := by omega
      clear e hl1 hl2 e2
      go_enter Try.func40, Try.ntmps40
      go_wp2
      go_loopw [3, 4, 5, 6, 7, 22] (fun _ _ _ _ _ i wr => ∃ k : Nat, k ≤ n ∧ i = .int .i64 k ∧ Below w.heap.size w wr ∧ wr.heap[w.heap.size]? = some (.cells #[.slice A1 n c1, .slice A2 n c2] 56 (0, 0)) ∧ (∀ x ∈ bs.take k, 0 ≤ x.height ∧ x.height ≤ 1000) ∧ treeGo ns bs k (n - k) = treeGo ns bs 0 n) (fun _ _ _ _ _ i _ => n - (intOf i).toNat)
      case atStart => exact ⟨0, by omega, rfl, HB.out, HK.out, by simp, rfl⟩
      case round =>
        obtain ⟨k, hk, rfl, hb, hbox, hbd, hs⟩ := hrel
        have hwz := blk_lt hbox
        rcases Classical.em (k < n) with hlt | hlt
        · obtain ⟨b, off, x, A3, n3, c3, rfl, hFb, hx, ⟨hc1', hc2', hc3', hc4', hc5'⟩, hrk⟩ := H2.out.blk hlt
          obtain ⟨b', off', y, rfl, hFb', hy, hcy, hy1, hy2⟩ := H1.out.int hlt
          have hFw := hF b hFb
          have hFw' := hF b' hFb'
          rw [← hb.cell (p := ⟨b, off + k * 5, none⟩) hFw] at hc1'
          rw [← hb.cell (p := ⟨b, off + k * 5 + 1, none⟩) hFw] at hc2'
          rw [← hb.cell (p := ⟨b, off + k * 5 + 2, none⟩) hFw] at hc3'
          rw [← hb.cell (p := ⟨b, off + k * 5 + 3, none⟩) hFw] at hc4'
          rw [← hb.cell (p := ⟨b, off + k * 5 + 4, none⟩) hFw] at hc5'
          rw [← hb.cell (p := ⟨b', off' + k, none⟩) hFw'] at hcy
          have ea : nameAt ns k = y := by simp [nameAt, hy]
          have eb : blkAt bs k = x := by simp [blkAt, hx]
          rw [show n - k = (n - (k + 1)) + 1 by omega, treeGo, ea, eb] at hs
          have hbxn : ∀ o, (wr.alloc o).heap[w.heap.size]? = some (.cells #[.slice (some ⟨b', off', none⟩) n c1, .slice (some ⟨b, off, none⟩) n c2] 56 (0, 0)) := fun o => by rw [Below.heap_alloc _ _ _ hwz]; exact hbox
          have hW := hb.alloc hb.size (.cells #[.int .i64 x.parent, .int .i64 x.height, .int .i64 x.work, .int .i64 x.nonce, .slice A3 n3 c3] 66)
          have HW := Lib.hid hW
          have HRK := Lib.hid (shBlock.more (F' := Lt (wr.alloc (.cells #[.int .i64 x.parent, .int .i64 x.height, .int .i64 x.work, .int .i64 x.nonce, .slice A3 n3 c3] 66)).heap.size) (fun b hb => by have := hF b hb; show b < _; simp; omega) (shBlock.keep ((Agree.below hW).mono hF) hrk))
          have HBX := Lib.hid (hbxn (.cells #[.int .i64 x.parent, .int .i64 x.height, .int .i64 x.work, .int .i64 x.nonce, .slice A3 n3 c3] 66))
          have HNW := Lib.hid (heap_alloc_new wr (.cells #[.int .i64 x.parent, .int .i64 x.height, .int .i64 x.work, .int .i64 x.nonce, .slice A3 n3 c3] 66))
          have i1' : (0 : Int) ≤ (k : Int) := by omega
          have i2' : (k : Int) < (n : Int) := by omega
          have HT := Lib.hid (take_snoc hx)
          have HBD := Lib.hid hbd
          have HS := Lib.hid hs
          have cb0 : (wr.alloc (.cells #[.int .i64 x.parent, .int .i64 x.height, .int .i64 x.work, .int .i64 x.nonce, .slice A3 n3 c3] 66)).cell? ⟨w.heap.size, 0, none⟩ = some (.slice (some ⟨b', off', none⟩) n c1) := by rw [blk_cell HBX.out]; rfl
          have cby : (wr.alloc (.cells #[.int .i64 x.parent, .int .i64 x.height, .int .i64 x.work, .int .i64 x.nonce, .slice A3 n3 c3] 66)).cell? ⟨b', off' + k, none⟩ = some (.int .i64 y) := by rw [World.cell?_alloc_lt wr _ _ (by have := hb.size; show b' < _; omega)]; exact hcy
          clear hx hrk hFb hb hbox hs hW hbxn hbd hy ea eb hcy
          by_cases hp : y < 1 ∨ 120 < y
          · have hs := HS.out
            rw [show treeStep ns bs k y x = 3 by simp only [treeStep]; rw [if_pos hp], if_pos (by decide)] at hs
            have HS' := Lib.hid hs
            clear HS hs
            rcases Classical.em (y < 1) with p1 | p1
            · clear hp
              go_wp2_with fail
              go_ret
              exact ⟨ret_int HS'.out, HW.out⟩
            · have p2 : 120 < y := by omega
              clear hp
              go_wp2_with fail
              go_ret
              exact ⟨ret_int HS'.out, HW.out⟩
          · have p1 : ¬ y < 1 := by omega
            have p2 : ¬ 120 < y := by omega
            have hs := HS.out
            rw [show treeStep ns bs k y x = (if blkCheck x ≠ 0 then blkCheck x else if memB (ns.take k) y = true then 6 else standsE ns bs x k) by simp only [treeStep]; rw [if_neg hp]] at hs
            have HS' := Lib.hid hs
            clear HS hs hp
            go_wp2_with fail
            generalize hW1 : wr.alloc (.cells #[.int .i64 x.parent, .int .i64 x.height, .int .i64 x.work, .int .i64 x.nonce, .slice A3 n3 c3] 66) = W1 at HW HRK HBX HNW cb0 cby ⊢
            have hsW : wr.heap.size < W1.heap.size := by rw [← hW1]; simp
            clear hW1 hc1' hc2' hc3' hc4' hc5' cb0 cby
            refine (blockCheck_any _ [_, _, _, _, _] _ _ HRK.out (fun b hb => hb)).mono ?_
            rintro e w2 ⟨rfl, hb2⟩
            have HW2 := Lib.hid (HW.out.trans (hb2.mono HW.out.size))
            have HBX2 := Lib.hid (blk_below HBX.out hb2 (by omega))
            have HNW2 := Lib.hid (blk_below HNW.out hb2 hsW)
            have HRK2 := Lib.hid (shBlock.more (F' := Lt w2.heap.size) (fun b hb => Nat.lt_of_lt_of_le hb hb2.size) (shBlock.keep (Agree.below hb2) HRK.out))
            clear hb2 HW HRK HBX HNW
            by_cases he : blkCheck x = 0
            · have hbx := blkCheck_height he
              have HBX' := Lib.hid hbx
              have hs := HS'.out
              rw [he, if_neg (show ¬ ((0 : Int) ≠ 0) by decide)] at hs
              rw [he]
              have HS := Lib.hid hs
              have b0 := blk_cell (i := 0) HBX2.out
              clear HS' he hs hbx
              go_wp2_with fail
              refine (contains_int (ns.take k) y _ k c1 w2 (Lt w2.heap.size) (((H1.out.take hk).keep ((Agree.below HW2.out).mono hF)).more fun b hb => Nat.lt_of_lt_of_le (hF b hb) HW2.out.size)).mono ?_
              rintro e w3 ⟨rfl, rfl⟩
              by_cases hm : memB (ns.take k) y = true
              · have hs := HS.out
                rw [if_pos hm, if_pos (by decide)] at hs
                rw [hm]
                have HS' := Lib.hid hs
                clear HS hs hm b0
                go_wp2_with fail
                go_ret
                exact ⟨ret_int HS'.out, HW2.out⟩
              · have hs := HS.out
                rw [if_neg hm] at hs
                have hm' : memB (ns.take k) y = false := by simpa using hm
                rw [hm']
                have HS' := Lib.hid hs
                have b1 := blk_cell (i := 1) HBX2.out
                have d0 := blk_cell (i := 0) HNW2.out
                have d1 := blk_cell (i := 1) HNW2.out
                have d2 := blk_cell (i := 2) HNW2.out
                have d3 := blk_cell (i := 3) HNW2.out
                have d4 := blk_cell (i := 4) HNW2.out
                clear HS hs hm hm'
                go_wp2_with fail
                refine (stands_any ns bs x [_, _, _, _, _] _ n c1 _ c2 k w2 (Lt w2.heap.size) ((H1.out.keep ((Agree.below HW2.out).mono hF)).more fun b hb => Nat.lt_of_lt_of_le (hF b hb) HW2.out.size) ((H2.out.keep ((Agree.below HW2.out).mono hF)).more fun b hb => Nat.lt_of_lt_of_le (hF b hb) HW2.out.size) HRK2.out (fun b hb => hb) hk HBD.out).mono ?_
                rintro e w4 ⟨rfl, hb4⟩
                have HW4 := Lib.hid (HW2.out.trans (hb4.mono HW2.out.size))
                have HBX4 := Lib.hid (blk_below HBX2.out hb4 (by have := blk_lt HBX2.out; exact this))
                clear hb4 HW2 HBX2 HNW2 HRK2 b0 b1 d0 d1 d2 d3 d4
                by_cases hst : standsE ns bs x k = 0
                · have hs := HS'.out
                  rw [hst, if_neg (by decide)] at hs
                  rw [hst]
                  have HS := Lib.hid hs
                  clear HS' hs hst
                  go_wp2_with fail
                  go_roundw
                  case measure => simp [intOf]; omega
                  case rel =>
                    refine ⟨k + 1, by omega, by go_num, HW4.out, HBX4.out, ?_, HS.out⟩
                    intro z hz
                    rw [HT.out] at hz
                    rcases List.mem_append.1 hz with h | h
                    · exact HBD.out z h
                    · simp at h; subst h; exact HBX'.out
                · have hs := HS'.out
                  rw [if_pos hst] at hs
                  have hd : (standsE ns bs x k != 0) = true := by simpa using hst
                  have HS := Lib.hid hs
                  clear HS' hs hst
                  go_wp2_with fail
                  go_ret
                  exact ⟨ret_int HS.out, HW4.out⟩
            · have hs := HS'.out
              rw [if_pos he, if_pos he] at hs
              have hd : (blkCheck x != 0) = true := by simpa using he
              have HS := Lib.hid hs
              clear HS' he hs
              go_wp2_with fail
              go_ret
              exact ⟨ret_int HS.out, HW2.out⟩
        · obtain rfl : n = k := by omega
          rw [Nat.sub_self, treeGo] at hs
          have HS := Lib.hid hs
          clear hs
          go_wp2
          go_ret
          exact ⟨ret_int HS.out, hb⟩
  · have e : treeCheck ⟨ns, bs⟩ = 4 := by simp only [treeCheck]; rw [if_pos (by omega)]
    rw [e]
    have q : ((n : Int) != (n2 : Int)) = true := by simp; omega
    clear e hl1 hl2 e1
    go_enter Try.func40, Try.ntmps40
    go_wp2
    go_ret
    exact ⟨rfl, HB.out⟩
end Go.Proofs.Ytnnbnjanekibpaa
namespace Go.Proofs.Ytnnbnjanekibpaa
open Go.RowKit
set_option linter.unusedVariables false
structure TreeOK (ns : List Int) (bs : List Block) : Prop where
  len : ns.length = bs.length
  le : ns.length ≤ 24
  step : ∀ k, k < ns.length → treeStep ns bs k (nameAt ns k) (blkAt bs k) = 0
theorem treeGo_iff (ns : List Int) (bs : List Block) (f k : Nat) : treeGo ns bs k f = 0 ↔ ∀ j, k ≤ j → j < k + f → treeStep ns bs j (nameAt ns j) (blkAt bs j) = 0 := by
  induction f generalizing k with
  | zero => simp [treeGo]; intro j h1 h2; omega
  | succ f ih =>
    rw [treeGo]
    by_cases h : treeStep ns bs k (nameAt ns k) (blkAt bs k) = 0
    · rw [if_neg (by simp [h]), ih]
      constructor
      · intro H j h1 h2
        rcases Nat.lt_or_ge k j with h3 | h3
        · exact H j h3 (by omega)
        · obtain rfl : j = k := by omega
          exact h
      · intro H j h1 h2; exact H j (by omega) (by omega)
    · rw [if_pos h]
      constructor
      · intro e; exact absurd e h
      · intro H; exact H k (Nat.le_refl _) (by omega)
theorem treeCheck_iff (ns : List Int) (bs : List Block) : treeCheck ⟨ns, bs⟩ = 0 ↔ TreeOK ns bs := by
  simp only [treeCheck]
  by_cases h1 : ns.length = bs.length
  · rw [if_neg (by simp [h1])]
    by_cases h2 : 24 < ns.length
    · rw [if_pos h2]
      constructor
      · intro e; cases e
      · intro H; have := H.le; omega
    · rw [if_neg h2, treeGo_iff]
      exact ⟨fun H => ⟨h1, by omega, fun k hk => H k (Nat.zero_le _) (by omega)⟩, fun H j _ hj => H.step j (by omega)⟩
  · rw [if_pos h1]
    constructor
    · intro e; cases e
    · intro H; exact absurd H.len h1
theorem treeStep_ok {ns : List Int} {bs : List Block} {k : Nat} {n : Int} {b : Block} (h : treeStep ns bs k n b = 0) : (1 ≤ n ∧ n ≤ 120) ∧ blkCheck b = 0 ∧ n ∉ ns.take k ∧ standsE ns bs b k = 0 := by
  unfold treeStep at h
  by_cases h1 : n < 1 ∨ 120 < n
  · rw [if_pos h1] at h; cases h
  · rw [if_neg h1] at h
    by_cases h2 : blkCheck b = 0
    · rw [h2, if_neg (show ¬ ((0 : Int) ≠ 0) by decide)] at h
      by_cases h3 : memB (ns.take k) n = true
      · rw [if_pos h3] at h; cases h
      · rw [if_neg h3] at h
        exact ⟨by omega, h2, by simpa [memB] using h3, h⟩
    · rw [if_pos h2] at h; exact absurd h h2
theorem standsE_ok {ns : List Int} {bs : List Block} {k : Nat} {b : Block} (h : standsE ns bs b k = 0) : (b.parent = 0 ∧ b.height = 1) ∨ (b.parent ≠ 0 ∧ ∃ j : Nat, j < k ∧ idx ns b.parent = j ∧ ns[j]? = some b.parent ∧ b.height = (blkAt bs j).height + 1) := by
  unfold standsE at h
  by_cases h1 : b.parent = 0
  · rw [if_pos h1] at h
    by_cases h2 : b.height = 1
    · exact .inl ⟨h1, h2⟩
    · rw [if_pos h2] at h; cases h
  · rw [if_neg h1] at h
    by_cases h2 : idx (ns.take k) b.parent < 0
    · rw [if_pos h2] at h; cases h
    · rw [if_neg h2] at h
      by_cases h3 : b.height = (blkAt bs (idx (ns.take k) b.parent)).height + 1
      · obtain ⟨j, hj, hjs⟩ := idx_at (show 0 ≤ idx (ns.take k) b.parent by omega)
        have hp := idx_prefix (List.take_prefix k ns) (x := b.parent) (by omega)
        have hlt := (List.getElem?_eq_some_iff.1 hjs).1
        rw [List.getElem?_take] at hjs
        split at hjs
        · exact .inr ⟨h1, j, by assumption, by omega, hjs, by rw [hj] at h3; exact h3⟩
        · cases hjs
      · rw [if_pos h3] at h; cases h
def parentOf (ns : List Int) (bs : List Block) (m : Int) : Int := (blkAt bs (idx ns m)).parent
def remN (ns : List Int) (m : Int) : Nat := if m = 0 then 0 else (idx ns m + 1).toNat
def up (ns : List Int) (bs : List Block) : Nat → Int → List Int
  | 0, _ => []
  | f + 1, m => if m = 0 then [] else m :: up ns bs f (parentOf ns bs m)
def pathL (ns : List Int) (bs : List Block) (m : Int) : List Int := (up ns bs ns.length m).reverse
theorem TreeOK.name {ns : List Int} {bs : List Block} (h : TreeOK ns bs) {m : Int} (hm : 0 ≤ idx ns m) : 1 ≤ m ∧ m ≤ 120 ∧ ∃ j : Nat, j < ns.length ∧ idx ns m = j ∧ nameAt ns j = m ∧ (parentOf ns bs m = 0 ∨ (parentOf ns bs m ≠ 0 ∧ 0 ≤ idx ns (parentOf ns bs m) ∧ idx ns (parentOf ns bs m) < j)) := by
  obtain ⟨j, hj, hjs⟩ := idx_at hm
  have hlt := (List.getElem?_eq_some_iff.1 hjs).1
  have hn : nameAt ns j = m := by simp [nameAt, hjs]
  obtain ⟨⟨a, b⟩, c, d, e⟩ := treeStep_ok (h.step j hlt)
  refine ⟨by omega, by omega, j, hlt, hj, hn, ?_⟩
  have hp : parentOf ns bs m = (blkAt bs j).parent := by unfold parentOf; rw [hj]
  rw [hp]
  rcases standsE_ok e with ⟨h1, h2⟩ | ⟨h1, i, hi, hi2, hi3, hi4⟩
  · exact .inl h1
  · exact .inr ⟨h1, by omega, by omega⟩
theorem TreeOK.rem {ns : List Int} {bs : List Block} (h : TreeOK ns bs) {m : Int} (h0 : m ≠ 0) (hm : 0 ≤ idx ns m) : remN ns (parentOf ns bs m) < remN ns m := by
  obtain ⟨_, _, j, hj, he, _, hp⟩ := h.name hm
  unfold remN
  rw [if_neg h0]
  rcases hp with hp | ⟨hp, h1, h2⟩
  · rw [if_pos hp]; omega
  · rw [if_neg hp]; omega
end Go.Proofs.Ytnnbnjanekibpaa
namespace Go.Proofs.Ytnnbnjanekibpaa
open Go.RowKit Go.Shelf
set_option linter.unusedVariables false
set_option maxRecDepth 100000
theorem below_cells {B : Nat} {a : World} (b : Nat) (hb : B ≤ b) (vs : List Value) (o : Nat) (w : World) (h : Below B a w) : Below B a (w.setCells b o vs) := by
  induction vs generalizing o w with
  | nil => exact h
  | cons v vs ih => exact ih (o + 1) _ (h.setCell (p := ⟨b, o, none⟩) (by simp; omega) v)
theorem reverse_cells (b off n c : Nat) (zs : List Int) (w : World) (hz : n ≤ zs.length) (hbig : n ≤ 9223372036854775807) (hc : ∀ j, j < zs.length → w.cell? ⟨b, off + j, none⟩ = some (.int .i64 (zs.getD j 0))) (hf : ∀ j, j < n → w.frozen? ⟨b, off + j, none⟩ = false) :
    Calls Try.prog 110 #[.slice (some ⟨b, off, none⟩) n c] w fun e w' => e = .returned (.tuple #[]) ∧ ∃ q, w' = (w.drewN q).setCells b off ((zs.take n).reverse.map (Value.int .i64)) :=
  Any.slices_Reverse_int_cells Try.lays112 b off n c zs w hz hbig hc hf
theorem reverse_empty (a : Option Addr) (c : Nat) (w : World) :
    Calls Try.prog 110 #[.slice a 0 c] w fun e w' => e = .returned (.tuple #[]) ∧ w' = w :=
  Any.slices_Reverse_int_empty Try.lays112 a c w
theorem reverse_own (xs : List Int) (A : Option Addr) (n c base : Nat) (w : World) (h : w.ownsRow base 3 1 (.slice A n c) n (xs.map (Value.int .i64))) (hb : ∀ x ∈ xs, -9223372036854775808 ≤ x ∧ x ≤ 9223372036854775807) (hbase : base ≤ w.heap.size) :
    Calls Try.prog 110 #[.slice A n c] w fun e w' => e = .returned (.tuple #[]) ∧ Below base w w' ∧ Rds shInt w' (fun b => base ≤ b ∧ b < w'.heap.size) xs.reverse A n c := by
  have hl : xs.length = n := by simpa using h.1
  rcases h.2 with ⟨hv, hn⟩ | ⟨g, cap, cur, hv, hg, hh, hnc, hcm, hcs, ht⟩
  · simp only [Value.slice.injEq] at hv
    obtain ⟨rfl, rfl, rfl⟩ := hv
    obtain rfl : xs = [] := List.eq_nil_of_length_eq_zero hl
    refine (reverse_empty none 0 w).mono ?_
    rintro e w' ⟨rfl, rfl⟩
    exact ⟨rfl, ⟨rfl, rfl, rfl, Nat.le_refl _, fun _ _ => rfl⟩, Rds.nil _ _ _⟩
  · simp only [Value.slice.injEq] at hv
    obtain ⟨rfl, _, rfl⟩ := hv
    unfold maxLen at hcm
    have hgs : g < w.heap.size := blk_lt hh
    have hcell : ∀ j, j < xs.length → w.cell? ⟨g, 0 + j, none⟩ = some (.int .i64 (xs.getD j 0)) := by
      intro j hj
      have e1 : (cur.toList.take (n * 1))[j]? = some (.int .i64 xs[j]) := by rw [ht]; simp [hj]
      rw [List.getElem?_take] at e1
      split at e1
      · rw [cell_of_row w g _ cur _ (0, 0) hh]
        simpa [List.getD, hj] using e1
      · cases e1
    refine (reverse_cells g 0 n c xs w (by omega) (by omega) hcell (fun j _ => blk_free hh)).mono ?_
    rintro e w' ⟨rfl, q, rfl⟩
    rw [List.take_of_length_le (by omega)]
    have hB : Below base w ((w.drewN q).setCells g 0 (xs.reverse.map (Value.int .i64))) := below_cells g hg _ _ _ (below_drewN ⟨rfl, rfl, rfl, Nat.le_refl _, fun _ _ => rfl⟩ q)
    refine ⟨rfl, hB, by simp [hl], by omega, by omega, fun hn => ⟨g, 0, rfl, ⟨hg, by have := hB.size; omega⟩, fun i hi => ⟨_, ⟨rfl, hb _ (List.mem_reverse.1 (List.getElem_mem hi))⟩, ?_⟩⟩⟩
    intro j v hj
    match j, hj with
    | 0, hj =>
      simp at hj
      subst hj
      have := World.cell?_setCells_in g (xs.reverse.map (Value.int .i64)) 0 (w.drewN q) (fun j hj => by
        have e := hcell j (by simpa using hj)
        show (w.cell? ⟨g, 0 + j, none⟩).isSome = true
        rw [e]; rfl) i (by simpa using hi)
      simpa [shInt] using this
end Go.Proofs.Ytnnbnjanekibpaa
namespace Go.Proofs.Ytnnbnjanekibpaa
open Go.RowKit
set_option linter.unusedVariables false
set_option maxRecDepth 100000
set_option maxHeartbeats 1000000 in
theorem path_any (ns : List Int) (bs : List Block) (m0 : Int) (A1 : Option Addr) (n c1 : Nat) (A2 : Option Addr) (c2 : Nat) (w : World) (F : Nat → Prop) (h1 : Rds shInt w F ns A1 n c1) (h2 : Rds shBlock w F bs A2 n c2)
    (hF : ∀ b, F b → b < w.heap.size) (ok : TreeOK ns bs) (hm0 : m0 = 0 ∨ 0 ≤ idx ns m0) :
    Calls Try.prog 77 #[.agg #[.slice A1 n c1, .slice A2 n c2], .int .i64 m0] w fun e w' => ∃ A n' c, e = .returned (.slice A n' c) ∧ Rds shInt w' (Mid w w') (pathL ns bs m0) A n' c ∧ Below w.heap.size w w' := by
  have hl1 := h1.1
  have hn1 := h1.2.1
  have hc1 := h1.2.2.1
  have hn2 := h2.2.1
  have hc2 := h2.2.2.1
  have hle : n ≤ 24 := by have := ok.le; omega
  have L1 := Lib.hid hl1
  have H1 := Lib.hid h1
  have H2 := Lib.hid h2
  have OK := Lib.hid ok
  have HM := Lib.hid hm0
  have HB := Lib.hid ((Below.refl w.heap.size w).alloc (Nat.le_refl _) (.cells #[.slice A1 n c1, .slice A2 n c2] 56))
  have HK := Lib.hid (heap_alloc_new w (.cells #[.slice A1 n c1, .slice A2 n c2] 56))
  obtain ⟨i0, zv, hi, hz0, hz1, hz2, hz3⟩ := int_info2
  clear h1 h2 ok hm0 hl1
  go_enter Try.func77, Try.ntmps77
  go_wp2
  go_loopw [1, 5] (fun nm o wr => ∃ (m : Int) (oo : List Int) (k f : Nat), nm = .int .i64 m ∧ k + f = n ∧ remN ns m ≤ f ∧ oo.length = k ∧ (m = 0 ∨ 0 ≤ idx ns m) ∧ (∀ x ∈ oo, I64 x) ∧ wr.ownsRow (w.heap.size + 1) 3 1 o k (oo.map (Value.int .i64)) ∧
    wr.heap[w.heap.size]? = some (.cells #[.slice A1 n c1, .slice A2 n c2] 56 (0, 0)) ∧ Below w.heap.size w wr ∧ oo ++ up ns bs f m = up ns bs n m0) (fun nm _ _ => remN ns (intOf nm))
  case atStart =>
    refine ⟨m0, [], 0, n, rfl, by omega, ?_, rfl, HM.out, by simp, World.ownsRow_nil _ _ _ _, HK.out, HB.out, rfl⟩
    unfold remN
    rcases HM.out with h | h
    · rw [if_pos h]; omega
    · obtain ⟨_, _, j, hj, he, _⟩ := OK.out.name h
      have := L1.out
      split <;> omega
  case round =>
    obtain ⟨m, oo, k, f, rfl, hkf, hrem, hok, hm, hob, hown, hbox, hb, hs⟩ := hrel
    have HOWN := Lib.hid hown
    have HBOX := Lib.hid hbox
    have Hb := Lib.hid hb
    have HS := Lib.hid hs
    have HOB := Lib.hid hob
    have HOK := Lib.hid hok
    have HREM := Lib.hid hrem
    have hwz := blk_lt hbox
    by_cases h0 : m = 0
    · have q : (m != 0) = false := by simp [h0]
      have e : oo = up ns bs n m0 := by
        rw [← hs, h0]
        cases f with
        | zero => simp [up]
        | succ f => simp [up]
      have HE := Lib.hid (show oo.reverse = pathL ns bs m0 by rw [e, pathL, L1.out])
      obtain ⟨A5, c5, ev, -⟩ := Rds.of_own_int hown hob
      subst ev
      clear hm h0 hs e hrem hok hob hown hbox hb
      go_wp2_with fail
      refine (reverse_own oo A5 k c5 (w.heap.size + 1) wr HOWN.out HOB.out (by omega)).mono ?_
      rintro e w2 ⟨rfl, hb2, hr2⟩
      rw [HE.out] at hr2
      have HR2 := Lib.hid hr2
      have HB2 := Lib.hid (Hb.out.trans (hb2.mono (by omega)))
      clear hb2 hr2
      go_wp2_with fail
      go_ret
      exact ⟨_, _, _, rfl, HR2.out.more (fun b hb => ⟨by have := hb.1; omega, hb.2⟩), HB2.out⟩
    · have q : (m != 0) = true := by simp [h0]
      have hm' : 0 ≤ idx ns m := by rcases hm with h | h; exact absurd h h0; exact h
      obtain ⟨b1, b2, j, hj, hjx, -, hp⟩ := OK.out.name hm'
      have hpos : 0 < remN ns m := by unfold remN; rw [if_neg h0]; omega
      obtain ⟨f, rfl⟩ : ∃ f', f = f' + 1 := ⟨f - 1, by omega⟩
      have hdec := OK.out.rem h0 hm'
      rw [up, if_neg h0] at hs
      obtain ⟨b, off, x, A5, n5, c5, rfl, hFb, hx, ⟨hc1', -, -, -, -⟩, -⟩ := H2.out.blk (show j < n by have := L1.out; omega)
      have hpx : parentOf ns bs m = x.parent := by unfold parentOf; rw [hjx]; simp [blkAt, hx]
      rw [hpx] at hs hdec hp
      have HS' := Lib.hid hs
      have HDEC := Lib.hid hdec
      have HP := Lib.hid hp
      have HJ := Lib.hid hjx
      have j1 : (0 : Int) ≤ (j : Int) := by omega
      have j2 : (j : Int) < (n : Int) := by have := L1.out; omega
      clear hm hm' hp hpos hdec hs HS hx hpx hjx h0 hrem hok hob hown hbox
      have hFw := hF b hFb
      go_wp2_with (at_builtin; refine wpList_append_own_at _ rfl _ _ 24 rfl (w.heap.size + 1) 3 i0 zv 1 8 Try.underlying24 hi hz0 hz1 hz2 hz3 (by omega) _ k (oo.map (Value.int .i64)) rfl (HOWN.out.alloc _) ⟨wr.heap.size, 0, none⟩ 1 1 [.int .i64 m] rfl rfl (cell_one_new _ _ _) (by intro u hu; simp at hu; subst hu; rfl) (by unfold maxLen; omega) (by omega) (by simp; omega) ?_; intro v5 w5 hown5 hgr5 _ hob5)
      have hgr : (wr.alloc (.cells #[.int .i64 m] 3)).grownBy w5 u5.ownBlock := hgr5
      have hge := fun k hk => own_ge HOWN.out (k := k) hk
      have hs5 := hgr.size
      simp only [World.size_alloc] at hs5
      have hb5 := (Hb.out.alloc Hb.out.size (.cells #[.int .i64 m] 3)).grown hgr (by have := Hb.out.size; simp; omega) (fun k hk => by have := hge _ hk; omega)
      have hbx5 := (block_append hgr hwz (fun e => by have := hge _ e; omega)).trans HBOX.out
      have T := Lib.hid (H1.out.keep ((Agree.below hb5).mono hF))
      have HB5 := Lib.hid hb5
      have HX5 := Lib.hid hbx5
      have HO5 := Lib.hid hown5
      rw [← hb5.cell (p := ⟨b, off + j * 5, none⟩) hFw] at hc1'
      have z0 := blk_cell (i := 0) hbx5
      have z1 := blk_cell (i := 1) hbx5
      clear hgr5 hob5 hgr hb5 hbx5 hown5
      have hidx := fun q => index_int_q ns m A1 n c1 (w5.drewN q) F T.out
      simp only [HJ.out] at hidx
      have HIDX := Lib.hid hidx
      clear hidx
      go_quiet ((go_at_call 50; exact Calls.quiet_of (HIDX.out _)))
      go_wp2_with fail
      go_roundw
      case measure => simpa [intOf] using HDEC.out
      case rel =>
        refine ⟨x.parent, oo ++ [m], k + 1, f, rfl, by omega, by have := HDEC.out; have := HREM.out; omega, by simp [HOK.out], ?_, ?_, ?_, ?_, ?_, ?_⟩
        · rcases HP.out with h | h
          · exact .inl h
          · exact .inr h.2.1
        · intro y hy
          rcases List.mem_append.1 hy with h | h
          · exact HOB.out y h
          · simp at h; subst h; exact ⟨by omega, by omega⟩
        · rw [List.map_append]; exact HO5.out
        · exact HX5.out
        · exact below_drewN HB5.out _
        · rw [List.append_assoc]; exact HS'.out
end Go.Proofs.Ytnnbnjanekibpaa
namespace Go.Proofs.Ytnnbnjanekibpaa
open Go.RowKit
set_option linter.unusedVariables false
set_option maxRecDepth 100000
def RetInts (w : World) (r : List Int × Int) (e : Ending) (w' : World) : Prop :=
  ∃ A n c, e = .returned (.tuple #[.slice A n c, .int .i64 r.2]) ∧ Rds shInt w' (Mid w w') r.1 A n c ∧ Below w.heap.size w w'
def pPath (t : Tree) (m : Int) : List Int × Int :=
  if treeCheck t ≠ 0 then ([], treeCheck t) else if m ≠ 0 ∧ idx t.names m < 0 then ([], 5) else (pathL t.names t.blocks m, 0)
theorem memB_iff (ns : List Int) (m : Int) : memB ns m = true ↔ 0 ≤ idx ns m := by
  unfold memB idx
  rw [decide_eq_true_iff, idxGo_mem]
set_option maxHeartbeats 1000000 in
theorem Path_any (t : Tree) (cs : List Value) (m : Int) (w : World) (F : Nat → Prop) (h : shTree.rep w F t cs) (hF : ∀ b, F b → b < w.heap.size) :
    Calls Try.prog 39 #[.agg cs.toArray, .int .i64 m] w (RetInts w (pPath t m)) := by
  have hck := fun (W : World) (hW : Agree F w W) (hs : ∀ b, F b → b < W.heap.size) => treeCheck_any t cs W F (shTree.keep hW h) hs
  obtain ⟨A1, n, c1, A2, n2, c2, rfl, h1, h2⟩ := rep_tree h
  obtain ⟨ns, bs⟩ := t
  simp only at h1 h2
  have hB := (Below.refl w.heap.size w).alloc (Nat.le_refl _) (.cells #[.slice A1 n c1, .slice A2 n2 c2] 56)
  have HC := Lib.hid (hck _ ((Agree.below hB).mono hF) (fun b hb => by have := hF b hb; simp; omega))
  have HB := Lib.hid hB
  have HK := Lib.hid (heap_alloc_new w (.cells #[.slice A1 n c1, .slice A2 n2 c2] 56))
  have H1 := Lib.hid h1
  have H2 := Lib.hid h2
  clear hck hB h h1 h2
  by_cases h0 : treeCheck ⟨ns, bs⟩ = 0
  · have ok := (treeCheck_iff ns bs).1 h0
    have en : n2 = n := by have a := H1.out.1; have b := H2.out.1; have c := ok.len; omega
    have OK := Lib.hid ok
    have E0 := Lib.hid h0
    subst en
    clear ok
    by_cases hm0 : m = 0
    · have e : pPath ⟨ns, bs⟩ m = (pathL ns bs m, 0) := by simp only [pPath]; rw [if_neg (by simp [h0]), if_neg (by simp [hm0])]
      rw [e]
      have q : (m != 0) = false := by simp [hm0]
      have HM := Lib.hid hm0
      clear e h0 hm0
      go_enter Try.func39, Try.ntmps39
      go_wp2_with fail
      refine HC.out.mono ?_
      rintro e w1 ⟨rfl, hb1⟩
      rw [E0.out]
      have hb := HB.out.trans (hb1.mono (by simp))
      have HB1 := Lib.hid hb
      have z := blk_below HK.out hb1 (by simp)
      have z0 := blk_cell (i := 0) z
      have z1 := blk_cell (i := 1) z
      have hs1 := hb.size
      clear hb hb1 z
      go_wp2_with fail
      refine (path_any ns bs m A1 n2 c1 A2 c2 w1 (Lt w.heap.size) ((H1.out.keep ((Agree.below HB1.out).mono hF)).more hF) ((H2.out.keep ((Agree.below HB1.out).mono hF)).more hF) (fun b hb => Nat.lt_of_lt_of_le hb hs1) OK.out (.inl HM.out)).mono ?_
      rintro e w2 ⟨A5, n5, c5, rfl, hr, hb2⟩
      have HR := Lib.hid hr
      have HB2 := Lib.hid (HB1.out.trans (hb2.mono hs1))
      clear hr hb2
      go_wp2_with fail
      refine bodyPost_ret (v := .tuple #[.slice A5 n5 c5, .int .i64 0]) (by simp [results, Try.results39, go_sem]) rfl ?_
      exact ⟨_, _, _, rfl, HR.out.more (fun b hb => ⟨Nat.le_trans hs1 hb.1, hb.2⟩), HB2.out⟩
    · have q : (m != 0) = true := by simp [hm0]
      rcases Classical.em (0 ≤ idx ns m) with hi | hi
      · have e : pPath ⟨ns, bs⟩ m = (pathL ns bs m, 0) := by simp only [pPath]; rw [if_neg (by simp [h0]), if_neg (by omega)]
        rw [e]
        have HM := Lib.hid hi
        have hmm : memB ns m = true := (memB_iff ns m).2 hi
        have HMM := Lib.hid hmm
        clear e h0 hm0 hi hmm
        go_enter Try.func39, Try.ntmps39
        go_wp2_with fail
        refine HC.out.mono ?_
        rintro e w1 ⟨rfl, hb1⟩
        rw [E0.out]
        have hb := HB.out.trans (hb1.mono (by simp))
        have HB1 := Lib.hid hb
        have z := blk_below HK.out hb1 (by simp)
        have z0 := blk_cell (i := 0) z
        have z1 := blk_cell (i := 1) z
        have hs1 := hb.size
        have T := Lib.hid (H1.out.keep ((Agree.below hb).mono hF))
        clear hb hb1 z
        go_wp2_with fail
        refine (contains_int ns m _ _ _ _ _ T.out).mono ?_
        rintro e w1' ⟨rfl, rfl⟩
        rw [HMM.out]
        go_wp2_with fail
        refine (path_any ns bs m A1 n2 c1 A2 c2 w1 (Lt w.heap.size) ((H1.out.keep ((Agree.below HB1.out).mono hF)).more hF) ((H2.out.keep ((Agree.below HB1.out).mono hF)).more hF) (fun b hb => Nat.lt_of_lt_of_le hb hs1) OK.out (.inr HM.out)).mono ?_
        rintro e w2 ⟨A5, n5, c5, rfl, hr, hb2⟩
        have HR := Lib.hid hr
        have HB2 := Lib.hid (HB1.out.trans (hb2.mono hs1))
        clear hr hb2
        go_wp2_with fail
        refine bodyPost_ret (v := .tuple #[.slice A5 n5 c5, .int .i64 0]) (by simp [results, Try.results39, go_sem]) rfl ?_
        exact ⟨_, _, _, rfl, HR.out.more (fun b hb => ⟨Nat.le_trans hs1 hb.1, hb.2⟩), HB2.out⟩
      · have e : pPath ⟨ns, bs⟩ m = ([], 5) := by simp only [pPath]; rw [if_neg (by simp [h0]), if_pos ⟨hm0, by omega⟩]
        rw [e]
        have hmm : memB ns m = false := by
          cases hb : memB ns m with
          | false => rfl
          | true => exact absurd ((memB_iff ns m).1 hb) hi
        have HMM := Lib.hid hmm
        clear e h0 hm0 hi hmm
        go_enter Try.func39, Try.ntmps39
        go_wp2_with fail
        refine HC.out.mono ?_
        rintro e w1 ⟨rfl, hb1⟩
        rw [E0.out]
        have hb := HB.out.trans (hb1.mono (by simp))
        have HB1 := Lib.hid hb
        have z := blk_below HK.out hb1 (by simp)
        have z0 := blk_cell (i := 0) z
        have T := Lib.hid (H1.out.keep ((Agree.below hb).mono hF))
        clear hb hb1 z
        go_wp2_with fail
        refine (contains_int ns m _ _ _ _ _ T.out).mono ?_
        rintro e w1' ⟨rfl, rfl⟩
        rw [HMM.out]
        go_wp2_with fail
        refine bodyPost_ret (v := .tuple #[.slice none 0 0, .int .i64 5]) (by simp [results, Try.results39, go_sem]) rfl ?_
        exact ⟨_, _, _, rfl, Rds.nil _ _ _, HB1.out⟩
  · have e : pPath ⟨ns, bs⟩ m = ([], treeCheck ⟨ns, bs⟩) := by simp only [pPath]; rw [if_pos h0]
    rw [e]
    have hd : (treeCheck ⟨ns, bs⟩ != 0) = true := by simpa using h0
    clear e h0
    go_enter Try.func39, Try.ntmps39
    go_wp2_with fail
    refine HC.out.mono ?_
    rintro e w1 ⟨rfl, hb1⟩
    have HB1 := Lib.hid (HB.out.trans (hb1.mono (by simp)))
    clear hb1
    go_wp2_with fail
    refine bodyPost_ret (v := .tuple #[.slice none 0 0, .int .i64 (treeCheck ⟨ns, bs⟩)]) (by simp [results, Try.results39, go_sem]) rfl ?_
    exact ⟨_, _, _, rfl, Rds.nil _ _ _, HB1.out⟩
end Go.Proofs.Ytnnbnjanekibpaa
namespace Go.Proofs.Ytnnbnjanekibpaa
open Go.RowKit
set_option linter.unusedVariables false
set_option maxRecDepth 100000
def forkL : List Int → List Int → Int → Int
  | x :: xs, y :: ys, l => forkL xs ys (if x = y then x else l)
  | [], _, l => l
  | _ :: _, [], l => l
theorem forkL_nil (xs : List Int) (l : Int) : forkL xs [] l = l := by cases xs <;> rfl
def pFork (t : Tree) (a b : Int) : Int × Int := if (pPath t a).2 ≠ 0 then (0, (pPath t a).2) else if (pPath t b).2 ≠ 0 then (0, (pPath t b).2) else (forkL (pPath t a).1 (pPath t b).1 0, 0)
set_option maxHeartbeats 1000000 in
theorem Fork_any (t : Tree) (cs : List Value) (a b : Int) (w : World) (F : Nat → Prop) (h : shTree.rep w F t cs) (hF : ∀ b, F b → b < w.heap.size) :
    Calls Try.prog 37 #[.agg cs.toArray, .int .i64 a, .int .i64 b] w fun e w' => e = .returned (.tuple #[.int .i64 (pFork t a b).1, .int .i64 (pFork t a b).2]) ∧ Below w.heap.size w w' := by
  have hck := fun (x : Int) (W : World) (hW : Agree F w W) (hs : ∀ b, F b → b < W.heap.size) => Path_any t cs x W F (shTree.keep hW h) hs
  obtain ⟨A1, n, c1, A2, n2, c2, rfl, h1, h2⟩ := rep_tree h
  have hB := (Below.refl w.heap.size w).alloc (Nat.le_refl _) (.cells #[.slice A1 n c1, .slice A2 n2 c2] 56)
  have HC := Lib.hid hck
  have HB := Lib.hid hB
  have HK := Lib.hid (heap_alloc_new w (.cells #[.slice A1 n c1, .slice A2 n2 c2] 56))
  clear hck hB h h1 h2
  by_cases ha : (pPath t a).2 = 0
  · have HA := Lib.hid ha
    by_cases hb' : (pPath t b).2 = 0
    · have e : pFork t a b = (forkL (pPath t a).1 (pPath t b).1 0, 0) := by simp only [pFork]; rw [if_neg (by simp [ha]), if_neg (by simp [hb'])]
      obtain ⟨R, hR⟩ : ∃ R, R = forkL (pPath t a).1 (pPath t b).1 0 := ⟨_, rfl⟩
      rw [e, ← hR]
      have HRR := Lib.hid hR
      have HBB := Lib.hid hb'
      clear e ha hb' hR
      go_enter Try.func37, Try.ntmps37
      go_wp2_with fail
      refine (HC.out a _ ((Agree.below HB.out).mono hF) (fun b hb => by have := hF b hb; simp; omega)).mono ?_
      rintro e w1 ⟨A5, n5, c5, rfl, hr1, hb1⟩
      rw [HA.out]
      have HB1 := Lib.hid (HB.out.trans (hb1.mono (by simp)))
      have z := blk_below HK.out hb1 (by simp)
      have HZ := Lib.hid z
      have z0 := blk_cell (i := 0) z
      have z1 := blk_cell (i := 1) z
      have HR1 := Lib.hid hr1
      have hs1 := hb1.size
      clear hb1 hr1 z
      go_wp2_with fail
      refine (HC.out b w1 ((Agree.below HB1.out).mono hF) (fun b hb => by have := hF b hb; have := HB1.out.size; omega)).mono ?_
      rintro e w2 ⟨A7, n7, c7, rfl, hr2, hb2⟩
      rw [HBB.out]
      have HB2 := Lib.hid (HB1.out.trans (hb2.mono HB1.out.size))
      have HR2 := Lib.hid hr2
      have HR1' := Lib.hid (HR1.out.keep (w' := w2) fun b hb => hb2.block b hb.2)
      have l1 := hr2.2.1
      have l2 := hr2.2.2.1
      have l3 := HR1.out.2.1
      have l4 := HR1.out.2.2.1
      have L5 := Lib.hid HR1.out.1
      have L7 := Lib.hid hr2.1
      clear hb2 hr2 HR1 z0 z1 HZ
      generalize (pPath t a).1 = xs at *
      generalize (pPath t b).1 = ys at *
      obtain ⟨p, hp⟩ : ∃ p : Nat, min (n5 : Int) (n7 : Int) = (p : Int) := ⟨min n5 n7, by omega⟩
      have p5 : p ≤ n5 := by omega
      have p7 : p ≤ n7 := by omega
      have pe : p = n5 ∨ p = n7 := by omega
      have HP := Lib.hid hp
      have PE := Lib.hid pe
      clear hp pe
      go_wp2_with fail
      rw [HP.out]
      go_loopw [11, 12, 36] (fun last _ i wr => ∃ (k q : Nat) (la : Int), k ≤ p ∧ i = .int .i64 k ∧ last = .int .i64 la ∧ wr = w2.drewN q ∧ forkL (xs.drop k) (ys.drop k) la = forkL xs ys 0) (fun _ _ i _ => p - (intOf i).toNat)
      case atStart => exact ⟨0, 0, 0, by omega, rfl, rfl, rfl, rfl⟩
      case round =>
        obtain ⟨k, q, la, hk, rfl, rfl, rfl, hs⟩ := hrel
        rcases Classical.em (k < p) with hlt | hlt
        · obtain ⟨b1, o1, x, rfl, -, hx, hcx, -, -⟩ := HR1'.out.int (show k < n5 by omega)
          obtain ⟨b2, o2, y, rfl, -, hy, hcy, -, -⟩ := HR2.out.int (show k < n7 by omega)
          rw [drop_cons hx, drop_cons hy, forkL] at hs
          have HS := Lib.hid hs
          have i1 : (0 : Int) ≤ (k : Int) := by omega
          have i2 : (k : Int) < (p : Int) := by omega
          have i3 : (k : Int) < (n5 : Int) := by omega
          have i4 : (k : Int) < (n7 : Int) := by omega
          clear hs hx hy
          by_cases hxy : x = y
          · subst hxy
            go_wp2_with fail
            go_quiet (fail)
            go_wp2_with fail
            go_roundw
            case measure => simp [intOf]; omega
            case rel => exact ⟨k + 1, _, x, by omega, by go_num, rfl, rfl, by simpa using HS.out⟩
          · have q1 : (x == y) = false := by simpa using hxy
            have HS' := Lib.hid (by have := HS.out; rw [if_neg hxy] at this; exact this)
            clear hxy HS
            go_wp2_with fail
            go_quiet (fail)
            go_wp2_with fail
            go_roundw
            case measure => simp [intOf]; omega
            case rel => exact ⟨k + 1, _, la, by omega, by go_num, rfl, rfl, HS'.out⟩
        · obtain rfl : p = k := by omega
          have hs' : la = forkL xs ys 0 := by
            rw [← hs]
            rcases PE.out with h | h
            · rw [show xs.drop p = [] from List.drop_eq_nil_of_le (by rw [L5.out]; omega)]; rfl
            · rw [show ys.drop p = [] from List.drop_eq_nil_of_le (by rw [L7.out]; omega), forkL_nil]
          have HS := Lib.hid hs'
          clear hs hs'
          go_wp2_with fail
          refine bodyPost_ret (v := .tuple #[.int .i64 la, .int .i64 0]) (by simp [results, Try.results37, go_sem]) rfl ?_
          rw [HRR.out, ← HS.out]
          exact ⟨rfl, below_drewN HB2.out _⟩
    · have e : pFork t a b = (0, (pPath t b).2) := by simp only [pFork]; rw [if_neg (by simp [ha]), if_pos hb']
      rw [e]
      have hd : ((pPath t b).2 != 0) = true := by simpa using hb'
      clear e ha hb'
      go_enter Try.func37, Try.ntmps37
      go_wp2_with fail
      refine (HC.out a _ ((Agree.below HB.out).mono hF) (fun b hb => by have := hF b hb; simp; omega)).mono ?_
      rintro e w1 ⟨A5, n5, c5, rfl, hr1, hb1⟩
      rw [HA.out]
      have HB1 := Lib.hid (HB.out.trans (hb1.mono (by simp)))
      have z := blk_below HK.out hb1 (by simp)
      have z0 := blk_cell (i := 0) z
      have z1 := blk_cell (i := 1) z
      clear hb1 hr1 z
      go_wp2_with fail
      refine (HC.out b w1 ((Agree.below HB1.out).mono hF) (fun b hb => by have := hF b hb; have := HB1.out.size; omega)).mono ?_
      rintro e w2 ⟨A7, n7, c7, rfl, hr2, hb2⟩
      have HB2 := Lib.hid (HB1.out.trans (hb2.mono HB1.out.size))
      clear hb2 hr2 z0 z1
      go_wp2_with fail
      refine bodyPost_ret (v := .tuple #[.int .i64 0, .int .i64 (pPath t b).2]) (by simp [results, Try.results37, go_sem]) rfl ?_
      exact ⟨rfl, HB2.out⟩
  · have e : pFork t a b = (0, (pPath t a).2) := by simp only [pFork]; rw [if_pos ha]
    rw [e]
    have hd : ((pPath t a).2 != 0) = true := by simpa using ha
    clear e ha
    go_enter Try.func37, Try.ntmps37
    go_wp2_with fail
    refine (HC.out a _ ((Agree.below HB.out).mono hF) (fun b hb => by have := hF b hb; simp; omega)).mono ?_
    rintro e w1 ⟨A5, n5, c5, rfl, hr1, hb1⟩
    have HB1 := Lib.hid (HB.out.trans (hb1.mono (by simp)))
    clear hb1 hr1
    go_wp2_with fail
    refine bodyPost_ret (v := .tuple #[.int .i64 0, .int .i64 (pPath t a).2]) (by simp [results, Try.results37, go_sem]) rfl ?_
    exact ⟨rfl, HB1.out⟩
end Go.Proofs.Ytnnbnjanekibpaa
namespace Go.Proofs.Ytnnbnjanekibpaa
open Go.RowKit
set_option linter.unusedVariables false
theorem up_fuel {ns : List Int} {bs : List Block} (ok : TreeOK ns bs) (f f' : Nat) (m : Int) (hm : m = 0 ∨ 0 ≤ idx ns m) (h : remN ns m ≤ f) (h' : remN ns m ≤ f') : up ns bs f m = up ns bs f' m := by
  induction f generalizing f' m with
  | zero =>
    have h0 : m = 0 := by
      rcases hm with hm | hm
      · exact hm
      · apply Classical.byContradiction
        intro h0
        unfold remN at h
        rw [if_neg h0] at h
        omega
    cases f' with
    | zero => rfl
    | succ f' => rw [up, up, if_pos h0]
  | succ f ih =>
    by_cases h0 : m = 0
    · cases f' with
      | zero => rw [up, up, if_pos h0]
      | succ f' => rw [up, up, if_pos h0, if_pos h0]
    · have hm' : 0 ≤ idx ns m := by rcases hm with h | h; exact absurd h h0; exact h
      cases f' with
      | zero => unfold remN at h'; rw [if_neg h0] at h'; omega
      | succ f' =>
        have hr := ok.rem h0 hm'
        obtain ⟨_, _, j, _, _, _, hp⟩ := ok.name hm'
        rw [up, up, if_neg h0, if_neg h0, ih f' (parentOf ns bs m) (by rcases hp with h | h; exact .inl h; exact .inr h.2.1) (by omega) (by omega)]
theorem remN_le {ns : List Int} {bs : List Block} (ok : TreeOK ns bs) {m : Int} (hm : m = 0 ∨ 0 ≤ idx ns m) : remN ns m ≤ ns.length := by
  unfold remN
  rcases hm with h | h
  · rw [if_pos h]; omega
  · obtain ⟨_, _, j, hj, he, _⟩ := ok.name h
    split <;> omega
theorem pathL_zero (ns : List Int) (bs : List Block) : pathL ns bs 0 = [] := by
  unfold pathL
  cases ns.length with
  | zero => rfl
  | succ n => rw [up, if_pos rfl]; rfl
theorem pathL_step {ns : List Int} {bs : List Block} (ok : TreeOK ns bs) {m : Int} (hm : 0 ≤ idx ns m) : pathL ns bs m = pathL ns bs (parentOf ns bs m) ++ [m] ∧ (parentOf ns bs m = 0 ∨ 0 ≤ idx ns (parentOf ns bs m)) ∧ remN ns (parentOf ns bs m) < remN ns m := by
  obtain ⟨h1, h2, j, hj, he, _, hp⟩ := ok.name hm
  have h0 : m ≠ 0 := by omega
  have hp' : parentOf ns bs m = 0 ∨ 0 ≤ idx ns (parentOf ns bs m) := by rcases hp with h | h; exact .inl h; exact .inr h.2.1
  have hr := ok.rem h0 hm
  have hle := remN_le ok (m := m) (.inr hm)
  refine ⟨?_, hp', hr⟩
  unfold pathL
  obtain ⟨f, hf⟩ : ∃ f, ns.length = f + 1 := ⟨ns.length - 1, by omega⟩
  rw [up_fuel ok ns.length (f + 1) (parentOf ns bs m) hp' (by omega) (by omega), hf, up_fuel ok (f + 1) f (parentOf ns bs m) hp' (by omega) (by omega), up, if_neg h0, List.reverse_cons]
theorem pathL_take {ns : List Int} {bs : List Block} (ok : TreeOK ns bs) (r : Nat) {m : Int} (hr : remN ns m ≤ r) (hm : m = 0 ∨ 0 ≤ idx ns m) {k : Nat} {v : Int} (h : (pathL ns bs m)[k]? = some v) : (pathL ns bs m).take (k + 1) = pathL ns bs v ∧ 0 ≤ idx ns v := by
  induction r generalizing m with
  | zero =>
    rcases hm with h0 | h0
    · rw [h0, pathL_zero] at h; simp at h
    · have := (pathL_step ok h0).2.2; omega
  | succ r ih =>
    rcases hm with h0 | h0
    · rw [h0, pathL_zero] at h; simp at h
    · obtain ⟨e, hp, hr'⟩ := pathL_step ok h0
      rw [e] at h ⊢
      rcases Nat.lt_or_ge k (pathL ns bs (parentOf ns bs m)).length with hk | hk
      · rw [List.getElem?_append_left hk] at h
        rw [List.take_append_of_le_length (by omega)]
        exact ih (by omega) hp h
      · rw [List.getElem?_append_right hk] at h
        have hk' : k - (pathL ns bs (parentOf ns bs m)).length = 0 := by
          rcases Nat.eq_zero_or_pos (k - (pathL ns bs (parentOf ns bs m)).length) with h' | h'
          · exact h'
          · rw [List.getElem?_eq_none (by simp; omega)] at h; cases h
        rw [hk'] at h
        simp at h
        subst h
        rw [List.take_of_length_le (by simp; omega)]
        exact ⟨e.symm, h0⟩
end Go.Proofs.Ytnnbnjanekibpaa
namespace Go.Proofs.Ytnnbnjanekibpaa
open Go.RowKit
set_option linter.unusedVariables false
attribute [local semireducible] wpAnyT Yl
section
variable {P : Program} {ops : Array Oper} {a : Act} {w : World} {md : Region.Mode} {Q : Exit → Act → World → Prop} {S : World → Prop} {late : List Nat}
theorem lateOn_ne {listed : Array Bool} {i : Nat} (hi : i ∉ late) : lateOn late (listed.setIfInBounds i true) = lateOn late listed := by
  unfold lateOn
  have : ∀ l : List Nat, i ∉ l → (l.any fun s => (listed.setIfInBounds i true).getD s false) = l.any fun s => listed.getD s false := by
    intro l
    induction l with
    | nil => intro _; rfl
    | cons s l ih =>
      intro h
      have h1 : i ≠ s := fun e => h (by simp [e])
      have h2 : i ∉ l := fun e => h (by simp [e])
      simp only [List.any_cons, ih h2, getD_set_ne false h1]
  exact this late hi
theorem wpAnyT_firstP {i : Nat} {oi : Oper} {v : Value} (hi : ops[i]? = some oi) (hsel : ∀ (j : Nat) (o : Oper) cs b, ops[j]? = some o → o.op ≠ .select cs b)
    (hQ : ∀ c a w, Q (.panic c) (a.put oi.dst v) w → Q (.panic c) a w) (hil : i ∉ late) :
    ∀ (fuel : Nat) (listed : Array Bool) (a : Act) (w : World),
      (∀ j oj, ops[j]? = some oj → j ≠ i → listed.getD j true = false → (∀ e ∈ oj.after, Region.binds md e = true → e.on ≠ i) → oi.apart ops oj = true) →
      i ∈ Region.ready md ops listed → YieldsIf P ops (fun _ => True) oi v a → (lateOn late listed = false → S w) →
      wpAnyT P md ops Q S late fuel (listed.setIfInBounds i true) (a.put oi.dst v) w → wpAnyT P md ops Q S late (fuel + 1) listed a w := by
  intro fuel
  induction fuel with
  | zero =>
    intro listed a w _ hr hy hS H
    refine ⟨fun h => (by rw [h] at hr; cases hr), fun j hj => ?_⟩
    by_cases hji : j = i
    · subst hji; exact hy.wpOp hi trivial ⟨fun h => hS (by rwa [lateOn_ne hil] at h), H⟩
    · have := ready_mono hj hji
      rw [H.1] at this
      cases this
  | succ fuel ih =>
    intro listed a w hfree hr hy hS H
    refine ⟨fun h => (by rw [h] at hr; cases hr), fun j hj => ?_⟩
    by_cases hji : j = i
    · subst hji; exact hy.wpOp hi trivial ⟨fun h => hS (by rwa [lateOn_ne hil] at h), H⟩
    · have h1 := H.2 j (ready_mono hj hji)
      obtain ⟨hjun, oj, hoj, hall⟩ := mem_ready.1 hj
      have hnot : ∀ e ∈ oj.after, Region.binds md e = true → e.on ≠ i := fun e he hb heq => by
        have h1 := hall e he hb
        have h0 := (mem_ready.1 hr).1
        rw [heq] at h1
        rcases Nat.lt_or_ge i listed.size with h' | h'
        · simp [h'] at h0 h1; rw [h0] at h1; cases h1
        · simp [Array.getElem?_eq_none h'] at h1
      have h2 := wpOp_putIf hoj (hfree j oj hoj hji hjun hnot) (fun cs b => hsel i oi cs b hi) (fun cs b => hsel j oj cs b hoj) hQ hy h1
      have hfree' : ∀ k ok, ops[k]? = some ok → k ≠ i → (listed.setIfInBounds j true).getD k true = false →
          (∀ e ∈ ok.after, Region.binds md e = true → e.on ≠ i) → oi.apart ops ok = true := fun k ok hk hki hun hno => by
        refine hfree k ok hk hki ?_ hno
        by_cases hjk : j = k
        · subst hjk; exact hjun
        · rw [getD_set_ne true hjk] at hun; exact hun
      have e1 : lateOn late ((listed.setIfInBounds i true).setIfInBounds j true) = lateOn late (listed.setIfInBounds j true) := by
        rw [Array.setIfInBounds_comm _ _ (Ne.symm hji), lateOn_ne hil]
      refine wpOp_mono (fun a' w' h3 => ⟨fun h => h3.2.1 (by rw [e1]; exact h), ih (listed.setIfInBounds j true) a' w' hfree' (ready_mono hr (Ne.symm hji)) h3.1 (fun h => h3.2.1 (by rw [e1]; exact h)) ?_⟩) h2
      rw [Array.setIfInBounds_comm _ _ hji]
      exact h3.2.2
def Yp (P : Program) (o : Oper) (a : Act) (v : Value) : Prop := ∀ W, (execOp a.eval o).run P W = .ok (.value v) W
theorem Yp.mk {o : Oper} {v : Value} (h : ∀ W, (execOp a.eval o).run P W = .ok (.value v) W) : Yp P o a v := h
theorem Yp.move {o : Oper} {x : Operand} (ho : o.op = .move x) : Yp P o a (a.eval x) := fun W => by unfold execOp; simp only [ho]; rfl
theorem Yp.assign {o : Oper} {x : Operand} (ho : o.op = .assign x) : Yp P o a (a.eval x) := fun W => by unfold execOp; simp only [ho]; rfl
theorem takeP {l : List Oper} (i : Nat) {oi : Oper} {v : Value} {fuel : Nat} {listed : Array Bool} (hi : l[i]? = some oi) (hw : Region.wanted oi (yielded l.toArray a.tmps) = true) (hy : Yp P oi a v)
    (hS : lateOn late listed = false → S w)
    (hs : (Region.noSelect l.toArray && Region.free md l.toArray listed i && (Region.ready md l.toArray listed).contains i && !late.contains i) = true)
    (hQ : ∀ c a w, Q (.panic c) (a.put oi.dst v) w → Q (.panic c) a w)
    (k : wpAnyT P md l.toArray Q S late fuel (listed.setIfInBounds i true) (a.put oi.dst v) w) : wpAnyT P md l.toArray Q S late (fuel + 1) listed a w := by
  simp only [Bool.and_eq_true, Bool.not_eq_true'] at hs
  obtain ⟨⟨⟨h1, h2⟩, h3⟩, h4⟩ := hs
  have hi' : l.toArray[i]? = some oi := by simpa using hi
  exact wpAnyT_firstP hi' (Region.noSelect_spec h1) hQ (by simpa using h4) fuel listed a w (Region.free_spec hi' h2) (by simpa using h3) (.inl ⟨hw, fun W _ => hy W⟩) hS k
end
attribute [irreducible] Yp
end Go.Proofs.Ytnnbnjanekibpaa
namespace Go.Proofs.Ytnnbnjanekibpaa
open Go.RowKit
set_option linter.unusedVariables false
attribute [local semireducible] fact rds rep cells box row At Put Del Sub
section
variable {P : Program} {w0 W : World} {F0 : Nat → Prop} {Γ Γ' Γ1 : List Res}
variable {ops : Array Oper} {Q : Exit → Act → World → Prop} {a : Act} {rest : List Oper} {o : Oper} {t : TypeId} {x y : Operand}
end
end Go.Proofs.Ytnnbnjanekibpaa
