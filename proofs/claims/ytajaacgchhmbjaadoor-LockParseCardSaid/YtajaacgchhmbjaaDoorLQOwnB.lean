/- Own texts, put together by wip/bundle.py: Base, Data, Own, Clones, Mk, Sep, Slices, Slices2, Book, Book2, Lock, Coin, Tx, Block, Opens. -/
import Derived.WalkKit
import Derived.WalkLawsBesides
import Derived.BigQuiet
import Derived.Deep.QuietTactic
import Derived.Deep.DeepFit
import Derived.Deep.LoopGhost
import Derived.Lib.Hide
import Derived.Test.YtajaacgchhmbjaaDoorProg
import Derived.Maps.AppendAt
import Derived.Lib.SliceRun
import Derived.Deep.MidRow
import Derived.Great.BuildSlice
import Derived.OwnWalk
import Derived.BigFrame
import Derived.Maps.OwnOps
import Derived.Maps.Views
import Derived.ProofKit
import Derived.Deep.Slices
namespace Go.Proofs.YtajaacgchhmbjaaDoor
open Go.RowKit
set_option linter.unusedVariables false
theorem ret_int {k : IntKind} {a b : Int} (h : a = b) : Ending.returned (.int k a) = .returned (.int k b) := by rw [h]
theorem ret_bool {a b : Bool} (h : a = b) : Ending.returned (.bool a) = .returned (.bool b) := by rw [h]
def Lt (B : Nat) : Nat → Prop := fun b => b < B
def Agree (F : Nat → Prop) (w w' : World) : Prop := ∀ b, F b → w'.heap[b]? = w.heap[b]?
theorem Agree.cell {F : Nat → Prop} {w w' : World} (h : Agree F w w') {p : Addr} (hp : F p.block) : w'.cell? p = w.cell? p := World.cell?_of_block (w := w) (h p.block hp)
theorem Agree.below {B : Nat} {w w' : World} (h : Below B w w') : Agree (Lt B) w w' := fun b hb => h.block b hb
theorem Agree.mono {F F' : Nat → Prop} {w w' : World} (h : Agree F w w') (hF : ∀ b, F' b → F b) : Agree F' w w' := fun b hb => h b (hF b hb)
theorem Agree.trans {F : Nat → Prop} {w w' w'' : World} (h : Agree F w w') (h' : Agree F w' w'') : Agree F w w'' := fun b hb => (h' b hb).trans (h b hb)
structure Sh (α : Type) where
  size : Nat
  rep : World → (Nat → Prop) → α → List Value → Prop
  len : ∀ {w F x cs}, rep w F x cs → cs.length = size
  keep : ∀ {w w' : World} {F x cs}, Agree F w w' → rep w F x cs → rep w' F x cs
  more : ∀ {w F F' x cs}, (∀ b, F b → F' b) → rep w F x cs → rep w F' x cs
def Rds {α : Type} (S : Sh α) (w : World) (F : Nat → Prop) (xs : List α) (A : Option Addr) (n c : Nat) : Prop :=
  xs.length = n ∧ n ≤ c ∧ c ≤ 9223372036854775807 ∧ (0 < n → ∃ b off, A = some ⟨b, off, none⟩ ∧ F b ∧
    ∀ i (hi : i < xs.length), ∃ cs, S.rep w F xs[i] cs ∧ ∀ j v, cs[j]? = some v → w.cell? ⟨b, off + i * S.size + j, none⟩ = some v)
theorem Rds.keep {α : Type} {S : Sh α} {w w' : World} {F : Nat → Prop} {xs : List α} {A : Option Addr} {n c : Nat} (ha : Agree F w w') (h : Rds S w F xs A n c) : Rds S w' F xs A n c :=
  ⟨h.1, h.2.1, h.2.2.1, fun hn => by
    obtain ⟨b, off, e, hF, hc⟩ := h.2.2.2 hn
    refine ⟨b, off, e, hF, fun i hi => ?_⟩
    obtain ⟨cs, hr, hv⟩ := hc i hi
    exact ⟨cs, S.keep ha hr, fun j v hj => (ha.cell (p := ⟨b, _, none⟩) hF).trans (hv j v hj)⟩⟩
theorem Rds.more {α : Type} {S : Sh α} {w : World} {F F' : Nat → Prop} {xs : List α} {A : Option Addr} {n c : Nat} (hF' : ∀ b, F b → F' b) (h : Rds S w F xs A n c) : Rds S w F' xs A n c :=
  ⟨h.1, h.2.1, h.2.2.1, fun hn => by
    obtain ⟨b, off, e, hF, hc⟩ := h.2.2.2 hn
    refine ⟨b, off, e, hF' b hF, fun i hi => ?_⟩
    obtain ⟨cs, hr, hv⟩ := hc i hi
    exact ⟨cs, S.more hF' hr, hv⟩⟩
theorem Rds.take {α : Type} {S : Sh α} {w : World} {F : Nat → Prop} {xs : List α} {A : Option Addr} {n c k : Nat} (h : Rds S w F xs A n c) (hk : k ≤ n) : Rds S w F (xs.take k) A k c := by
  obtain ⟨h1, h2, h3, h4⟩ := h
  refine ⟨by rw [List.length_take, h1]; omega, by omega, h3, fun hn => ?_⟩
  obtain ⟨b, off, e, hF, hc⟩ := h4 (by omega)
  refine ⟨b, off, e, hF, fun i hi => ?_⟩
  rw [List.length_take] at hi
  obtain ⟨cs, hr, hv⟩ := hc i (by omega)
  exact ⟨cs, by rw [List.getElem_take]; exact hr, hv⟩
theorem Rds.nil {α : Type} (S : Sh α) (w : World) (F : Nat → Prop) : Rds S w F [] none 0 0 := ⟨rfl, by omega, by omega, fun h => by omega⟩
theorem Rds.at_ {α : Type} {S : Sh α} {w : World} {F : Nat → Prop} {xs : List α} {A : Option Addr} {n c k : Nat} (h : Rds S w F xs A n c) (hk : k < n) :
    ∃ b off x cs, A = some ⟨b, off, none⟩ ∧ F b ∧ xs[k]? = some x ∧ S.rep w F x cs ∧ ∀ j v, cs[j]? = some v → w.cell? ⟨b, off + k * S.size + j, none⟩ = some v := by
  obtain ⟨b, off, e, hF, hc⟩ := h.2.2.2 (by omega)
  have hl : k < xs.length := by have := h.1; omega
  obtain ⟨cs, hr, hv⟩ := hc k hl
  exact ⟨b, off, xs[k], cs, e, hF, List.getElem?_eq_getElem hl, hr, hv⟩
def shSlice {α : Type} (S : Sh α) : Sh (List α) := {
  size := 1
  rep w F xs cs := ∃ A n c, cs = [.slice A n c] ∧ Rds S w F xs A n c
  len := by rintro w F x cs ⟨A, n, c, rfl, _⟩; rfl
  keep := by rintro w w' F x cs ha ⟨A, n, c, rfl, h⟩; exact ⟨A, n, c, rfl, h.keep ha⟩
  more := by rintro w F F' x cs hF ⟨A, n, c, rfl, h⟩; exact ⟨A, n, c, rfl, h.more hF⟩ }
def I64 (n : Int) : Prop := -9223372036854775808 ≤ n ∧ n ≤ 9223372036854775807
def shInt : Sh Int := {
  size := 1
  rep _ _ n cs := cs = [.int .i64 n] ∧ -9223372036854775808 ≤ n ∧ n ≤ 9223372036854775807
  len := by rintro w F x cs ⟨rfl, _⟩; rfl
  keep := fun _ h => h
  more := fun _ h => h }
def shBool : Sh Bool := {
  size := 1
  rep _ _ b cs := cs = [.bool b]
  len := by rintro w F x cs rfl; rfl
  keep := fun _ h => h
  more := fun _ h => h }
def shStr : Sh (List UInt8) := {
  size := 1
  rep _ _ s cs := cs = [.string ⟨s.toArray⟩] ∧ s.length ≤ 9223372036854775807
  len := by rintro w F x cs ⟨rfl, _⟩; rfl
  keep := fun _ h => h
  more := fun _ h => h }
theorem Rds.int {w : World} {F : Nat → Prop} {xs : List Int} {A : Option Addr} {n c k : Nat} (h : Rds shInt w F xs A n c) (hk : k < n) :
    ∃ b off x, A = some ⟨b, off, none⟩ ∧ F b ∧ xs[k]? = some x ∧ w.cell? ⟨b, off + k, none⟩ = some (.int .i64 x) ∧ -9223372036854775808 ≤ x ∧ x ≤ 9223372036854775807 := by
  obtain ⟨b, off, x, cs, e, hF, hx, ⟨rfl, h1, h2⟩, hc⟩ := h.at_ hk
  exact ⟨b, off, x, e, hF, hx, by simpa [shInt] using hc 0 _ rfl, h1, h2⟩
theorem Rds.str {w : World} {F : Nat → Prop} {xs : List (List UInt8)} {A : Option Addr} {n c k : Nat} (h : Rds shStr w F xs A n c) (hk : k < n) :
    ∃ b off x, A = some ⟨b, off, none⟩ ∧ F b ∧ xs[k]? = some x ∧ w.cell? ⟨b, off + k, none⟩ = some (.string ⟨x.toArray⟩) ∧ x.length ≤ 9223372036854775807 := by
  obtain ⟨b, off, x, cs, e, hF, hx, ⟨rfl, h1⟩, hc⟩ := h.at_ hk
  exact ⟨b, off, x, e, hF, hx, by simpa [shStr] using hc 0 _ rfl, h1⟩
theorem below_drewN {B : Nat} {a w : World} (h : Below B a w) (n : Nat) : Below B a (w.drewN n) := ⟨h.os, h.tape, h.output, h.size, h.block⟩
theorem drop_cons {α : Type} {l : List α} {k : Nat} {x : α} (h : l[k]? = some x) : l.drop k = x :: l.drop (k + 1) := by
  obtain ⟨hk, e⟩ := List.getElem?_eq_some_iff.1 h
  rw [List.drop_eq_getElem_cons hk, e]
theorem take_snoc {α : Type} {l : List α} {k : Nat} {x : α} (h : l[k]? = some x) : l.take (k + 1) = l.take k ++ [x] := by
  rw [List.take_add_one, h]; rfl
end Go.Proofs.YtajaacgchhmbjaaDoor
namespace Go.Proofs.YtajaacgchhmbjaaDoor
open Go.RowKit
set_option linter.unusedVariables false
def shS2 {α β τ : Type} (S0 : Sh α) (S1 : Sh β) (f : α → β → τ) : Sh τ := {
  size := S0.size + S1.size
  rep w F x cs := ∃ a b ca cb, x = f a b ∧ cs = ca ++ cb ∧ S0.rep w F a ca ∧ S1.rep w F b cb
  len := by rintro w F x cs ⟨a, b, ca, cb, rfl, rfl, ha, hb⟩; simp [S0.len ha, S1.len hb]
  keep := by rintro w w' F x cs hk ⟨a, b, ca, cb, e, e', ha, hb⟩; exact ⟨a, b, ca, cb, e, e', S0.keep hk ha, S1.keep hk hb⟩
  more := by rintro w F F' x cs hk ⟨a, b, ca, cb, e, e', ha, hb⟩; exact ⟨a, b, ca, cb, e, e', S0.more hk ha, S1.more hk hb⟩ }
def shS1 {α τ : Type} (S0 : Sh α) (f : α → τ) : Sh τ := {
  size := S0.size
  rep w F x cs := ∃ a, x = f a ∧ S0.rep w F a cs
  len := by rintro w F x cs ⟨a, rfl, ha⟩; exact S0.len ha
  keep := by rintro w w' F x cs hk ⟨a, e, ha⟩; exact ⟨a, e, S0.keep hk ha⟩
  more := by rintro w F F' x cs hk ⟨a, e, ha⟩; exact ⟨a, e, S0.more hk ha⟩ }
def shS3 {α β γ τ : Type} (S0 : Sh α) (S1 : Sh β) (S2 : Sh γ) (f : α → β → γ → τ) : Sh τ := shS2 S0 (shS2 S1 S2 Prod.mk) (fun a p => f a p.1 p.2)
def shS4 {α β γ δ τ : Type} (S0 : Sh α) (S1 : Sh β) (S2 : Sh γ) (S3 : Sh δ) (f : α → β → γ → δ → τ) : Sh τ := shS2 S0 (shS3 S1 S2 S3 fun a b c => (a, b, c)) (fun a p => f a p.1 p.2.1 p.2.2)
def shS5 {α β γ δ ε τ : Type} (S0 : Sh α) (S1 : Sh β) (S2 : Sh γ) (S3 : Sh δ) (S4 : Sh ε) (f : α → β → γ → δ → ε → τ) : Sh τ := shS2 S0 (shS4 S1 S2 S3 S4 fun a b c d => (a, b, c, d)) (fun a p => f a p.1 p.2.1 p.2.2.1 p.2.2.2)
structure Op where (kind n : Int) deriving DecidableEq, Repr
structure Point where (tx at_ : Int) deriving DecidableEq, Repr
structure In where (p : Point) (key : List Op) deriving DecidableEq, Repr
structure Out where (coin : Int) (lock : List Op) deriving DecidableEq, Repr
structure Tx where (height : Int) (ins : List In) (outs : List Out) deriving DecidableEq, Repr
structure Book where (texts : List (List UInt8)) deriving DecidableEq, Repr
structure Coin where (p : Point) (o : Out) (height : Int) (reward : Bool) deriving DecidableEq, Repr
structure Undo where (spent : List Coin) deriving DecidableEq, Repr
structure Block where (parent height work nonce : Int) (txs : List Tx) deriving DecidableEq, Repr
structure Tree where (names : List Int) (blocks : List Block) deriving DecidableEq, Repr
structure Message where (kind src to name : Int) (b : Block) (t : Tx) deriving DecidableEq, Repr
structure Node where (t : Tree) (pool : List Tx) (tip : Int) deriving DecidableEq, Repr
structure Wld where (book : Book) (nodes : List Node) (net : List Message) deriving DecidableEq, Repr
structure Happening where (kind node to k work n : Int) (t : Tx) deriving DecidableEq, Repr
def shOp : Sh Op := shS2 shInt shInt Op.mk
def shPoint : Sh Point := shS2 shInt shInt Point.mk
def shIn : Sh In := shS2 shPoint (shSlice shOp) In.mk
def shOut : Sh Out := shS2 shInt (shSlice shOp) Out.mk
def shTx : Sh Tx := shS3 shInt (shSlice shIn) (shSlice shOut) Tx.mk
def shBook : Sh Book := shS1 (shSlice shStr) Book.mk
def shCoin : Sh Coin := shS4 shPoint shOut shInt shBool Coin.mk
def shUndo : Sh Undo := shS1 (shSlice shCoin) Undo.mk
def shBlock : Sh Block := shS5 shInt shInt shInt shInt (shSlice shTx) Block.mk
theorem rep_op {w : World} {F : Nat → Prop} {x : Op} {cs : List Value} (h : shOp.rep w F x cs) :
    cs = [.int .i64 x.kind, .int .i64 x.n] ∧ I64 x.kind ∧ I64 x.n := by
  obtain ⟨a, b, ca, cb, rfl, rfl, ⟨rfl, h1⟩, rfl, h2⟩ := h
  exact ⟨rfl, h1, h2⟩
theorem rep_tx {w : World} {F : Nat → Prop} {x : Tx} {cs : List Value} (h : shTx.rep w F x cs) :
    ∃ A n c A' n' c', cs = [.int .i64 x.height, .slice A n c, .slice A' n' c'] ∧ I64 x.height ∧ Rds shIn w F x.ins A n c ∧ Rds shOut w F x.outs A' n' c' := by
  obtain ⟨a, b, ca, cb, rfl, rfl, ⟨rfl, h1⟩, a1, b1, ca1, cb1, rfl, rfl, ⟨A, n, c, rfl, hr⟩, A', n', c', rfl, hr'⟩ := h
  exact ⟨A, n, c, A', n', c', rfl, h1, hr, hr'⟩
end Go.Proofs.YtajaacgchhmbjaaDoor
namespace Go.Proofs.YtajaacgchhmbjaaDoor
open Go.RowKit
set_option linter.unusedVariables false
def flat {α : Type} (zs : List (α × List Value)) : List Value := (zs.map (·.2)).flatten
theorem flat_cons {α : Type} (z : α × List Value) (zs : List (α × List Value)) : flat (z :: zs) = z.2 ++ flat zs := by simp [flat]
theorem flat_append {α : Type} (zs ys : List (α × List Value)) : flat (zs ++ ys) = flat zs ++ flat ys := by simp [flat]
theorem flat_length {α : Type} {s : Nat} {zs : List (α × List Value)} (h : ∀ z ∈ zs, z.2.length = s) : (flat zs).length = zs.length * s := by
  induction zs with
  | nil => simp [flat]
  | cons z zs ih =>
    rw [flat_cons, List.length_append, ih (fun y hy => h y (by simp [hy])), h z (by simp), List.length_cons, Nat.succ_mul]
    omega
theorem Rds.pairs {α : Type} {S : Sh α} {w : World} {F : Nat → Prop} {xs : List α} {A : Option Addr} {n c : Nat} (h : Rds S w F xs A n c) :
    ∃ zs : List (α × List Value), zs.map (·.1) = xs ∧ (∀ z ∈ zs, S.rep w F z.1 z.2) ∧ (0 < n → ∃ b off, A = some ⟨b, off, none⟩ ∧ F b ∧ ∀ j v, (flat zs)[j]? = some v → w.cell? ⟨b, off + j, none⟩ = some v) := by
  obtain ⟨h1, h2, h3, h4⟩ := h
  rcases Nat.eq_zero_or_pos n with h0 | h0
  · have : xs = [] := List.eq_nil_of_length_eq_zero (by omega)
    subst this
    exact ⟨[], rfl, by simp, fun h => by omega⟩
  · obtain ⟨b, off, e, hF, hc⟩ := h4 h0
    have key : ∀ m, m ≤ xs.length → ∃ zs : List (α × List Value), zs.map (·.1) = xs.take m ∧ (∀ z ∈ zs, S.rep w F z.1 z.2) ∧ ∀ j v, (flat zs)[j]? = some v → w.cell? ⟨b, off + j, none⟩ = some v := by
      intro m
      induction m with
      | zero => intro _; exact ⟨[], by simp, by simp, by simp [flat]⟩
      | succ m ih =>
        intro hm
        obtain ⟨zs, z1, z2, z3⟩ := ih (by omega)
        obtain ⟨cs, hr, hv⟩ := hc m (by omega)
        have hl : ∀ z ∈ zs, z.2.length = S.size := fun z hz => S.len (z2 z hz)
        have hzl : zs.length = m := by have := congrArg List.length z1; simp at this; omega
        refine ⟨zs ++ [(xs[m], cs)], ?_, ?_, ?_⟩
        · rw [take_snoc (List.getElem?_eq_getElem (by omega)), List.map_append, z1]; rfl
        · intro z hz
          rcases List.mem_append.1 hz with h | h
          · exact z2 z h
          · simp at h; subst h; exact hr
        · intro j v hj
          rw [flat_append] at hj
          by_cases hjl : j < (flat zs).length
          · rw [List.getElem?_append_left hjl] at hj; exact z3 j v hj
          · rw [List.getElem?_append_right (by omega)] at hj
            have e2 : flat [(xs[m], cs)] = cs := by simp [flat]
            rw [e2] at hj
            have := hv _ v hj
            rw [flat_length hl, hzl] at hjl this
            rw [show off + m * S.size + (j - m * S.size) = off + j by omega] at this
            exact this
    obtain ⟨zs, z1, z2, z3⟩ := key xs.length (Nat.le_refl _)
    exact ⟨zs, by rw [z1, List.take_length], z2, fun _ => ⟨b, off, e, hF, z3⟩⟩
theorem blk_lt {w : World} {g : Nat} {x : Obj} (h : w.heap[g]? = some x) : g < w.heap.size := by
  rcases Nat.lt_or_ge g w.heap.size with h' | h'
  · exact h'
  · rw [Array.getElem?_eq_none h'] at h; cases h
theorem blk_set {w : World} {g i t : Nat} {cs : Array Value} {u : Value} (h : w.heap[g]? = some (.cells cs t (0, 0))) : (w.setCell ⟨g, i, none⟩ u).heap[g]? = some (.cells (cs.setIfInBounds i u) t (0, 0)) := by simp [World.setCell, Array.getElem?_modify, h]
def Ones (cs : List Value) : Prop := ∀ u ∈ cs, u.oneCell' = true
end Go.Proofs.YtajaacgchhmbjaaDoor
namespace Go.Proofs.YtajaacgchhmbjaaDoor
open Go.RowKit
set_option linter.unusedVariables false
set_option maxRecDepth 100000
end Go.Proofs.YtajaacgchhmbjaaDoor
namespace Go.Proofs.YtajaacgchhmbjaaDoor
open Go.RowKit
set_option linter.unusedVariables false
end Go.Proofs.YtajaacgchhmbjaaDoor
namespace Go.Proofs.YtajaacgchhmbjaaDoor
open Go.RowKit
set_option linter.unusedVariables false
structure Stop (p : Prop) : Prop where
  go : p
structure Res where
  block : Option Nat
  holds : Nat → (Nat → Prop) → World → Prop
  keep : ∀ {h0 : Nat} {F F' : Nat → Prop} {W W' : World}, Agree F W W' → (∀ b, F b → F' b) → (∀ g, block = some g → W'.heap[g]? = W.heap[g]?) → holds h0 F W → holds h0 F' W'
  lt : ∀ {h0 : Nat} {F : Nat → Prop} {W : World} {g : Nat}, holds h0 F W → block = some g → h0 ≤ g ∧ g < W.heap.size
def fact (p : World → (Nat → Prop) → Prop) (k : ∀ {W W' : World} {F F' : Nat → Prop}, Agree F W W' → (∀ b, F b → F' b) → p W F → p W' F') : Res := {
  block := none
  holds _ F W := p W F
  keep := fun ha hF _ h => k ha hF h
  lt := fun _ h => by cases h }
def rds {α : Type} (xs : List α) (A : Option Addr) (n c : Nat) (S : Sh α) : Res := fact (fun W F => Rds S W F xs A n c) fun ha hF h => (h.keep ha).more hF
def rep {α : Type} (x : α) (cs : List Value) (S : Sh α) : Res := fact (fun W F => S.rep W F x cs) fun ha hF h => S.more hF (S.keep ha h)
def cells (b o : Nat) (cs : List Value) : Res := fact (fun W F => F b ∧ W.rangeAt b o cs) fun ha hF h => ⟨hF _ h.1, fun j v hj => (ha.cell (p := ⟨b, o + j, none⟩) h.1).trans (h.2 j v hj)⟩
def box (g : Nat) (cs : List Value) (t : Nat) : Res := {
  block := some g
  holds h0 _ W := h0 ≤ g ∧ W.heap[g]? = some (.cells cs.toArray t (0, 0))
  keep := fun _ _ hb h => ⟨h.1, (hb g rfl).trans h.2⟩
  lt := fun h e => by injection e with e; subst e; exact ⟨h.1, blk_lt h.2⟩ }
theorem ownsRow_same {w w' : World} {base e size n : Nat} {v : Value} {xs : List Value} (h : w.ownsRow base e size v n xs) (hb : ∀ g, v.ownBlock = some g → w'.heap[g]? = w.heap[g]?) : w'.ownsRow base e size v n xs := by
  refine ⟨h.1, ?_⟩
  rcases h.2 with h0 | ⟨g, cap, cur, hv, hg, hh, r⟩
  · exact .inl h0
  · exact .inr ⟨g, cap, cur, hv, hg, by rw [hb g (by rw [hv]; rfl)]; exact hh, r⟩
def row {α : Type} (e : Nat) (v : Value) (xs : List α) (S : Sh α) : Res := {
  block := v.ownBlock
  holds h0 F W := ∃ zs : List (α × List Value), zs.map (·.1) = xs ∧ W.ownsRow h0 e S.size v xs.length (flat zs) ∧ ∀ z ∈ zs, S.rep W F z.1 z.2
  keep := fun ha hF hb ⟨zs, h1, h2, h3⟩ => ⟨zs, h1, ownsRow_same h2 hb, fun z hz => S.more hF (S.keep ha (h3 z hz))⟩
  lt := fun ⟨_, _, h2, _⟩ e => h2.lt _ e }
def Free (h0 : Nat) (F0 : Nat → Prop) (Γ : List Res) (W : World) (b : Nat) : Prop := (F0 b ∨ (h0 ≤ b ∧ b < W.heap.size)) ∧ ∀ r ∈ Γ, r.block ≠ some b
def All (h0 : Nat) (F0 : Nat → Prop) (W : World) (b : Nat) : Prop := F0 b ∨ (h0 ≤ b ∧ b < W.heap.size)
structure Sep (w0 : World) (F0 : Nat → Prop) (Γ : List Res) (W : World) : Prop where
  below : Below w0.heap.size w0 W
  low : ∀ b, F0 b → b < w0.heap.size
  all : ∀ r ∈ Γ, r.holds w0.heap.size (Free w0.heap.size F0 Γ W) W
  dj : Γ.Pairwise fun r r' => ∀ g, r.block = some g → r'.block ≠ some g
def At (Γ : List Res) (r : Res) : Prop := r ∈ Γ
theorem At.z {Γ : List Res} {r : Res} : At (r :: Γ) r := List.mem_cons_self ..
theorem At.s {Γ : List Res} {r q : Res} (h : At Γ r) : At (q :: Γ) r := List.mem_cons_of_mem _ h
def Put (Γ : List Res) (r r' : Res) (Γ' : List Res) : Prop := ∃ l1 l2, Γ = l1 ++ r :: l2 ∧ Γ' = l1 ++ r' :: l2
theorem Put.z {Γ : List Res} {r r' : Res} : Put (r :: Γ) r r' (r' :: Γ) := ⟨[], Γ, rfl, rfl⟩
theorem Put.s {Γ Γ' : List Res} {r r' q : Res} (h : Put Γ r r' Γ') : Put (q :: Γ) r r' (q :: Γ') := by
  obtain ⟨l1, l2, rfl, rfl⟩ := h
  exact ⟨q :: l1, l2, rfl, rfl⟩
def Del (Γ : List Res) (r : Res) (Γ' : List Res) : Prop := ∃ l1 l2, Γ = l1 ++ r :: l2 ∧ Γ' = l1 ++ l2
theorem Del.z {Γ : List Res} {r : Res} : Del (r :: Γ) r Γ := ⟨[], Γ, rfl, rfl⟩
theorem Del.s {Γ Γ' : List Res} {r q : Res} (h : Del Γ r Γ') : Del (q :: Γ) r (q :: Γ') := by
  obtain ⟨l1, l2, rfl, rfl⟩ := h
  exact ⟨q :: l1, l2, rfl, rfl⟩
theorem Put.at_ {Γ Γ' : List Res} {r r' : Res} (h : Put Γ r r' Γ') : At Γ r := by
  obtain ⟨l1, l2, rfl, rfl⟩ := h
  simp [At]
def Sub (Γ' Γ : List Res) : Prop := ∃ l, Γ.Perm (Γ' ++ l)
theorem Sub.nil {Γ : List Res} : Sub [] Γ := ⟨Γ, by simp⟩
theorem Sub.refl {Γ : List Res} : Sub Γ Γ := ⟨[], by simp⟩
theorem Sub.skip {Γ Γ' : List Res} {r : Res} (h : Sub Γ' Γ) : Sub Γ' (r :: Γ) := by
  obtain ⟨l, hl⟩ := h
  exact ⟨r :: l, (hl.cons r).trans List.perm_middle.symm⟩
theorem Sub.take {Γ Γ1 Γ' : List Res} {r : Res} (hd : Del Γ r Γ1) (h : Sub Γ' Γ1) : Sub (r :: Γ') Γ := by
  obtain ⟨l1, l2, rfl, rfl⟩ := hd
  obtain ⟨l, hl⟩ := h
  exact ⟨l, List.perm_middle.trans (hl.cons r)⟩
section
variable {w0 W W' : World} {F0 : Nat → Prop} {Γ Γ' : List Res}
theorem Sep.size (h : Sep w0 F0 Γ W) : w0.heap.size ≤ W.heap.size := h.below.size
theorem Free.lt (h : Sep w0 F0 Γ W) {b : Nat} (hb : Free w0.heap.size F0 Γ W b) : b < W.heap.size := by
  rcases hb.1 with h1 | h1
  · exact Nat.lt_of_lt_of_le (h.low b h1) h.size
  · exact h1.2
theorem Free.all {h0 : Nat} {b : Nat} (hb : Free h0 F0 Γ W b) : All h0 F0 W b := hb.1
theorem All.lt (h : Sep w0 F0 Γ W) {b : Nat} (hb : All w0.heap.size F0 W b) : b < W.heap.size := by
  rcases hb with h1 | h1
  · exact Nat.lt_of_lt_of_le (h.low b h1) h.size
  · exact h1.2
theorem Sep.get (h : Sep w0 F0 Γ W) {r : Res} (hr : At Γ r) : r.holds w0.heap.size (Free w0.heap.size F0 Γ W) W := h.all r hr
theorem Sep.out (h : Sep w0 F0 Γ W) {r : Res} (hr : At Γ r) : r.holds w0.heap.size (All w0.heap.size F0 W) W := r.keep (fun _ _ => rfl) (fun b hb => hb.1) (fun _ _ => rfl) (h.all r hr)
theorem Sep.sub (h : Sep w0 F0 Γ W) (hs : Sub Γ' Γ) : Sep w0 F0 Γ' W := by
  obtain ⟨l, hl⟩ := hs
  have hm : ∀ r ∈ Γ', r ∈ Γ := fun r hr => hl.mem_iff.2 (List.mem_append_left _ hr)
  refine ⟨h.below, h.low, fun r hr => r.keep (fun _ _ => rfl) (fun b hb => ⟨hb.1, fun q hq => hb.2 q (hm q hq)⟩) (fun _ _ => rfl) (h.all r (hm r hr)), ?_⟩
  have hp := (hl.pairwise_iff (R := fun r r' : Res => ∀ g, r.block = some g → r'.block ≠ some g) (fun hab g hb ha => hab g ha hb)).1 h.dj
  exact (List.pairwise_append.1 hp).1
theorem Sep.grow (h : Sep w0 F0 Γ W) (hg : W.grownBy W' none) {r : Res} (hr : r.holds w0.heap.size (Free w0.heap.size F0 (r :: Γ) W') W') (hb : ∀ g, r.block = some g → W.heap.size ≤ g) : Sep w0 F0 (r :: Γ) W' := by
  have hsz := h.size
  have hfree : ∀ b, Free w0.heap.size F0 Γ W b → Free w0.heap.size F0 (r :: Γ) W' b := by
    intro b hb'
    have hlt := Free.lt h hb'
    refine ⟨hb'.1.imp (fun x => x) (fun x => ⟨x.1, Nat.lt_of_lt_of_le x.2 hg.size⟩), fun q hq => ?_⟩
    rcases List.mem_cons.1 hq with rfl | hq
    · intro e
      have := hb b e
      omega
    · exact hb'.2 q hq
  refine ⟨h.below.grown hg hsz (fun k hk => by cases hk), h.low, ?_, ?_⟩
  · intro q hq
    rcases List.mem_cons.1 hq with rfl | hq
    · exact hr
    · exact q.keep (fun b hb' => hg.block b (Free.lt h hb') (by simp)) hfree (fun g hg' => hg.block g (q.lt (h.all q hq) hg').2 (by simp)) (h.all q hq)
  · refine List.pairwise_cons.2 ⟨fun q hq g h1 h2 => ?_, h.dj⟩
    have h3 := hb g h1
    have h4 := (q.lt (h.all q hq) h2).2
    omega
theorem Sep.more (h : Sep w0 F0 Γ W) (hg : W.grownBy W' none) : Sep w0 F0 Γ W' := by
  have hfree : ∀ b, Free w0.heap.size F0 Γ W b → Free w0.heap.size F0 Γ W' b := fun b hb' =>
    ⟨hb'.1.imp (fun x => x) (fun x => ⟨x.1, Nat.lt_of_lt_of_le x.2 hg.size⟩), hb'.2⟩
  exact ⟨h.below.grown hg h.size (fun k hk => by cases hk), h.low, fun q hq => q.keep (fun b hb' => hg.block b (Free.lt h hb') (by simp)) hfree (fun g hg' => hg.block g (q.lt (h.all q hq) hg').2 (by simp)) (h.all q hq), h.dj⟩
theorem grown_of_below {W W' : World} {row : Option Nat} (h : Below W.heap.size W W') : W.grownBy W' row := ⟨h.os, h.tape, h.output, h.size, fun k hk _ => h.block k hk⟩
theorem Sep.belows (h : Sep w0 F0 Γ W) (hb : Below W.heap.size W W') : Sep w0 F0 Γ W' := h.more (grown_of_below hb)
theorem Sep.drew (h : Sep w0 F0 Γ W) : Sep w0 F0 Γ W.drew := h.belows (Below.refl _ _).drew
theorem Sep.drewN (h : Sep w0 F0 Γ W) (n : Nat) : Sep w0 F0 Γ (W.drewN n) := h.belows (below_drewN (Below.refl _ _) n)
theorem Sep.add (h : Sep w0 F0 Γ W) {r : Res} (hn : r.block = none) (hr : r.holds w0.heap.size (Free w0.heap.size F0 Γ W) W) : Sep w0 F0 (r :: Γ) W := by
  refine h.grow ⟨rfl, rfl, rfl, Nat.le_refl _, fun _ _ _ => rfl⟩ (r.keep (fun _ _ => rfl) (fun b hb => ⟨hb.1, fun q hq => ?_⟩) (fun _ _ => rfl) hr) (fun g hg => by rw [hn] at hg; cases hg)
  rcases List.mem_cons.1 hq with rfl | hq
  · rw [hn]; simp
  · exact hb.2 q hq
theorem Sep.put (h : Sep w0 F0 Γ W) {r r' : Res} (hp : Put Γ r r' Γ') (hg : W.grownBy W' r.block) (hb : ∀ g, r'.block = some g → r.block = some g ∨ W.heap.size ≤ g)
    (hr : (∀ b, Free w0.heap.size F0 Γ W b → Free w0.heap.size F0 Γ' W' b) → Agree (Free w0.heap.size F0 Γ W) W W' → r.holds w0.heap.size (Free w0.heap.size F0 Γ W) W → r'.holds w0.heap.size (Free w0.heap.size F0 Γ' W') W') : Sep w0 F0 Γ' W' := by
  obtain ⟨l1, l2, rfl, rfl⟩ := hp
  have hmr : r ∈ l1 ++ r :: l2 := by simp
  have hother : ∀ q, q ∈ l1 ∨ q ∈ l2 → q ∈ l1 ++ r :: l2 := fun q hq => by rcases hq with hq | hq <;> simp [hq]
  have hp := List.pairwise_append.1 h.dj
  have hp2 := List.pairwise_cons.1 hp.2.1
  have hdj : ∀ q, q ∈ l1 ∨ q ∈ l2 → ∀ g, q.block = some g → r.block ≠ some g := by
    intro q hq g h1 h2
    rcases hq with hq | hq
    · exact hp.2.2 q hq r (by simp) g h1 h2
    · exact hp2.1 q hq g h2 h1
  have hfree : ∀ b, Free w0.heap.size F0 (l1 ++ r :: l2) W b → Free w0.heap.size F0 (l1 ++ r' :: l2) W' b := by
    intro b hb'
    have hlt := Free.lt h hb'
    refine ⟨hb'.1.imp (fun x => x) (fun x => ⟨x.1, Nat.lt_of_lt_of_le x.2 hg.size⟩), fun q hq => ?_⟩
    simp only [List.mem_append, List.mem_cons] at hq
    rcases hq with hq | rfl | hq
    · exact hb'.2 q (hother q (.inl hq))
    · intro e
      rcases hb b e with h1 | h1
      · exact hb'.2 r hmr h1
      · omega
    · exact hb'.2 q (hother q (.inr hq))
  have hag : Agree (Free w0.heap.size F0 (l1 ++ r :: l2) W) W W' := fun b hb' => hg.block b (Free.lt h hb') (fun e => hb'.2 r hmr e.symm)
  have hkeep : ∀ q, q ∈ l1 ∨ q ∈ l2 → q.holds w0.heap.size (Free w0.heap.size F0 (l1 ++ r' :: l2) W') W' := fun q hq =>
    q.keep hag hfree (fun g hg' => hg.block g (q.lt (h.all q (hother q hq)) hg').2 (fun e => hdj q hq g hg' e.symm)) (h.all q (hother q hq))
  refine ⟨h.below.grown hg h.size (fun k hk => (r.lt (h.all r hmr) hk).1), h.low, ?_, ?_⟩
  · intro q hq
    simp only [List.mem_append, List.mem_cons] at hq
    rcases hq with hq | rfl | hq
    · exact hkeep q (.inl hq)
    · exact hr hfree hag (h.all r hmr)
    · exact hkeep q (.inr hq)
  · have hnew : ∀ q, q ∈ l1 ∨ q ∈ l2 → ∀ g, q.block = some g → r'.block ≠ some g := by
      intro q hq g h1 h2
      rcases hb g h2 with h3 | h3
      · exact hdj q hq g h1 h3
      · have := (q.lt (h.all q (hother q hq)) h1).2
        omega
    refine List.pairwise_append.2 ⟨hp.1, List.pairwise_cons.2 ⟨fun q hq g h1 h2 => hnew q (.inr hq) g h2 h1, hp2.2⟩, ?_⟩
    intro q hq q' hq' g h1 h2
    rcases List.mem_cons.1 hq' with rfl | hq'
    · exact hnew q (.inl hq) g h1 h2
    · exact hp.2.2 q hq q' (by simp [hq']) g h1 h2
theorem Sep.alloc (h : Sep w0 F0 Γ W) (cs : List Value) (t : Nat) : Sep w0 F0 (box W.heap.size cs t :: Γ) (W.alloc (.cells cs.toArray t)) :=
  h.grow (World.grownBy_alloc W _ none) ⟨h.size, heap_alloc_new W _⟩ (fun g hg => by injection hg with hg; omega)
theorem Sep.store (h : Sep w0 F0 Γ W) {g t j : Nat} {cs : List Value} (u : Value) (hp : Put Γ (box g cs t) (box g (cs.set j u) t) Γ') : Sep w0 F0 Γ' (W.setCell ⟨g, j, none⟩ u) := by
  refine h.put hp ⟨rfl, rfl, rfl, by simp [World.setCell], fun k hk hne => Below.heap_setCell _ _ _ _ (fun e => hne (by rw [e]; rfl))⟩ (fun g' hg' => .inl hg') ?_
  intro _ _ hr
  refine ⟨hr.1, ?_⟩
  have := blk_set (i := j) (u := u) hr.2
  rw [this]
  simp
theorem Sep.freeze (h : Sep w0 F0 Γ W) {r r' : Res} (hp : Put Γ r r' Γ') (hn : r'.block = none) (hr : (∀ b, Free w0.heap.size F0 Γ W b ∨ (r.block = some b ∧ w0.heap.size ≤ b ∧ b < W.heap.size) → Free w0.heap.size F0 Γ' W b) → r.holds w0.heap.size (Free w0.heap.size F0 Γ W) W → r'.holds w0.heap.size (Free w0.heap.size F0 Γ' W) W) : Sep w0 F0 Γ' W := by
  refine h.put hp ⟨rfl, rfl, rfl, Nat.le_refl _, fun _ _ _ => rfl⟩ (fun g hg => by rw [hn] at hg; cases hg) ?_
  intro hf _ hh
  refine hr (fun b hb => ?_) hh
  rcases hb with hb | ⟨hb, h1, h2⟩
  · exact hf b hb
  · refine ⟨.inr ⟨h1, h2⟩, fun q hq e => ?_⟩
    obtain ⟨l1, l2, rfl, rfl⟩ := hp
    have hp := List.pairwise_append.1 h.dj
    have hp2 := List.pairwise_cons.1 hp.2.1
    simp only [List.mem_append, List.mem_cons] at hq
    rcases hq with hq | rfl | hq
    · exact hp.2.2 q hq r (by simp) b e hb
    · rw [hn] at e; cases e
    · exact hp2.1 q hq b hb e
end
def AggN (P : Program) (t : TypeId) (n : Nat) : Prop := ∃ d, P.underlying t = some d ∧ d.isRow = true ∧ (P.info? t).map (·.size) = some n
def OneT (P : Program) (t : TypeId) : Prop := ∃ d, P.underlying t = some d ∧ d.isRow = false ∧ (P.info? t).map (·.size) = some 1
def SliceT (P : Program) (t e size bytes : Nat) : Prop := P.underlying t = some (.slice e) ∧ ∃ i z, P.info? e = some i ∧ i.zero = some z ∧ i.size = size ∧ i.bytes = bytes ∧ z.cells.size = size
theorem SliceT.mk {P : Program} {t e size bytes : Nat} (h : P.underlying t = some (.slice e)) (h1 : (P.info? e).map (fun i => (i.zero.map (·.cells.size), i.size, i.bytes)) = some (some size, size, bytes)) : SliceT P t e size bytes := by
  refine ⟨h, ?_⟩
  match hh : P.info? e, h1 with
  | some i, h1 =>
    simp only [Option.map_some, Option.some.injEq, Prod.mk.injEq] at h1
    match hz : i.zero, h1 with
    | some z, h1 => exact ⟨i, z, rfl, hz, h1.2.1, h1.2.2, by simpa using h1.1⟩
theorem AggN.mk {P : Program} {t n : Nat} {d : TypeDesc} (h : P.underlying t = some d) (hd : d.isRow = true) (hi : (P.info? t).map (·.size) = some n) : AggN P t n := ⟨d, h, hd, hi⟩
theorem OneT.mk {P : Program} {t : Nat} {d : TypeDesc} (h : P.underlying t = some d) (hd : d.isRow = false) (hi : (P.info? t).map (·.size) = some 1) : OneT P t := ⟨d, h, hd, hi⟩
theorem OneT.load {P : Program} {t : Nat} (h : OneT P t) {W : World} {p : Addr} {v : Value} (hv : W.cell? p = some v) : (loadVar t p).run P W = .ok v W := by
  obtain ⟨d, hu, hd, _⟩ := h
  have hagg : (isAgg t).run P W = .ok false W := by
    unfold isAgg
    rw [Sem.run_bind, run_underlying hu W]
    cases d <;> simp_all
  simp [loadVar, Sem.run_bind, hagg, hv]
theorem AggN.load {P : Program} {t b o : Nat} {cs : List Value} (h : AggN P t cs.length) {W : World} (hv : W.rangeAt b o cs) : (loadVar t ⟨b, o, none⟩).run P W = .ok (.agg cs.toArray) W := by
  obtain ⟨d, hu, hd, hi⟩ := h
  exact run_loadVar_mid W b o t cs d hv hu hd hi
theorem cells_one {v : Value} (h : v.oneCell' = true) : v.cells = #[v] := by cases v <;> first | rfl | cases h
theorem OneT.store {P : Program} {t : Nat} (h : OneT P t) {W : World} {p : Addr} {v u : Value} (hv : W.cell? p = some u) (hf : W.frozen? p = false) (h1 : v.oneCell' = true) : (storeVar t p v).run P W = .ok () (W.setCell p v) := by
  obtain ⟨d, hu, hd, hi⟩ := h
  match hh : P.info? t, hi with
  | some i, hi =>
    simp at hi
    have e : p.add 0 = p := by unfold Addr.add; simp
    simp [storeVar, sizeOf, typeInfo, hh, cells_one h1, hi, storeCells, e, run_store P W p v _ h1, hv, hf]
theorem AggN.store {P : Program} {t g ty : Nat} {old cs : List Value} (h : AggN P t cs.length) {W : World} (hg : W.heap[g]? = some (.cells old.toArray ty (0, 0))) (hl : old.length = cs.length) (h1 : Ones cs) :
    (storeVar t ⟨g, 0, none⟩ (.agg cs.toArray)).run P W = .ok () (W.setRow g cs.toArray) := by
  obtain ⟨d, hu, hd, hi⟩ := h
  exact run_storeVar_row W g ty t old.toArray cs.toArray hg (by simpa using hi) (by simpa using hl) (all_oneCell_toArray h1)
def RV (w0 : World) (F0 : Nat → Prop) (Γ : List Res) (v : Value) (e : Ending) (W : World) : Prop := e = .returned v ∧ Sep w0 F0 Γ W
section
variable {P : Program} {w0 W : World} {F0 : Nat → Prop} {Γ Γ' Γ1 : List Res}
theorem Sep.old (h : Sep w0 F0 Γ W) {f : FuncId} {args : Array Value} {v : Value} (hc : Calls P f args W fun e w' => e = .returned v ∧ Below W.heap.size W w') : Calls P f args W (RV w0 F0 Γ v) :=
  hc.mono fun e w' ⟨h1, h2⟩ => ⟨h1, h.belows h2⟩
section
variable {ops : Array Oper} {Q : Exit → Act → World → Prop} {a : Act} {rest : List Oper} {o : Oper} {t : TypeId} {x y : Operand}
theorem setRow_far {W : World} {g k : Nat} {cs : Array Value} (h : k ≠ g) : (W.setRow g cs).heap[k]? = W.heap[k]? := setRow_other W g k cs h
theorem Sep.setRow (h : Sep w0 F0 Γ W) {g ty : Nat} {cs cs' : List Value} (hp : Put Γ (box g cs ty) (box g cs' ty) Γ') : Sep w0 F0 Γ' (W.setRow g cs'.toArray) := by
  refine h.put hp ⟨rfl, rfl, rfl, by simp, fun k hk hne => setRow_far (fun e => hne (by rw [e]; rfl))⟩ (fun g' hg' => .inl hg') ?_
  intro _ _ hr
  exact ⟨hr.1, setRow_heap W g cs.toArray cs'.toArray ty _ hr.2⟩
end
end
section
variable {P : Program} {w0 W : World} {F0 : Nat → Prop} {Γ Γ' Γ1 Γ2 : List Res}
theorem Del.sub {r : Res} (h : Del Γ r Γ1) : Sub Γ1 Γ := by
  obtain ⟨l1, l2, rfl, rfl⟩ := h
  exact ⟨[r], by simpa using List.perm_middle.trans (List.perm_append_singleton r (l1 ++ l2)).symm⟩
theorem Del.front {r : Res} (h : Del Γ r Γ1) : Sub (r :: Γ1) Γ := Sub.take h Sub.refl
theorem Sep.front (h : Sep w0 F0 Γ W) {r : Res} (hd : Del Γ r Γ1) : Sep w0 F0 (r :: Γ1) W := h.sub hd.front
theorem Sep.elem (h : Sep w0 F0 Γ W) {α : Type} {S : Sh α} {xs : List α} {A : Option Addr} {n c i : Nat} (hm : At Γ (rds xs A n c S)) (hi : i < n) :
    ∃ b off z cs, A = some ⟨b, off, none⟩ ∧ xs[i]? = some z ∧ Sep w0 F0 (cells b (off + i * S.size) cs :: rep z cs S :: Γ) W := by
  have hr : Rds S W (Free w0.heap.size F0 Γ W) xs A n c := h.get hm
  obtain ⟨b, off, z, cs, e, hF, hx, hz, hc⟩ := hr.at_ hi
  refine ⟨b, off, z, cs, e, hx, ?_⟩
  have h1 : Sep w0 F0 (rep z cs S :: Γ) W := h.add rfl hz
  exact h1.add rfl ⟨⟨hF.1, fun q hq => by
    rcases List.mem_cons.1 hq with rfl | hq
    · intro e; cases e
    · exact hF.2 q hq⟩, hc⟩
section
variable {ops : Array Oper} {Q : Exit → Act → World → Prop} {a : Act} {rest : List Oper} {o : Oper} {t : TypeId} {x y : Operand}
end
theorem Sep.pure (h : Sep w0 F0 Γ W) {α : Type} {S : Sh α} {z : α} {cs : List Value} (hz : ∀ W F, S.rep W F z cs) : Sep w0 F0 (rep z cs S :: Γ) W := h.add rfl (hz _ _)
theorem Sep.getRds (h : Sep w0 F0 Γ W) {α : Type} {S : Sh α} {xs : List α} {A : Option Addr} {n c : Nat} (hm : At Γ (rds xs A n c S)) : Rds S W (Free w0.heap.size F0 Γ W) xs A n c := h.get hm
theorem Sep.len (h : Sep w0 F0 Γ W) {α : Type} {S : Sh α} {xs : List α} {A : Option Addr} {n c : Nat} (hm : At Γ (rds xs A n c S)) : xs.length = n ∧ n ≤ c ∧ c ≤ 9223372036854775807 := ⟨(h.getRds hm).1, (h.getRds hm).2.1, (h.getRds hm).2.2.1⟩
end
attribute [irreducible] fact rds rep cells box row At Put Del Sub
end Go.Proofs.YtajaacgchhmbjaaDoor
namespace Go.Proofs.YtajaacgchhmbjaaDoor
open Go.RowKit
set_option linter.unusedVariables false
set_option maxRecDepth 100000
def eqB {α : Type} [DecidableEq α] (xs ys : List α) : Bool := decide (xs = ys)
end Go.Proofs.YtajaacgchhmbjaaDoor
namespace Go.Proofs.YtajaacgchhmbjaaDoor
open Go.RowKit
set_option linter.unusedVariables false
set_option maxRecDepth 100000
theorem Rds.op {w : World} {F : Nat → Prop} {xs : List Op} {A : Option Addr} {n c k : Nat} (h : Rds shOp w F xs A n c) (hk : k < n) :
    ∃ b off x, A = some ⟨b, off, none⟩ ∧ F b ∧ xs[k]? = some x ∧ (w.cell? ⟨b, off + k * 2, none⟩ = some (.int .i64 x.kind) ∧ w.cell? ⟨b, off + k * 2 + 1, none⟩ = some (.int .i64 x.n)) ∧ I64 x.kind ∧ I64 x.n := by
  obtain ⟨b, off, x, cs, e, hF, hx, hr, hc⟩ := h.at_ hk
  obtain ⟨rfl, h1, h2⟩ := rep_op hr
  exact ⟨b, off, x, e, hF, hx, ⟨by simpa [shOp, shS2, shInt] using hc 0 _ rfl, by simpa [shOp, shS2, shInt] using hc 1 _ rfl⟩, h1, h2⟩
theorem equal_op (xs ys : List (Op)) (A A' : Option Addr) (n c n' c' : Nat) (w : World) (F F' : Nat → Prop) (h : Rds shOp w F xs A n c) (h' : Rds shOp w F' ys A' n' c') :
    Calls Tryd.prog 24 #[.slice A n c, .slice A' n' c'] w fun e w' => e = .returned (.bool (eqB xs ys)) ∧ ∃ m, w' = w.drewN m := by
  have hn := h.2.1
  have hc := h.2.2.1
  have hn' := h'.2.1
  have hc' := h'.2.2.1
  by_cases hl : n = n'
  · obtain rfl := hl
    go_enter Tryd.func24, Tryd.ntmps24
    go_wp2
    go_loopw [5, 13] (fun _ i wr => ∃ (k m : Nat), k ≤ n ∧ i = .int .i64 k ∧ wr = w.drewN m ∧ xs.take k = ys.take k) (fun _ i _ => n - (intOf i).toNat)
    case atStart => exact ⟨0, 0, by omega, rfl, rfl, rfl⟩
    case round =>
      obtain ⟨k, m, hk, rfl, rfl, hs⟩ := hrel
      by_cases hlt : k < n
      · obtain ⟨b, off, x, rfl, -, hx, hcell, x0⟩ := h.op hlt
        obtain ⟨b', off', y, rfl, -, hy, hcell', y0⟩ := h'.op hlt
        have Hs := Lib.hid hs
        have Hx := Lib.hid hx
        have Hy := Lib.hid hy
        have i1 : (0 : Int) ≤ (k : Int) := by omega
        have i2 : (k : Int) < (n : Int) := by omega
        clear hs hx hy h h' x0 y0
        by_cases hxy : x = y
        · subst hxy
          go_wp2
          go_quiet (fail)
          go_wp2
          go_roundw
          case measure => simp [intOf]; omega
          case rel => exact ⟨k + 1, _, by omega, by go_num, rfl, by rw [take_snoc Hx.out, take_snoc Hy.out, Hs.out]⟩
        · have hne : eqB xs ys = false := by
            have : xs ≠ ys := fun e => hxy (by have := Hx.out; rw [e, Hy.out] at this; injection this with this; exact this.symm)
            simp [eqB, this]
          obtain ⟨xk, xn⟩ := x
          obtain ⟨yk, yn⟩ := y
          by_cases h1 : xk = yk
          · subst h1
            have h2 : (xn == yn) = false := by simpa using hxy
            clear hxy
            go_wp2
            go_quiet (fail)
            go_wp2
            all_goals (go_ret; refine ⟨ret_bool ?_, _, World.drewN_drewN _ _ _⟩; exact hne.symm)
          · have h2 : (xk == yk) = false := by simpa using h1
            clear hxy h1
            go_wp2
            go_quiet (fail)
            go_wp2
            all_goals (go_ret; refine ⟨ret_bool ?_, _, World.drewN_drewN _ _ _⟩; exact hne.symm)
      · obtain rfl : k = n := by omega
        have Hs := Lib.hid hs
        clear hs
        go_wp2
        go_ret
        refine ⟨ret_bool ?_, _, rfl⟩
        have := Hs.out
        rw [List.take_of_length_le (by have := h.1; omega), List.take_of_length_le (by have := h'.1; omega)] at this
        simp [eqB, this]
  · have hd : ((n : Int) == (n' : Int)) = false := by simp; omega
    have e : eqB xs ys = false := by
      have : xs ≠ ys := fun e => hl (by rw [← h.1, ← h'.1, e])
      simp [eqB, this]
    rw [e]
    clear hl e
    go_enter Tryd.func24, Tryd.ntmps24
    go_wp2
    go_ret
    exact ⟨rfl, 0, rfl⟩
def idxGo {α : Type} [DecidableEq α] (x : α) : List α → Nat → Int
  | [], _ => -1
  | y :: l, k => if x = y then k else idxGo x l (k + 1)
def idx {α : Type} [DecidableEq α] (xs : List α) (x : α) : Int := idxGo x xs 0
theorem idxGo_mem {α : Type} [DecidableEq α] (x : α) (l : List α) (k : Nat) : (0 ≤ idxGo x l k ↔ x ∈ l) := by
  induction l generalizing k with
  | nil => simp [idxGo]
  | cons y l ih =>
    by_cases h : x = y
    · subst h; simp [idxGo]
    · rw [idxGo, if_neg h, ih (k + 1)]; simp [h]
theorem idxGo_ge {α : Type} [DecidableEq α] (x : α) (l : List α) (k : Nat) : -1 ≤ idxGo x l k ∧ idxGo x l k < k + l.length ∨ idxGo x l k = -1 := by
  induction l generalizing k with
  | nil => simp [idxGo]
  | cons y l ih =>
    by_cases h : x = y
    · subst h; simp [idxGo]; omega
    · simp only [idxGo, if_neg h, List.length_cons]
      rcases ih (k + 1) with h | h
      · left; omega
      · right; exact h
theorem idx_bd {α : Type} [DecidableEq α] (xs : List α) (x : α) : -1 ≤ idx xs x ∧ idx xs x ≤ xs.length := by
  rcases idxGo_ge x xs 0 with h | h <;> unfold idx <;> omega
theorem index_str (xs : List (List UInt8)) (y : List UInt8) (A : Option Addr) (n c : Nat) (w : World) (F : Nat → Prop) (h : Rds shStr w F xs A n c) :
    Calls Tryd.prog 47 #[.slice A n c, .string ⟨y.toArray⟩] w fun e w' => e = .returned (.int .i64 (idx xs y)) ∧ w = w' := by
  have hn := h.2.1
  have hc := h.2.2.1
  go_enter Tryd.func47, Tryd.ntmps47
  go_wp2
  go_loop [5, 8] (fun _ i => ∃ (k : Nat), k ≤ n ∧ i = .int .i64 k ∧ idxGo y (xs.drop k) k = idx xs y) (fun _ i => n - (intOf i).toNat)
  case atStart => exact ⟨0, by omega, rfl, rfl⟩
  case round =>
    obtain ⟨k, hk, rfl, hs⟩ := hrel
    by_cases hlt : k < n
    · obtain ⟨b, off, x, rfl, -, hx, hcell, x0⟩ := h.str hlt
      rw [drop_cons hx, idxGo] at hs
      clear hx h x0
      by_cases hxy : y = x
      · subst hxy
        rw [if_pos rfl] at hs
        have Hs := Lib.hid hs
        clear hs
        go_wp2
        go_ret
        exact ⟨ret_int Hs.out, rfl⟩
      · rw [if_neg hxy] at hs
        have Hs := Lib.hid hs
        clear hs
        have hd : (y == x) = false := by simpa using hxy
        clear hxy
        go_wp2
        go_round
        case measure => simp [intOf]; omega
        case rel => exact ⟨k + 1, by omega, by go_num, Hs.out⟩
    · obtain rfl : k = n := by omega
      have Hs := Lib.hid hs
      clear hs
      go_wp2
      go_ret
      have := Hs.out
      rw [List.drop_eq_nil_of_le (by have := h.1; omega), idxGo] at this
      exact ⟨ret_int this, rfl⟩
end Go.Proofs.YtajaacgchhmbjaaDoor
namespace Go.Proofs.YtajaacgchhmbjaaDoor
open Go.RowKit
set_option linter.unusedVariables false
set_option maxRecDepth 100000
end Go.Proofs.YtajaacgchhmbjaaDoor
namespace Go.Proofs.YtajaacgchhmbjaaDoor
open Go.RowKit
set_option linter.unusedVariables false
set_option maxRecDepth 100000
end Go.Proofs.YtajaacgchhmbjaaDoor
namespace Go.Proofs.YtajaacgchhmbjaaDoor
open Go.RowKit
set_option linter.unusedVariables false
set_option maxRecDepth 100000
def opBad (o : Op) : Int := if o.kind < 1 ∨ 13 < o.kind then 4 else if (o.kind ≠ 1 ∧ o.n ≠ 0) ∨ o.n < -1000000 ∨ 1000000 < o.n then 3 else 0
def opsGo : List Op → Int
  | [] => 0
  | o :: l => if opBad o ≠ 0 then opBad o else opsGo l
def opsCheck (l : List Op) : Int := if 16 < l.length then 2 else opsGo l
theorem lockCheck_any (xs : List Op) (A : Option Addr) (n c : Nat) (w : World) (F : Nat → Prop) (h : Rds shOp w F xs A n c) (hF : ∀ b, F b → b < w.heap.size) :
    Calls Tryd.prog 14 #[.slice A n c] w fun e w' => e = .returned (.int .i64 (opsCheck xs)) ∧ Below w.heap.size w w' := by
  have hn := h.2.1
  have hc := h.2.2.1
  have hl := h.1
  by_cases h16 : 16 < n
  · have e : opsCheck xs = 2 := by simp only [opsCheck]; rw [if_pos (by omega)]
    rw [e]
    clear e hl
    go_enter Tryd.func14, Tryd.ntmps14
    go_wp2
    go_ret
    exact ⟨rfl, Below.refl _ _⟩
  · have e : opsCheck xs = opsGo xs := by simp only [opsCheck]; rw [if_neg (by omega)]
    rw [e]
    have HR := Lib.hid h
    have HLN := Lib.hid hl
    clear e hl h
    go_enter Tryd.func14, Tryd.ntmps14
    go_wp2
    go_loopw [4, 10] (fun _ i wr => ∃ k : Nat, k ≤ n ∧ i = .int .i64 k ∧ Below w.heap.size w wr ∧ opsGo (xs.drop k) = opsGo xs) (fun _ i _ => n - (intOf i).toNat)
    case atStart => exact ⟨0, by omega, rfl, Below.refl _ _, rfl⟩
    case round =>
      obtain ⟨k, hk, rfl, hb, hs⟩ := hrel
      by_cases hlt : k < n
      · obtain ⟨b, off, x, rfl, hFb, hx, ⟨hc1, hc2⟩, -, -⟩ := HR.out.op hlt
        rw [drop_cons hx, opsGo] at hs
        rw [← hb.cell (p := ⟨b, off + k * 2, none⟩) (hF b hFb)] at hc1
        rw [← hb.cell (p := ⟨b, off + k * 2 + 1, none⟩) (hF b hFb)] at hc2
        have HB := Lib.hid (hb.alloc hb.size (.cells #[.int .i64 x.kind, .int .i64 x.n] 40))
        clear hx hb
        have i1 : (0 : Int) ≤ (k : Int) := by omega
        have i2 : (k : Int) < (n : Int) := by omega
        obtain ⟨xk, xn⟩ := x
        simp only at hc1 hc2 HB
        rcases Classical.em (xk < 1 ∨ 13 < xk) with hk1 | hk1
        · have e : opBad ⟨xk, xn⟩ = 4 := by simp only [opBad]; rw [if_pos hk1]
          rw [e, if_pos (by decide)] at hs
          have HS := Lib.hid hs
          clear hs e
          rcases Classical.em (xk < 1) with hk2 | hk2
          · clear hk1
            go_wp2
            go_ret
            exact ⟨ret_int HS.out, HB.out⟩
          · have hk3 : 13 < xk := by omega
            clear hk1
            go_wp2
            go_ret
            exact ⟨ret_int HS.out, HB.out⟩
        · have g1 : ¬ xk < 1 := by omega
          have g2 : ¬ 13 < xk := by omega
          have e0 : opBad ⟨xk, xn⟩ = if (xk ≠ 1 ∧ xn ≠ 0) ∨ xn < -1000000 ∨ 1000000 < xn then 3 else 0 := by simp only [opBad]; rw [if_neg hk1]
          rw [e0] at hs
          clear hk1 e0
          rcases Classical.em ((xk ≠ 1 ∧ xn ≠ 0) ∨ xn < -1000000 ∨ 1000000 < xn) with h3 | h3
          · rw [if_pos h3, if_pos (by decide)] at hs
            have HS := Lib.hid hs
            clear hs
            by_cases h4 : xk ≠ 1 ∧ xn ≠ 0
            · have k1 : (xk != 1) = true := by simpa using h4.1
              have k2 : (xn != 0) = true := by simpa using h4.2
              clear h3 h4
              go_wp2
              go_ret
              exact ⟨ret_int HS.out, HB.out⟩
            · by_cases h5 : xk = 1
              · subst h5
                clear h4
                rcases Classical.em (xn < -1000000) with h6 | h6
                · clear h3
                  go_wp2
                  go_ret
                  exact ⟨ret_int HS.out, HB.out⟩
                · have h7 : 1000000 < xn := by omega
                  clear h3
                  go_wp2
                  go_ret
                  exact ⟨ret_int HS.out, HB.out⟩
              · exfalso; omega
          · rw [if_neg h3, if_neg (by decide)] at hs
            have HS := Lib.hid hs
            clear hs
            have h6 : ¬ xn < -1000000 := by omega
            have h7 : ¬ 1000000 < xn := by omega
            by_cases h5 : xk = 1
            · subst h5
              clear h3
              go_wp2
              go_roundw
              case measure => simp [intOf]; omega
              case rel => exact ⟨k + 1, by omega, by go_num, HB.out, HS.out⟩
            · obtain rfl : xn = 0 := by omega
              have k1 : (xk != 1) = true := by simpa using h5
              clear h3 h5
              go_wp2
              go_roundw
              case measure => simp [intOf]; omega
              case rel => exact ⟨k + 1, by omega, by go_num, HB.out, HS.out⟩
      · obtain rfl : k = n := by omega
        rw [List.drop_eq_nil_of_le (by rw [HLN.out]; omega), opsGo] at hs
        have HS := Lib.hid hs
        clear hs
        go_wp2
        go_ret
        exact ⟨ret_int HS.out, hb⟩
end Go.Proofs.YtajaacgchhmbjaaDoor
namespace Go.Proofs.YtajaacgchhmbjaaDoor
open Go.RowKit
set_option linter.unusedVariables false
set_option maxRecDepth 100000
end Go.Proofs.YtajaacgchhmbjaaDoor
namespace Go.Proofs.YtajaacgchhmbjaaDoor
open Go.RowKit
set_option linter.unusedVariables false
set_option maxRecDepth 100000
end Go.Proofs.YtajaacgchhmbjaaDoor
namespace Go.Proofs.YtajaacgchhmbjaaDoor
open Go.RowKit
set_option linter.unusedVariables false
set_option maxRecDepth 100000
theorem Rds.tx {w : World} {F : Nat → Prop} {xs : List Tx} {A : Option Addr} {n c k : Nat} (h : Rds shTx w F xs A n c) (hk : k < n) :
    ∃ b off x A1 n1 c1 A2 n2 c2, A = some ⟨b, off, none⟩ ∧ F b ∧ xs[k]? = some x ∧ (w.cell? ⟨b, off + k * 3, none⟩ = some (.int .i64 x.height) ∧ w.cell? ⟨b, off + k * 3 + 1, none⟩ = some (.slice A1 n1 c1) ∧ w.cell? ⟨b, off + k * 3 + 2, none⟩ = some (.slice A2 n2 c2)) ∧ shTx.rep w F x [.int .i64 x.height, .slice A1 n1 c1, .slice A2 n2 c2] ∧ I64 x.height ∧ x.ins.length = n1 := by
  obtain ⟨b, off, x, cs, e, hF, hx, hr, hc⟩ := h.at_ hk
  have hr' := hr
  obtain ⟨A1, n1, c1, A2, n2, c2, rfl, h1, h2, h3⟩ := rep_tx hr
  exact ⟨b, off, x, A1, n1, c1, A2, n2, c2, e, hF, hx, ⟨by simpa [shTx, shS3, shS2, shInt, shSlice] using hc 0 _ rfl, by simpa [shTx, shS3, shS2, shInt, shSlice] using hc 1 _ rfl, by simpa [shTx, shS3, shS2, shInt, shSlice] using hc 2 _ rfl⟩, hr', h1, h2.1⟩
def blkRange (b : Block) : Prop := b.parent < 0 ∨ 120 < b.parent ∨ b.height < 1 ∨ 1000 < b.height ∨ b.work < 1 ∨ 1000 < b.work ∨ b.nonce < 0 ∨ 1000000000 < b.nonce
instance (b : Block) : Decidable (blkRange b) := by unfold blkRange; infer_instance
def txOff (h : Int) (t : Tx) (i : Nat) : Prop := ¬ (t.ins.length = 0 ↔ i = 0) ∨ (i = 0 ∧ t.height ≠ h)
instance (h : Int) (t : Tx) (i : Nat) : Decidable (txOff h t i) := by unfold txOff; infer_instance
end Go.Proofs.YtajaacgchhmbjaaDoor
namespace Go.Proofs.YtajaacgchhmbjaaDoor
open Go.RowKit Go.ChangeShapes Go.WideShapes
set_option linter.unusedVariables false
theorem cut_at {α : Type} (l : List α) (k m : Nat) : (l.drop k).take m ++ l.drop (k + m) = l.drop k := by rw [← List.drop_drop, List.take_append_drop]
def Opens {α : Type} (P : Program) (S : Sh α) (t : TypeId) : Prop :=
  ∀ {H : Type} {enc : TypeId × Value → H} {w : World} {base : Nat} {spare : Nat → Bool} {held : Bool} {fuel : Nat} {cs : List Value} {x : DataW H × List MemPlace},
    DataW.trod enc P w base spare held fuel t cs = some x → ∃ a, S.rep w (Lt w.heap.size) a cs
section
variable {P : Program} {t : TypeId}
theorem opens_int (ht : P.underlying t = some (.int .i64)) : Opens P shInt t := by
  intro H enc w base spare held fuel cs x h
  obtain ⟨n, rfl, _, hw⟩ := DataW.trod_int ht h
  exact ⟨n, rfl, by simp [Lit.wf, IntKind.min, IntKind.max, IntKind.signed, IntKind.bits] at hw; omega⟩
theorem opens_bool (ht : P.underlying t = some .bool) : Opens P shBool t := by
  intro H enc w base spare held fuel cs x h
  obtain ⟨n, rfl, _⟩ := DataW.trod_bool ht h
  exact ⟨n, rfl⟩
theorem opens_str (ht : P.underlying t = some .string) : Opens P shStr t := by
  intro H enc w base spare held fuel cs x h
  obtain ⟨s, rfl, _, hw⟩ := DataW.trod_string ht h
  exact ⟨s.data.toList, by simp, by unfold maxLen at hw; simpa using hw⟩
theorem opens_slice {α : Type} {S : Sh α} {e : TypeId} (ht : P.underlying t = some (.slice e)) (hs : P.cellsOf e = S.size) (h0 : 0 < S.size) (he : Opens P S e) : Opens P (shSlice S) t := by
  intro H enc w base spare held fuel cs x h
  rcases Go.Deep.open_slice ht h with ⟨rfl, _⟩ | ⟨a, len, cap, m, n, D, Pl, rfl, _, hl, hm, hmm, -, hi⟩
  · exact ⟨[], _, _, _, rfl, Rds.nil _ _ _⟩
  · have hlm : len ≤ m := by rw [hmm]; split <;> omega
    have key : ∀ i, i < len → ∃ y : α × List Value, S.rep w (Lt w.heap.size) y.1 y.2 ∧ ∀ j, j < S.size → w.cell? (a.add (i * S.size + j)) = y.2[j]? := by
      intro i hlt
      obtain ⟨cs', hc, ht'⟩ := hi i (by omega)
      obtain ⟨y, hy⟩ := he ht'
      obtain ⟨_, hcl, hat⟩ := World.cells?_some hc
      refine ⟨(y, cs'), hy, fun j hj => ?_⟩
      have := hat j (by omega)
      rw [hs, Go.Deep.add_add] at this
      exact this
    have key2 : ∃ ys : List (α × List Value), ys.length = len ∧ ∀ i (hi : i < ys.length), S.rep w (Lt w.heap.size) ys[i].1 ys[i].2 ∧ ∀ j, j < S.size → w.cell? (a.add (i * S.size + j)) = ys[i].2[j]? := by
      clear hi hmm hlm hl h
      induction len with
      | zero => exact ⟨[], rfl, fun i hi => by simp at hi⟩
      | succ l ih =>
        obtain ⟨ys, hy1, hy2⟩ := ih (fun i hi => key i (by omega))
        obtain ⟨y, hy⟩ := key l (by omega)
        refine ⟨ys ++ [y], by simp [hy1], fun i hi => ?_⟩
        by_cases h' : i < ys.length
        · rw [List.getElem_append_left h']; exact hy2 i h'
        · have : i = l := by simp at hi; omega
          subst this
          rw [List.getElem_append_right (by omega)]
          simpa [hy1] using hy
    obtain ⟨ys, hy1, hy2⟩ := key2
    refine ⟨ys.map (·.1), _, _, _, rfl, by simp [hy1], hl, by unfold maxLen at hm; omega, fun hn => ?_⟩
    have c0 := (hy2 0 (by omega)).2 0 h0
    have hl0 := S.len (hy2 0 (by omega)).1
    have hspot : a.spot = none := by
      have : (ys[0]'(by omega)).2[0]? = some ((ys[0]'(by omega)).2[0]'(by omega)) := List.getElem?_eq_getElem (by omega)
      rw [this] at c0
      have := World.cell?_spot c0
      simpa [Addr.add] using this
    obtain ⟨b, off, spot⟩ := a
    simp only at hspot
    subst hspot
    have hadd : ∀ k, (Addr.mk b off none).add k = ⟨b, off + k, none⟩ := by
      intro k; unfold Addr.add; split <;> simp_all
    refine ⟨b, off, rfl, ?_, fun i hi => ?_⟩
    · show b < w.heap.size
      rcases Nat.lt_or_ge b w.heap.size with h' | h'
      · exact h'
      · have e : w.cell? ((Addr.mk b off none).add (0 * S.size + 0)) = none := by
          rw [hadd]; simp [World.cell?, Array.getElem?_eq_none h']
        rw [e] at c0
        have : (ys[0]'(by omega)).2[0]? = some ((ys[0]'(by omega)).2[0]'(by omega)) := List.getElem?_eq_getElem (by omega)
        rw [this] at c0; cases c0
    · have hi' : i < ys.length := by simpa using hi
      refine ⟨ys[i].2, by simpa using (hy2 i hi').1, fun j v hj => ?_⟩
      have hjl : j < S.size := by
        have := S.len (hy2 i hi').1
        have := (List.getElem?_eq_some_iff.1 hj).1
        omega
      have := (hy2 i hi').2 j hjl
      rw [hadd, hj] at this
      rw [← this, Nat.add_assoc]
theorem opens_S2 {α β τ : Type} {S0 : Sh α} {S1 : Sh β} {f : α → β → τ} {f0 f1 : Field} (ht : P.underlying t = some (.struct #[f0, f1])) (hc : P.cellsOf t = S0.size + S1.size)
    (o0 : f0.offset = 0) (o1 : f1.offset = S0.size) (c0 : P.cellsOf f0.type = S0.size) (c1 : P.cellsOf f1.type = S1.size) (h0 : Opens P S0 f0.type) (h1 : Opens P S1 f1.type) : Opens P (shS2 S0 S1 f) t := by
  intro H enc w base spare held fuel cs x h
  obtain ⟨xs, n, _, _, hl, hxl, hf⟩ := DataW.trod_struct ht h
  match xs, hxl with
  | [x0, x1], _ =>
    have g0 := hf 0 f0 rfl
    have g1 := hf 1 f1 rfl
    rw [o0, c0] at g0
    rw [o1, c1] at g1
    obtain ⟨a, ha⟩ := h0 g0
    obtain ⟨b, hb⟩ := h1 g1
    refine ⟨f a b, a, b, _, _, rfl, ?_, ha, hb⟩
    rw [List.drop_zero, List.take_of_length_le (l := cs.drop S0.size) (by simp; omega), List.take_append_drop]
theorem opens_S1 {α τ : Type} {S0 : Sh α} {f : α → τ} {f0 : Field} (ht : P.underlying t = some (.struct #[f0])) (hc : P.cellsOf t = S0.size)
    (o0 : f0.offset = 0) (c0 : P.cellsOf f0.type = S0.size) (h0 : Opens P S0 f0.type) : Opens P (shS1 S0 f) t := by
  intro H enc w base spare held fuel cs x h
  obtain ⟨xs, n, _, _, hl, hxl, hf⟩ := DataW.trod_struct ht h
  match xs, hxl with
  | [x0], _ =>
    have g0 := hf 0 f0 rfl
    rw [o0, c0] at g0
    obtain ⟨a, ha⟩ := h0 g0
    refine ⟨f a, a, rfl, ?_⟩
    rwa [List.drop_zero, List.take_of_length_le (by omega)] at ha
theorem opens_S3 {α β γ τ : Type} {S0 : Sh α} {S1 : Sh β} {S2 : Sh γ} {f : α → β → γ → τ} {f0 f1 f2 : Field} (ht : P.underlying t = some (.struct #[f0, f1, f2])) (hc : P.cellsOf t = S0.size + (S1.size + S2.size))
    (o0 : f0.offset = 0) (o1 : f1.offset = S0.size) (o2 : f2.offset = S0.size + S1.size) (c0 : P.cellsOf f0.type = S0.size) (c1 : P.cellsOf f1.type = S1.size) (c2 : P.cellsOf f2.type = S2.size)
    (h0 : Opens P S0 f0.type) (h1 : Opens P S1 f1.type) (h2 : Opens P S2 f2.type) : Opens P (shS3 S0 S1 S2 f) t := by
  intro H enc w base spare held fuel cs x h
  obtain ⟨xs, n, _, _, hl, hxl, hf⟩ := DataW.trod_struct ht h
  match xs, hxl with
  | [x0, x1, x2], _ =>
    have g0 := hf 0 f0 rfl
    have g1 := hf 1 f1 rfl
    have g2 := hf 2 f2 rfl
    rw [o0, c0] at g0
    rw [o1, c1] at g1
    rw [o2, c2] at g2
    obtain ⟨a, ha⟩ := h0 g0
    obtain ⟨b, hb⟩ := h1 g1
    obtain ⟨c, hc'⟩ := h2 g2
    refine ⟨f a b c, a, (b, c), _, _, rfl, ?_, ha, b, c, _, _, rfl, rfl, hb, hc'⟩
    rw [List.drop_zero, List.take_of_length_le (l := cs.drop (S0.size + S1.size)) (by simp; omega), ← List.drop_drop, List.take_append_drop, List.take_append_drop]
theorem opens_S4 {α β γ δ τ : Type} {S0 : Sh α} {S1 : Sh β} {S2 : Sh γ} {S3 : Sh δ} {f : α → β → γ → δ → τ} {f0 f1 f2 f3 : Field} (ht : P.underlying t = some (.struct #[f0, f1, f2, f3])) (hc : P.cellsOf t = S0.size + (S1.size + (S2.size + S3.size)))
    (o0 : f0.offset = 0) (o1 : f1.offset = S0.size) (o2 : f2.offset = S0.size + S1.size) (o3 : f3.offset = S0.size + S1.size + S2.size) (c0 : P.cellsOf f0.type = S0.size) (c1 : P.cellsOf f1.type = S1.size) (c2 : P.cellsOf f2.type = S2.size) (c3 : P.cellsOf f3.type = S3.size)
    (h0 : Opens P S0 f0.type) (h1 : Opens P S1 f1.type) (h2 : Opens P S2 f2.type) (h3 : Opens P S3 f3.type) : Opens P (shS4 S0 S1 S2 S3 f) t := by
  intro H enc w base spare held fuel cs x h
  obtain ⟨xs, n, _, _, hl, hxl, hf⟩ := DataW.trod_struct ht h
  match xs, hxl with
  | [x0, x1, x2, x3], _ =>
    have g0 := hf 0 f0 rfl
    have g1 := hf 1 f1 rfl
    have g2 := hf 2 f2 rfl
    have g3 := hf 3 f3 rfl
    rw [o0, c0] at g0
    rw [o1, c1] at g1
    rw [o2, c2] at g2
    rw [o3, c3] at g3
    obtain ⟨a, ha⟩ := h0 g0
    obtain ⟨b, hb⟩ := h1 g1
    obtain ⟨c, hc'⟩ := h2 g2
    obtain ⟨d, hd⟩ := h3 g3
    refine ⟨f a b c d, a, (b, c, d), _, _, rfl, ?_, ha, b, (c, d), _, _, rfl, rfl, hb, c, d, _, _, rfl, rfl, hc', hd⟩
    rw [List.drop_zero, List.take_of_length_le (l := cs.drop (S0.size + S1.size + S2.size)) (by simp; omega), cut_at, cut_at, List.take_append_drop]
theorem opens_S5 {α β γ δ ε τ : Type} {S0 : Sh α} {S1 : Sh β} {S2 : Sh γ} {S3 : Sh δ} {S4 : Sh ε} {f : α → β → γ → δ → ε → τ} {f0 f1 f2 f3 f4 : Field} (ht : P.underlying t = some (.struct #[f0, f1, f2, f3, f4]))
    (hc : P.cellsOf t = S0.size + (S1.size + (S2.size + (S3.size + S4.size))))
    (o0 : f0.offset = 0) (o1 : f1.offset = S0.size) (o2 : f2.offset = S0.size + S1.size) (o3 : f3.offset = S0.size + S1.size + S2.size) (o4 : f4.offset = S0.size + S1.size + S2.size + S3.size)
    (c0 : P.cellsOf f0.type = S0.size) (c1 : P.cellsOf f1.type = S1.size) (c2 : P.cellsOf f2.type = S2.size) (c3 : P.cellsOf f3.type = S3.size) (c4 : P.cellsOf f4.type = S4.size)
    (h0 : Opens P S0 f0.type) (h1 : Opens P S1 f1.type) (h2 : Opens P S2 f2.type) (h3 : Opens P S3 f3.type) (h4 : Opens P S4 f4.type) : Opens P (shS5 S0 S1 S2 S3 S4 f) t := by
  intro H enc w base spare held fuel cs x h
  obtain ⟨xs, n, _, _, hl, hxl, hf⟩ := DataW.trod_struct ht h
  match xs, hxl with
  | [x0, x1, x2, x3, x4], _ =>
    have g0 := hf 0 f0 rfl
    have g1 := hf 1 f1 rfl
    have g2 := hf 2 f2 rfl
    have g3 := hf 3 f3 rfl
    have g4 := hf 4 f4 rfl
    rw [o0, c0] at g0
    rw [o1, c1] at g1
    rw [o2, c2] at g2
    rw [o3, c3] at g3
    rw [o4, c4] at g4
    obtain ⟨a, ha⟩ := h0 g0
    obtain ⟨b, hb⟩ := h1 g1
    obtain ⟨c, hc'⟩ := h2 g2
    obtain ⟨d, hd⟩ := h3 g3
    obtain ⟨e, he⟩ := h4 g4
    refine ⟨f a b c d e, a, (b, c, d, e), _, _, rfl, ?_, ha, b, (c, d, e), _, _, rfl, rfl, hb, c, (d, e), _, _, rfl, rfl, hc', d, e, _, _, rfl, rfl, hd, he⟩
    rw [List.drop_zero, List.take_of_length_le (l := cs.drop (S0.size + S1.size + S2.size + S3.size)) (by simp; omega), cut_at, cut_at, cut_at, List.take_append_drop]
end
theorem op_int : Opens Tryd.prog shInt 3 := opens_int Tryd.underlying3
theorem op_bool : Opens Tryd.prog shBool 4 := opens_bool Tryd.underlying4
theorem op_str : Opens Tryd.prog shStr 9 := opens_str Tryd.underlying9
theorem op_ints : Opens Tryd.prog (shSlice shInt) 23 := opens_slice Tryd.underlying23 (by kernel_rfl) (by decide) op_int
theorem op_strs : Opens Tryd.prog (shSlice shStr) 59 := opens_slice Tryd.underlying59 (by kernel_rfl) (by decide) op_str
theorem op_book : Opens Tryd.prog shBook 61 := opens_S1 Tryd.underlying61 (by kernel_rfl) rfl (by kernel_rfl) op_strs
theorem op_op : Opens Tryd.prog shOp 40 := opens_S2 Tryd.underlying40 (by kernel_rfl) rfl rfl (by kernel_rfl) (by kernel_rfl) op_int op_int
theorem op_ops : Opens Tryd.prog (shSlice shOp) 22 := opens_slice Tryd.underlying22 (by kernel_rfl) (by decide) op_op
theorem op_point : Opens Tryd.prog shPoint 101 := opens_S2 Tryd.underlying101 (by kernel_rfl) rfl rfl (by kernel_rfl) (by kernel_rfl) op_int op_int
theorem op_in : Opens Tryd.prog shIn 103 := opens_S2 Tryd.underlying103 (by kernel_rfl) rfl rfl (by kernel_rfl) (by kernel_rfl) op_point op_ops
theorem op_ins : Opens Tryd.prog (shSlice shIn) 50 := opens_slice Tryd.underlying50 (by kernel_rfl) (by decide) op_in
theorem op_out : Opens Tryd.prog shOut 105 := opens_S2 Tryd.underlying105 (by kernel_rfl) rfl rfl (by kernel_rfl) (by kernel_rfl) op_int op_ops
theorem op_outs : Opens Tryd.prog (shSlice shOut) 51 := opens_slice Tryd.underlying51 (by kernel_rfl) (by decide) op_out
theorem op_tx : Opens Tryd.prog shTx 53 := opens_S3 Tryd.underlying53 (by kernel_rfl) rfl rfl rfl (by kernel_rfl) (by kernel_rfl) (by kernel_rfl) op_int op_ins op_outs
theorem op_txs : Opens Tryd.prog (shSlice shTx) 62 := opens_slice Tryd.underlying62 (by kernel_rfl) (by decide) op_tx
theorem op_coin : Opens Tryd.prog shCoin 121 := opens_S4 Tryd.underlying121 (by kernel_rfl) rfl rfl rfl rfl (by kernel_rfl) (by kernel_rfl) (by kernel_rfl) (by kernel_rfl) op_point op_out op_int op_bool
theorem op_coins : Opens Tryd.prog (shSlice shCoin) 116 := opens_slice Tryd.underlying116 (by kernel_rfl) (by decide) op_coin
theorem op_undo : Opens Tryd.prog shUndo 153 := opens_S1 Tryd.underlying153 (by kernel_rfl) rfl (by kernel_rfl) op_coins
theorem op_undos : Opens Tryd.prog (shSlice shUndo) 117 := opens_slice Tryd.underlying117 (by kernel_rfl) (by decide) op_undo
theorem op_block : Opens Tryd.prog shBlock 64 := opens_S5 Tryd.underlying64 (by kernel_rfl) rfl rfl rfl rfl rfl (by kernel_rfl) (by kernel_rfl) (by kernel_rfl) (by kernel_rfl) (by kernel_rfl) op_int op_int op_int op_int op_txs
end Go.Proofs.YtajaacgchhmbjaaDoor
