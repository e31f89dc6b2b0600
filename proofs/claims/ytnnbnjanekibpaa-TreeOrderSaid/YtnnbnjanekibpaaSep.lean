/- What a call owns and what it only reads, in one hypothesis on the world; the walk's rules over it. Own text, of no program. -/
import Derived.Test.YtnnbnjanekibpaaOwn
import Derived.Test.YtnnbnjanekibpaaMk
import Derived.Deep.MidRow
import Derived.Maps.AppendAt
import Derived.Great.BuildSlice
import Derived.OwnWalk
import Derived.BigFrame
namespace Go.Proofs.Ytnnbnjanekibpaa
open Go.RowKit
set_option linter.unusedVariables false

/-- The walk stands here. -/
structure Stop (p : Prop) : Prop where
  go : p

/-- A thing in memory: the block that it owns (none: it is only read), and what is said of it. -/
structure Res where
  block : Option Nat
  holds : Nat → (Nat → Prop) → World → Prop
  keep : ∀ {h0 : Nat} {F F' : Nat → Prop} {W W' : World}, Agree F W W' → (∀ b, F b → F' b) → (∀ g, block = some g → W'.heap[g]? = W.heap[g]?) → holds h0 F W → holds h0 F' W'
  lt : ∀ {h0 : Nat} {F : Nat → Prop} {W : World} {g : Nat}, holds h0 F W → block = some g → h0 ≤ g ∧ g < W.heap.size

/-- A fact on memory that is only read. -/
def fact (p : World → (Nat → Prop) → Prop) (k : ∀ {W W' : World} {F F' : Nat → Prop}, Agree F W W' → (∀ b, F b → F' b) → p W F → p W' F') : Res := {
  block := none
  holds _ F W := p W F
  keep := fun ha hF _ h => k ha hF h
  lt := fun _ h => by cases h }

/-- A slice that is only read. -/
def rds {α : Type} (xs : List α) (A : Option Addr) (n c : Nat) (S : Sh α) : Res := fact (fun W F => Rds S W F xs A n c) fun ha hF h => (h.keep ha).more hF
/-- The cells of a datum. -/
def rep {α : Type} (x : α) (cs : List Value) (S : Sh α) : Res := fact (fun W F => S.rep W F x cs) fun ha hF h => S.more hF (S.keep ha h)
/-- Cells that are only read, where they lie. -/
def cells (b o : Nat) (cs : List Value) : Res := fact (fun W F => F b ∧ W.rangeAt b o cs) fun ha hF h => ⟨hF _ h.1, fun j v hj => (ha.cell (p := ⟨b, o + j, none⟩) h.1).trans (h.2 j v hj)⟩
/-- A variable of the call's own. -/
def box (g : Nat) (cs : List Value) (t : Nat) : Res := {
  block := some g
  holds h0 _ W := h0 ≤ g ∧ W.heap[g]? = some (.cells cs.toArray t (0, 0))
  keep := fun _ _ hb h => ⟨h.1, (hb g rfl).trans h.2⟩
  lt := fun h e => by injection e with e; subst e; exact ⟨h.1, blk_lt h.2⟩ }
theorem ownsRow_same {w w' : World} {base e size n : Nat} {v : Value} {xs : List Value} (h : w.ownsRow base e size v n xs) (hb : ∀ g, v.ownBlock = some g → w'.heap[g]? = w.heap[g]?) : w'.ownsRow base e size v n xs := by
  refine ⟨h.1, ?_⟩
  rcases h.2 with h0 | ⟨g, cap, cur, hv, hg, hh, r⟩
  · exact .inl h0
  · exact .inr ⟨g, cap, cur, hv, hg, by rw [hb g (by rw [hv]; rfl)]; exact hh, r⟩
/-- A row of the call's own, that reads as a list. -/
def row {α : Type} (e : Nat) (v : Value) (xs : List α) (S : Sh α) : Res := {
  block := v.ownBlock
  holds h0 F W := ∃ zs : List (α × List Value), zs.map (·.1) = xs ∧ W.ownsRow h0 e S.size v xs.length (flat zs) ∧ ∀ z ∈ zs, S.rep W F z.1 z.2
  keep := fun ha hF hb ⟨zs, h1, h2, h3⟩ => ⟨zs, h1, ownsRow_same h2 hb, fun z hz => S.more hF (S.keep ha (h3 z hz))⟩
  lt := fun ⟨_, _, h2, _⟩ e => h2.lt _ e }

/-- What may only be read: what came in, and what is new, but for what is owned. -/
def Free (h0 : Nat) (F0 : Nat → Prop) (Γ : List Res) (W : World) (b : Nat) : Prop := (F0 b ∨ (h0 ≤ b ∧ b < W.heap.size)) ∧ ∀ r ∈ Γ, r.block ≠ some b
/-- What came in, and what is new. -/
def All (h0 : Nat) (F0 : Nat → Prop) (W : World) (b : Nat) : Prop := F0 b ∨ (h0 ≤ b ∧ b < W.heap.size)

structure Sep (w0 : World) (F0 : Nat → Prop) (Γ : List Res) (W : World) : Prop where
  below : Below w0.heap.size w0 W
  low : ∀ b, F0 b → b < w0.heap.size
  all : ∀ r ∈ Γ, r.holds w0.heap.size (Free w0.heap.size F0 Γ W) W
  dj : Γ.Pairwise fun r r' => ∀ g, r.block = some g → r'.block ≠ some g

/-! Places in the list. -/
def At (Γ : List Res) (r : Res) : Prop := r ∈ Γ
theorem At.z {Γ : List Res} {r : Res} : At (r :: Γ) r := List.mem_cons_self ..
theorem At.s {Γ : List Res} {r q : Res} (h : At Γ r) : At (q :: Γ) r := List.mem_cons_of_mem _ h
def Put (Γ : List Res) (r r' : Res) (Γ' : List Res) : Prop := ∃ l1 l2, Γ = l1 ++ r :: l2 ∧ Γ' = l1 ++ r' :: l2
theorem Put.z {Γ : List Res} {r r' : Res} : Put (r :: Γ) r r' (r' :: Γ) := ⟨[], Γ, rfl, rfl⟩
theorem Put.s {Γ Γ' : List Res} {r r' q : Res} (h : Put Γ r r' Γ') : Put (q :: Γ) r r' (q :: Γ') := by
  obtain ⟨l1, l2, rfl, rfl⟩ := h
  exact ⟨q :: l1, l2, rfl, rfl⟩
def Del (Γ : List Res) (r : Res) (Γ' : List Res) : Prop := ∃ l1 l2, Γ = l1 ++ r :: l2 ∧ Γ' = l1 ++ l2
theorem Del.z {Γ : List Res} {r : Res} : Del (r :: Γ) r Γ := ⟨[], Γ, rfl, rfl⟩
theorem Del.s {Γ Γ' : List Res} {r q : Res} (h : Del Γ r Γ') : Del (q :: Γ) r (q :: Γ') := by
  obtain ⟨l1, l2, rfl, rfl⟩ := h
  exact ⟨q :: l1, l2, rfl, rfl⟩
theorem Put.at_ {Γ Γ' : List Res} {r r' : Res} (h : Put Γ r r' Γ') : At Γ r := by
  obtain ⟨l1, l2, rfl, rfl⟩ := h
  simp [At]
/-- The list Γ' is made of things of Γ, each taken once. -/
def Sub (Γ' Γ : List Res) : Prop := ∃ l, Γ.Perm (Γ' ++ l)
theorem Sub.nil {Γ : List Res} : Sub [] Γ := ⟨Γ, by simp⟩
theorem Sub.refl {Γ : List Res} : Sub Γ Γ := ⟨[], by simp⟩
theorem Sub.skip {Γ Γ' : List Res} {r : Res} (h : Sub Γ' Γ) : Sub Γ' (r :: Γ) := by
  obtain ⟨l, hl⟩ := h
  exact ⟨r :: l, (hl.cons r).trans List.perm_middle.symm⟩
theorem Sub.take {Γ Γ1 Γ' : List Res} {r : Res} (hd : Del Γ r Γ1) (h : Sub Γ' Γ1) : Sub (r :: Γ') Γ := by
  obtain ⟨l1, l2, rfl, rfl⟩ := hd
  obtain ⟨l, hl⟩ := h
  exact ⟨l, List.perm_middle.trans (hl.cons r)⟩

section
variable {w0 W W' : World} {F0 : Nat → Prop} {Γ Γ' : List Res}

theorem Sep.size (h : Sep w0 F0 Γ W) : w0.heap.size ≤ W.heap.size := h.below.size
theorem Free.lt (h : Sep w0 F0 Γ W) {b : Nat} (hb : Free w0.heap.size F0 Γ W b) : b < W.heap.size := by
  rcases hb.1 with h1 | h1
  · exact Nat.lt_of_lt_of_le (h.low b h1) h.size
  · exact h1.2
theorem Free.all {h0 : Nat} {b : Nat} (hb : Free h0 F0 Γ W b) : All h0 F0 W b := hb.1
theorem All.lt (h : Sep w0 F0 Γ W) {b : Nat} (hb : All w0.heap.size F0 W b) : b < W.heap.size := by
  rcases hb with h1 | h1
  · exact Nat.lt_of_lt_of_le (h.low b h1) h.size
  · exact h1.2

/-- The start of a call. -/
theorem Sep.start (w : World) (F : Nat → Prop) (hF : ∀ b, F b → b < w.heap.size) : Sep w F [] w := ⟨Below.refl _ _, hF, by simp, List.Pairwise.nil⟩

theorem Sep.get (h : Sep w0 F0 Γ W) {r : Res} (hr : At Γ r) : r.holds w0.heap.size (Free w0.heap.size F0 Γ W) W := h.all r hr
/-- A fact as it is said behind the call. -/
theorem Sep.out (h : Sep w0 F0 Γ W) {r : Res} (hr : At Γ r) : r.holds w0.heap.size (All w0.heap.size F0 W) W := r.keep (fun _ _ => rfl) (fun b hb => hb.1) (fun _ _ => rfl) (h.all r hr)
/-- A fact, all blocks allowed. -/
theorem Sep.lts (h : Sep w0 F0 Γ W) {r : Res} (hr : At Γ r) : r.holds w0.heap.size (Lt W.heap.size) W := r.keep (fun _ _ => rfl) (fun b hb => Free.lt h hb) (fun _ _ => rfl) (h.all r hr)

theorem Sep.sub (h : Sep w0 F0 Γ W) (hs : Sub Γ' Γ) : Sep w0 F0 Γ' W := by
  obtain ⟨l, hl⟩ := hs
  have hm : ∀ r ∈ Γ', r ∈ Γ := fun r hr => hl.mem_iff.2 (List.mem_append_left _ hr)
  refine ⟨h.below, h.low, fun r hr => r.keep (fun _ _ => rfl) (fun b hb => ⟨hb.1, fun q hq => hb.2 q (hm q hq)⟩) (fun _ _ => rfl) (h.all r (hm r hr)), ?_⟩
  have hp := (hl.pairwise_iff (R := fun r r' : Res => ∀ g, r.block = some g → r'.block ≠ some g) (fun hab g hb ha => hab g ha hb)).1 h.dj
  exact (List.pairwise_append.1 hp).1

/-- Something is added. -/
theorem Sep.grow (h : Sep w0 F0 Γ W) (hg : W.grownBy W' none) {r : Res} (hr : r.holds w0.heap.size (Free w0.heap.size F0 (r :: Γ) W') W') (hb : ∀ g, r.block = some g → W.heap.size ≤ g) : Sep w0 F0 (r :: Γ) W' := by
  have hsz := h.size
  have hfree : ∀ b, Free w0.heap.size F0 Γ W b → Free w0.heap.size F0 (r :: Γ) W' b := by
    intro b hb'
    have hlt := Free.lt h hb'
    refine ⟨hb'.1.imp (fun x => x) (fun x => ⟨x.1, Nat.lt_of_lt_of_le x.2 hg.size⟩), fun q hq => ?_⟩
    rcases List.mem_cons.1 hq with rfl | hq
    · intro e
      have := hb b e
      omega
    · exact hb'.2 q hq
  refine ⟨h.below.grown hg hsz (fun k hk => by cases hk), h.low, ?_, ?_⟩
  · intro q hq
    rcases List.mem_cons.1 hq with rfl | hq
    · exact hr
    · exact q.keep (fun b hb' => hg.block b (Free.lt h hb') (by simp)) hfree (fun g hg' => hg.block g (q.lt (h.all q hq) hg').2 (by simp)) (h.all q hq)
  · refine List.pairwise_cons.2 ⟨fun q hq g h1 h2 => ?_, h.dj⟩
    have h3 := hb g h1
    have h4 := (q.lt (h.all q hq) h2).2
    omega

/-- Blocks are added. -/
theorem Sep.more (h : Sep w0 F0 Γ W) (hg : W.grownBy W' none) : Sep w0 F0 Γ W' := by
  have hfree : ∀ b, Free w0.heap.size F0 Γ W b → Free w0.heap.size F0 Γ W' b := fun b hb' =>
    ⟨hb'.1.imp (fun x => x) (fun x => ⟨x.1, Nat.lt_of_lt_of_le x.2 hg.size⟩), hb'.2⟩
  exact ⟨h.below.grown hg h.size (fun k hk => by cases hk), h.low, fun q hq => q.keep (fun b hb' => hg.block b (Free.lt h hb') (by simp)) hfree (fun g hg' => hg.block g (q.lt (h.all q hq) hg').2 (by simp)) (h.all q hq), h.dj⟩

theorem grown_of_below {W W' : World} {row : Option Nat} (h : Below W.heap.size W W') : W.grownBy W' row := ⟨h.os, h.tape, h.output, h.size, fun k hk _ => h.block k hk⟩
theorem Sep.belows (h : Sep w0 F0 Γ W) (hb : Below W.heap.size W W') : Sep w0 F0 Γ W' := h.more (grown_of_below hb)
theorem Sep.drew (h : Sep w0 F0 Γ W) : Sep w0 F0 Γ W.drew := h.belows (Below.refl _ _).drew
theorem Sep.drewN (h : Sep w0 F0 Γ W) (n : Nat) : Sep w0 F0 Γ (W.drewN n) := h.belows (below_drewN (Below.refl _ _) n)

/-- A fact is added. -/
theorem Sep.add (h : Sep w0 F0 Γ W) {r : Res} (hn : r.block = none) (hr : r.holds w0.heap.size (Free w0.heap.size F0 Γ W) W) : Sep w0 F0 (r :: Γ) W := by
  refine h.grow ⟨rfl, rfl, rfl, Nat.le_refl _, fun _ _ _ => rfl⟩ (r.keep (fun _ _ => rfl) (fun b hb => ⟨hb.1, fun q hq => ?_⟩) (fun _ _ => rfl) hr) (fun g hg => by rw [hn] at hg; cases hg)
  rcases List.mem_cons.1 hq with rfl | hq
  · rw [hn]; simp
  · exact hb.2 q hq

/-- What holds beside a list holds beside it and a fact. -/
theorem Sep.lift (h : Sep w0 F0 Γ W) {r q : Res} (hn : q.block = none) (hr : r.holds w0.heap.size (Free w0.heap.size F0 Γ W) W) : r.holds w0.heap.size (Free w0.heap.size F0 (q :: Γ) W) W :=
  r.keep (fun _ _ => rfl) (fun b hb => ⟨hb.1, fun p hp => by
    rcases List.mem_cons.1 hp with rfl | hp
    · rw [hn]; simp
    · exact hb.2 p hp⟩) (fun _ _ => rfl) hr
/-- Two, three facts are added. -/
theorem Sep.add2 (h : Sep w0 F0 Γ W) {r q : Res} (hn : r.block = none) (hm : q.block = none) (hr : r.holds w0.heap.size (Free w0.heap.size F0 Γ W) W) (hq : q.holds w0.heap.size (Free w0.heap.size F0 Γ W) W) : Sep w0 F0 (r :: q :: Γ) W :=
  (h.add hm hq).add hn (h.lift hm hr)
theorem Sep.add3 (h : Sep w0 F0 Γ W) {r q p : Res} (hn : r.block = none) (hm : q.block = none) (ho : p.block = none) (hr : r.holds w0.heap.size (Free w0.heap.size F0 Γ W) W) (hq : q.holds w0.heap.size (Free w0.heap.size F0 Γ W) W) (hp : p.holds w0.heap.size (Free w0.heap.size F0 Γ W) W) : Sep w0 F0 (r :: q :: p :: Γ) W :=
  ((h.add ho hp).add hm (h.lift ho hq)).add hn ((h.add ho hp).lift hm (h.lift ho hr))

/-- One thing is changed, or has moved: all else stands. -/
theorem Sep.put (h : Sep w0 F0 Γ W) {r r' : Res} (hp : Put Γ r r' Γ') (hg : W.grownBy W' r.block) (hb : ∀ g, r'.block = some g → r.block = some g ∨ W.heap.size ≤ g)
    (hr : (∀ b, Free w0.heap.size F0 Γ W b → Free w0.heap.size F0 Γ' W' b) → Agree (Free w0.heap.size F0 Γ W) W W' → r.holds w0.heap.size (Free w0.heap.size F0 Γ W) W → r'.holds w0.heap.size (Free w0.heap.size F0 Γ' W') W') : Sep w0 F0 Γ' W' := by
  obtain ⟨l1, l2, rfl, rfl⟩ := hp
  have hmr : r ∈ l1 ++ r :: l2 := by simp
  have hother : ∀ q, q ∈ l1 ∨ q ∈ l2 → q ∈ l1 ++ r :: l2 := fun q hq => by rcases hq with hq | hq <;> simp [hq]
  have hp := List.pairwise_append.1 h.dj
  have hp2 := List.pairwise_cons.1 hp.2.1
  have hdj : ∀ q, q ∈ l1 ∨ q ∈ l2 → ∀ g, q.block = some g → r.block ≠ some g := by
    intro q hq g h1 h2
    rcases hq with hq | hq
    · exact hp.2.2 q hq r (by simp) g h1 h2
    · exact hp2.1 q hq g h2 h1
  have hfree : ∀ b, Free w0.heap.size F0 (l1 ++ r :: l2) W b → Free w0.heap.size F0 (l1 ++ r' :: l2) W' b := by
    intro b hb'
    have hlt := Free.lt h hb'
    refine ⟨hb'.1.imp (fun x => x) (fun x => ⟨x.1, Nat.lt_of_lt_of_le x.2 hg.size⟩), fun q hq => ?_⟩
    simp only [List.mem_append, List.mem_cons] at hq
    rcases hq with hq | rfl | hq
    · exact hb'.2 q (hother q (.inl hq))
    · intro e
      rcases hb b e with h1 | h1
      · exact hb'.2 r hmr h1
      · omega
    · exact hb'.2 q (hother q (.inr hq))
  have hag : Agree (Free w0.heap.size F0 (l1 ++ r :: l2) W) W W' := fun b hb' => hg.block b (Free.lt h hb') (fun e => hb'.2 r hmr e.symm)
  have hkeep : ∀ q, q ∈ l1 ∨ q ∈ l2 → q.holds w0.heap.size (Free w0.heap.size F0 (l1 ++ r' :: l2) W') W' := fun q hq =>
    q.keep hag hfree (fun g hg' => hg.block g (q.lt (h.all q (hother q hq)) hg').2 (fun e => hdj q hq g hg' e.symm)) (h.all q (hother q hq))
  refine ⟨h.below.grown hg h.size (fun k hk => (r.lt (h.all r hmr) hk).1), h.low, ?_, ?_⟩
  · intro q hq
    simp only [List.mem_append, List.mem_cons] at hq
    rcases hq with hq | rfl | hq
    · exact hkeep q (.inl hq)
    · exact hr hfree hag (h.all r hmr)
    · exact hkeep q (.inr hq)
  · have hnew : ∀ q, q ∈ l1 ∨ q ∈ l2 → ∀ g, q.block = some g → r'.block ≠ some g := by
      intro q hq g h1 h2
      rcases hb g h2 with h3 | h3
      · exact hdj q hq g h1 h3
      · have := (q.lt (h.all q (hother q hq)) h1).2
        omega
    refine List.pairwise_append.2 ⟨hp.1, List.pairwise_cons.2 ⟨fun q hq g h1 h2 => hnew q (.inr hq) g h2 h1, hp2.2⟩, ?_⟩
    intro q hq q' hq' g h1 h2
    rcases List.mem_cons.1 hq' with rfl | hq'
    · exact hnew q (.inl hq) g h1 h2
    · exact hp.2.2 q hq q' (by simp [hq']) g h1 h2

/-- A new variable. -/
theorem Sep.alloc (h : Sep w0 F0 Γ W) (cs : List Value) (t : Nat) : Sep w0 F0 (box W.heap.size cs t :: Γ) (W.alloc (.cells cs.toArray t)) :=
  h.grow (World.grownBy_alloc W _ none) ⟨h.size, heap_alloc_new W _⟩ (fun g hg => by injection hg with hg; omega)
/-- A store into a variable. -/
theorem Sep.store (h : Sep w0 F0 Γ W) {g t j : Nat} {cs : List Value} (u : Value) (hp : Put Γ (box g cs t) (box g (cs.set j u) t) Γ') : Sep w0 F0 Γ' (W.setCell ⟨g, j, none⟩ u) := by
  refine h.put hp ⟨rfl, rfl, rfl, by simp [World.setCell], fun k hk hne => Below.heap_setCell _ _ _ _ (fun e => hne (by rw [e]; rfl))⟩ (fun g' hg' => .inl hg') ?_
  intro _ _ hr
  refine ⟨hr.1, ?_⟩
  have := blk_set (i := j) (u := u) hr.2
  rw [this]
  simp
/-- A variable, or a row, is owned no more. -/
theorem Sep.freeze (h : Sep w0 F0 Γ W) {r r' : Res} (hp : Put Γ r r' Γ') (hn : r'.block = none) (hr : (∀ b, Free w0.heap.size F0 Γ W b ∨ (r.block = some b ∧ w0.heap.size ≤ b ∧ b < W.heap.size) → Free w0.heap.size F0 Γ' W b) → r.holds w0.heap.size (Free w0.heap.size F0 Γ W) W → r'.holds w0.heap.size (Free w0.heap.size F0 Γ' W) W) : Sep w0 F0 Γ' W := by
  refine h.put hp ⟨rfl, rfl, rfl, Nat.le_refl _, fun _ _ _ => rfl⟩ (fun g hg => by rw [hn] at hg; cases hg) ?_
  intro hf _ hh
  refine hr (fun b hb => ?_) hh
  rcases hb with hb | ⟨hb, h1, h2⟩
  · exact hf b hb
  · refine ⟨.inr ⟨h1, h2⟩, fun q hq e => ?_⟩
    obtain ⟨l1, l2, rfl, rfl⟩ := hp
    have hp := List.pairwise_append.1 h.dj
    have hp2 := List.pairwise_cons.1 hp.2.1
    simp only [List.mem_append, List.mem_cons] at hq
    rcases hq with hq | rfl | hq
    · exact hp.2.2 q hq r (by simp) b e hb
    · rw [hn] at e; cases e
    · exact hp2.1 q hq b hb e
end

/-- A type of so many cells, a struct or an array; a type of one cell. -/
def AggN (P : Program) (t : TypeId) (n : Nat) : Prop := ∃ d, P.underlying t = some d ∧ d.isRow = true ∧ (P.info? t).map (·.size) = some n
def OneT (P : Program) (t : TypeId) : Prop := ∃ d, P.underlying t = some d ∧ d.isRow = false ∧ (P.info? t).map (·.size) = some 1
/-- The zero of a type. -/
def ZeroT (P : Program) (t : TypeId) (cs : List Value) : Prop := ∃ z : Value, z.cells = cs.toArray ∧ ∀ W, (zeroValue t).run P W = .ok z W
/-- A slice type, its element's type, and what the element weighs. -/
def SliceT (P : Program) (t e size bytes : Nat) : Prop := P.underlying t = some (.slice e) ∧ ∃ i z, P.info? e = some i ∧ i.zero = some z ∧ i.size = size ∧ i.bytes = bytes ∧ z.cells.size = size
theorem SliceT.mk {P : Program} {t e size bytes : Nat} (h : P.underlying t = some (.slice e)) (h1 : (P.info? e).map (fun i => (i.zero.map (·.cells.size), i.size, i.bytes)) = some (some size, size, bytes)) : SliceT P t e size bytes := by
  refine ⟨h, ?_⟩
  match hh : P.info? e, h1 with
  | some i, h1 =>
    simp only [Option.map_some, Option.some.injEq, Prod.mk.injEq] at h1
    match hz : i.zero, h1 with
    | some z, h1 => exact ⟨i, z, rfl, hz, h1.2.1, h1.2.2, by simpa using h1.1⟩
theorem AggN.mk {P : Program} {t n : Nat} {d : TypeDesc} (h : P.underlying t = some d) (hd : d.isRow = true) (hi : (P.info? t).map (·.size) = some n) : AggN P t n := ⟨d, h, hd, hi⟩
theorem OneT.mk {P : Program} {t : Nat} {d : TypeDesc} (h : P.underlying t = some d) (hd : d.isRow = false) (hi : (P.info? t).map (·.size) = some 1) : OneT P t := ⟨d, h, hd, hi⟩
theorem OneT.load {P : Program} {t : Nat} (h : OneT P t) {W : World} {p : Addr} {v : Value} (hv : W.cell? p = some v) : (loadVar t p).run P W = .ok v W := by
  obtain ⟨d, hu, hd, _⟩ := h
  have hagg : (isAgg t).run P W = .ok false W := by
    unfold isAgg
    rw [Sem.run_bind, run_underlying hu W]
    cases d <;> simp_all
  simp [loadVar, Sem.run_bind, hagg, hv]
theorem AggN.load {P : Program} {t b o : Nat} {cs : List Value} (h : AggN P t cs.length) {W : World} (hv : W.rangeAt b o cs) : (loadVar t ⟨b, o, none⟩).run P W = .ok (.agg cs.toArray) W := by
  obtain ⟨d, hu, hd, hi⟩ := h
  exact run_loadVar_mid W b o t cs d hv hu hd hi
theorem cells_one {v : Value} (h : v.oneCell' = true) : v.cells = #[v] := by cases v <;> first | rfl | cases h
theorem OneT.store {P : Program} {t : Nat} (h : OneT P t) {W : World} {p : Addr} {v u : Value} (hv : W.cell? p = some u) (hf : W.frozen? p = false) (h1 : v.oneCell' = true) : (storeVar t p v).run P W = .ok () (W.setCell p v) := by
  obtain ⟨d, hu, hd, hi⟩ := h
  match hh : P.info? t, hi with
  | some i, hi =>
    simp at hi
    have e : p.add 0 = p := by unfold Addr.add; simp
    simp [storeVar, sizeOf, typeInfo, hh, cells_one h1, hi, storeCells, e, run_store P W p v _ h1, hv, hf]
theorem AggN.store {P : Program} {t g ty : Nat} {old cs : List Value} (h : AggN P t cs.length) {W : World} (hg : W.heap[g]? = some (.cells old.toArray ty (0, 0))) (hl : old.length = cs.length) (h1 : Ones cs) :
    (storeVar t ⟨g, 0, none⟩ (.agg cs.toArray)).run P W = .ok () (W.setRow g cs.toArray) := by
  obtain ⟨d, hu, hd, hi⟩ := h
  exact run_storeVar_row W g ty t old.toArray cs.toArray hg (by simpa using hi) (by simpa using hl) (all_oneCell_toArray h1)

/-! What a call hands back. -/
def RV (w0 : World) (F0 : Nat → Prop) (Γ : List Res) (v : Value) (e : Ending) (W : World) : Prop := e = .returned v ∧ Sep w0 F0 Γ W
def RS (w0 : World) (F0 : Nat → Prop) (Γ : List Res) {τ : Type} (S : Sh τ) (x : τ) (e : Ending) (W : World) : Prop := ∃ cs : List Value, e = .returned (.agg cs.toArray) ∧ Sep w0 F0 (rep x cs S :: Γ) W
def RL (w0 : World) (F0 : Nat → Prop) (Γ : List Res) {τ : Type} (S : Sh τ) (xs : List τ) (e : Ending) (W : World) : Prop := ∃ A n c, e = .returned (.slice A n c) ∧ Sep w0 F0 (rds xs A n c S :: Γ) W
def RO (w0 : World) (F0 : Nat → Prop) (Γ : List Res) {τ : Type} (S : Sh τ) (t : Nat) (xs : List τ) (e : Ending) (W : World) : Prop := ∃ v, e = .returned v ∧ Sep w0 F0 (row t v xs S :: Γ) W
/-- With an error behind it. -/
def RSE (w0 : World) (F0 : Nat → Prop) (Γ : List Res) {τ : Type} (S : Sh τ) (x : τ) (n : Int) (e : Ending) (W : World) : Prop := ∃ cs : List Value, e = .returned (.tuple #[.agg cs.toArray, .int .i64 n]) ∧ Sep w0 F0 (rep x cs S :: Γ) W
def RLE (w0 : World) (F0 : Nat → Prop) (Γ : List Res) {τ : Type} (S : Sh τ) (xs : List τ) (m : Int) (e : Ending) (W : World) : Prop := ∃ A n c, e = .returned (.tuple #[.slice A n c, .int .i64 m]) ∧ Sep w0 F0 (rds xs A n c S :: Γ) W

section
variable {P : Program} {w0 W : World} {F0 : Nat → Prop} {Γ Γ' Γ1 : List Res}

/-- An elder contract that only draws, or makes memory. -/
theorem Sep.old (h : Sep w0 F0 Γ W) {f : FuncId} {args : Array Value} {v : Value} (hc : Calls P f args W fun e w' => e = .returned v ∧ Below W.heap.size W w') : Calls P f args W (RV w0 F0 Γ v) :=
  hc.mono fun e w' ⟨h1, h2⟩ => ⟨h1, h.belows h2⟩
theorem Sep.oldN (h : Sep w0 F0 Γ W) {f : FuncId} {args : Array Value} {v : Value} (hc : Calls P f args W fun e w' => e = .returned v ∧ ∃ m, w' = W.drewN m) : Calls P f args W (RV w0 F0 Γ v) :=
  hc.mono fun e w' ⟨h1, m, h2⟩ => ⟨h1, h2 ▸ h.drewN m⟩
theorem Sep.oldS (h : Sep w0 F0 Γ W) {f : FuncId} {args : Array Value} {v : Value} (hc : Calls P f args W fun e w' => e = .returned v ∧ W = w') : Calls P f args W (RV w0 F0 Γ v) :=
  hc.mono fun e w' ⟨h1, h2⟩ => ⟨h1, h2 ▸ h⟩
theorem Sep.oldS' (h : Sep w0 F0 Γ W) {f : FuncId} {args : Array Value} {v : Value} (hc : Calls P f args W fun e w' => e = .returned v ∧ w' = W) : Calls P f args W (RV w0 F0 Γ v) :=
  hc.mono fun e w' ⟨h1, h2⟩ => ⟨h1, h2 ▸ h⟩

theorem Sep.boxAt (h : Sep w0 F0 Γ W) {g t : Nat} {cs : List Value} (hm : At Γ (box g cs t)) : W.rangeAt g 0 cs := fun j v hv => by
  rw [Nat.zero_add, blk_cell (h.get hm).2]; simpa using hv
theorem Sep.cellsAt (h : Sep w0 F0 Γ W) {b o : Nat} {cs : List Value} (hm : At Γ (cells b o cs)) : W.rangeAt b o cs := (h.get hm).2

section
variable {ops : Array Oper} {Q : Exit → Act → World → Prop} {a : Act} {rest : List Oper} {o : Oper} {t : TypeId} {x y : Operand}

theorem Sep.wbox (h : Sep w0 F0 Γ W) {cs : List Value} (hgd : Region.wanted o (yielded ops a.tmps) = true) (ho : o.op = .box t x) (hx : (a.eval x).cells = cs.toArray)
    (k : ∀ g W', Sep w0 F0 (box g cs t :: Γ) W' → wpList P ops Q rest (a.put o.dst (.pointer (some ⟨g, 0, none⟩))) W') : wpList P ops Q (o :: rest) a W :=
  BigFrame.wpList_want hgd fun K hK => by
    unfold Oper.wp execOp
    simp only [ho, Instr.box, newVar, newRow, Sem.run_bind, run_newObj_alloc, Result.andThen_ok, Sem.run_pure, hx]
    exact hK _ _ (k _ _ (h.alloc cs t))
theorem Sep.walloc (h : Sep w0 F0 Γ W) {cs : List Value} (hgd : Region.wanted o (yielded ops a.tmps) = true) (ho : o.op = .alloc t) (hz : ZeroT P t cs)
    (k : ∀ g W', Sep w0 F0 (box g cs t :: Γ) W' → wpList P ops Q rest (a.put o.dst (.pointer (some ⟨g, 0, none⟩))) W') : wpList P ops Q (o :: rest) a W :=
  BigFrame.wpList_want hgd fun K hK => by
    obtain ⟨z, hz1, hz2⟩ := hz
    unfold Oper.wp execOp
    simp only [ho, Instr.alloc, newVar, newRow, Sem.run_bind, run_newObj_alloc, Result.andThen_ok, Sem.run_pure, hz2, hz1]
    exact hK _ _ (k _ _ (h.alloc cs t))
theorem wload (hgd : Region.wanted o (yielded ops a.tmps) = true) (ho : o.op = .load t x) {p : Addr} {v : Value} (hx : a.eval x = .pointer (some p)) (hr : (loadVar t p).run P W = .ok v W)
    (k : wpList P ops Q rest (a.put o.dst v) W) : wpList P ops Q (o :: rest) a W :=
  BigFrame.wpList_want hgd fun K hK => by
    unfold Oper.wp execOp
    simp only [ho, Instr.loadAt, Instr.sureAddr, Sem.run_bind, Result.andThen_ok, Sem.run_pure, hx, hr]
    exact hK _ _ k
theorem Sep.wload1b (h : Sep w0 F0 Γ W) (hgd : Region.wanted o (yielded ops a.tmps) = true) (ho : o.op = .load t x) {g j ty : Nat} {cs : List Value} {v : Value} (hx : a.eval x = .pointer (some ⟨g, j, none⟩)) (h1 : OneT P t) (hm : At Γ (box g cs ty)) (hv : cs[j]? = some v)
    (k : wpList P ops Q rest (a.put o.dst v) W) : wpList P ops Q (o :: rest) a W := by
  refine wload hgd ho hx (h1.load ?_) k
  have := h.boxAt hm j v hv
  rwa [Nat.zero_add] at this
theorem Sep.wloadNb (h : Sep w0 F0 Γ W) (hgd : Region.wanted o (yielded ops a.tmps) = true) (ho : o.op = .load t x) {g ty : Nat} {cs : List Value} (hx : a.eval x = .pointer (some ⟨g, 0, none⟩)) (hm : At Γ (box g cs ty)) (h1 : AggN P t cs.length)
    (k : wpList P ops Q rest (a.put o.dst (.agg cs.toArray)) W) : wpList P ops Q (o :: rest) a W :=
  wload hgd ho hx (h1.load (h.boxAt hm)) k
theorem range_part {b o : Nat} {cs cs' : List Value} {j n : Nat} (h : W.rangeAt b o cs) (hc : (cs.drop j).take n = cs') : W.rangeAt b (o + j) cs' := fun i v hv => by
  subst hc
  have hi : i < n := by
    have := (List.getElem?_eq_some_iff.1 hv).1
    simp at this; omega
  rw [List.getElem?_take, if_pos hi, List.getElem?_drop] at hv
  rw [Nat.add_assoc]
  exact h _ _ hv
theorem Sep.wloadPb (h : Sep w0 F0 Γ W) (hgd : Region.wanted o (yielded ops a.tmps) = true) (ho : o.op = .load t x) {g j n ty : Nat} {cs cs' : List Value} (hx : a.eval x = .pointer (some ⟨g, j, none⟩)) (h1 : AggN P t n) (hm : At Γ (box g cs ty)) (hc : (cs.drop j).take n = cs') (hn : cs'.length = n)
    (k : wpList P ops Q rest (a.put o.dst (.agg cs'.toArray)) W) : wpList P ops Q (o :: rest) a W := by
  subst hn
  have := range_part (h.boxAt hm) hc
  rw [Nat.zero_add] at this
  exact wload hgd ho hx (h1.load this) k
theorem Sep.wload1c (h : Sep w0 F0 Γ W) (hgd : Region.wanted o (yielded ops a.tmps) = true) (ho : o.op = .load t x) {b q j : Nat} {cs : List Value} {v : Value} (hx : a.eval x = .pointer (some ⟨b, q + j, none⟩)) (h1 : OneT P t) (hm : At Γ (cells b q cs)) (hv : cs[j]? = some v)
    (k : wpList P ops Q rest (a.put o.dst v) W) : wpList P ops Q (o :: rest) a W :=
  wload hgd ho hx (h1.load (h.cellsAt hm j v hv)) k
theorem Sep.wload1z (h : Sep w0 F0 Γ W) (hgd : Region.wanted o (yielded ops a.tmps) = true) (ho : o.op = .load t x) {b q : Nat} {cs : List Value} {v : Value} (hx : a.eval x = .pointer (some ⟨b, q, none⟩)) (h1 : OneT P t) (hm : At Γ (cells b q cs)) (hv : cs[0]? = some v)
    (k : wpList P ops Q rest (a.put o.dst v) W) : wpList P ops Q (o :: rest) a W :=
  wload hgd ho hx (h1.load (h.cellsAt hm 0 v hv)) k
theorem Sep.wloadNz (h : Sep w0 F0 Γ W) (hgd : Region.wanted o (yielded ops a.tmps) = true) (ho : o.op = .load t x) {b q : Nat} {cs : List Value} (hx : a.eval x = .pointer (some ⟨b, q, none⟩)) (hm : At Γ (cells b q cs)) (h1 : AggN P t cs.length)
    (k : wpList P ops Q rest (a.put o.dst (.agg cs.toArray)) W) : wpList P ops Q (o :: rest) a W :=
  wload hgd ho hx (h1.load (h.cellsAt hm)) k
theorem Sep.wloadPz (h : Sep w0 F0 Γ W) (hgd : Region.wanted o (yielded ops a.tmps) = true) (ho : o.op = .load t x) {b q n : Nat} {cs cs' : List Value} (hx : a.eval x = .pointer (some ⟨b, q, none⟩)) (h1 : AggN P t n) (hm : At Γ (cells b q cs)) (hc : cs.take n = cs') (hn : cs'.length = n)
    (k : wpList P ops Q rest (a.put o.dst (.agg cs'.toArray)) W) : wpList P ops Q (o :: rest) a W := by
  subst hn
  have := range_part (j := 0) (h.cellsAt hm) (by simpa using hc)
  exact wload hgd ho hx (h1.load this) k
theorem Sep.wloadPc (h : Sep w0 F0 Γ W) (hgd : Region.wanted o (yielded ops a.tmps) = true) (ho : o.op = .load t x) {b q j n : Nat} {cs cs' : List Value} (hx : a.eval x = .pointer (some ⟨b, q + j, none⟩)) (h1 : AggN P t n) (hm : At Γ (cells b q cs)) (hc : (cs.drop j).take n = cs') (hn : cs'.length = n)
    (k : wpList P ops Q rest (a.put o.dst (.agg cs'.toArray)) W) : wpList P ops Q (o :: rest) a W := by
  subst hn
  exact wload hgd ho hx (h1.load (range_part (h.cellsAt hm) hc)) k

theorem wstore (hgd : Region.wanted o (yielded ops a.tmps) = true) (ho : o.op = .store t x y) {p : Addr} {v : Value} {W' : World} (hx : a.eval x = .pointer (some p)) (hy : a.eval y = v) (hr : (storeVar t p v).run P W = .ok () W')
    (k : wpList P ops Q rest (a.put o.dst undef) W') : wpList P ops Q (o :: rest) a W :=
  BigFrame.wpList_want hgd fun K hK => by
    unfold Oper.wp execOp
    simp only [ho, Instr.storeAt, Instr.sureAddr, Sem.run_bind, Result.andThen_ok, Sem.run_pure, hx, hy, hr]
    exact hK _ _ k
theorem Sep.wstore1b (h : Sep w0 F0 Γ W) (hgd : Region.wanted o (yielded ops a.tmps) = true) (ho : o.op = .store t x y) {g j ty : Nat} {cs cs' : List Value} {v u : Value} (hx : a.eval x = .pointer (some ⟨g, j, none⟩)) (hy : a.eval y = v) (h1 : OneT P t) (hone : v.oneCell' = true)
    (hm : At Γ (box g cs ty)) (hv : cs[j]? = some u) (hc : cs.set j v = cs') (hp : Put Γ (box g cs ty) (box g cs' ty) Γ')
    (k : ∀ W', Sep w0 F0 Γ' W' → wpList P ops Q rest (a.put o.dst undef) W') : wpList P ops Q (o :: rest) a W := by
  subst hc
  have hb := (h.get hm).2
  refine wstore hgd ho hx hy (h1.store (u := u) ?_ (blk_free hb) hone) (k _ (h.store v hp))
  have := h.boxAt hm j u hv
  rwa [Nat.zero_add] at this
theorem setRow_far {W : World} {g k : Nat} {cs : Array Value} (h : k ≠ g) : (W.setRow g cs).heap[k]? = W.heap[k]? := setRow_other W g k cs h
theorem Sep.setRow (h : Sep w0 F0 Γ W) {g ty : Nat} {cs cs' : List Value} (hp : Put Γ (box g cs ty) (box g cs' ty) Γ') : Sep w0 F0 Γ' (W.setRow g cs'.toArray) := by
  refine h.put hp ⟨rfl, rfl, rfl, by simp, fun k hk hne => setRow_far (fun e => hne (by rw [e]; rfl))⟩ (fun g' hg' => .inl hg') ?_
  intro _ _ hr
  exact ⟨hr.1, setRow_heap W g cs.toArray cs'.toArray ty _ hr.2⟩
theorem Sep.wstoreNb (h : Sep w0 F0 Γ W) (hgd : Region.wanted o (yielded ops a.tmps) = true) (ho : o.op = .store t x y) {g ty : Nat} {cs cs' : List Value} (hx : a.eval x = .pointer (some ⟨g, 0, none⟩)) (hy : a.eval y = .agg cs'.toArray) (h1 : AggN P t cs'.length) (hone : Ones cs')
    (hm : At Γ (box g cs ty)) (hl : cs.length = cs'.length) (hp : Put Γ (box g cs ty) (box g cs' ty) Γ')
    (k : ∀ W', Sep w0 F0 Γ' W' → wpList P ops Q rest (a.put o.dst undef) W') : wpList P ops Q (o :: rest) a W := by
  have hb := (h.get hm).2
  exact wstore hgd ho hx hy (h1.store hb hl hone) (k _ (h.setRow hp))
end
end

theorem Addr_add_mk (b off k : Nat) : (Addr.mk b off none).add k = ⟨b, off + k, none⟩ := by unfold Addr.add; split <;> simp_all

section
variable {P : Program} {w0 W : World} {F0 : Nat → Prop} {Γ Γ' Γ1 Γ2 : List Res}

theorem Del.sub {r : Res} (h : Del Γ r Γ1) : Sub Γ1 Γ := by
  obtain ⟨l1, l2, rfl, rfl⟩ := h
  exact ⟨[r], by simpa using List.perm_middle.trans (List.perm_append_singleton r (l1 ++ l2)).symm⟩
theorem Del.front {r : Res} (h : Del Γ r Γ1) : Sub (r :: Γ1) Γ := Sub.take h Sub.refl
theorem Sep.del (h : Sep w0 F0 Γ W) {r : Res} (hd : Del Γ r Γ1) : Sep w0 F0 Γ1 W := h.sub hd.sub
theorem Sep.front (h : Sep w0 F0 Γ W) {r : Res} (hd : Del Γ r Γ1) : Sep w0 F0 (r :: Γ1) W := h.sub hd.front

/-- Element number i of a slice that is only read. -/
theorem Sep.elem (h : Sep w0 F0 Γ W) {α : Type} {S : Sh α} {xs : List α} {A : Option Addr} {n c i : Nat} (hm : At Γ (rds xs A n c S)) (hi : i < n) :
    ∃ b off z cs, A = some ⟨b, off, none⟩ ∧ xs[i]? = some z ∧ Sep w0 F0 (cells b (off + i * S.size) cs :: rep z cs S :: Γ) W := by
  have hr : Rds S W (Free w0.heap.size F0 Γ W) xs A n c := h.get hm
  obtain ⟨b, off, z, cs, e, hF, hx, hz, hc⟩ := hr.at_ hi
  refine ⟨b, off, z, cs, e, hx, ?_⟩
  have h1 : Sep w0 F0 (rep z cs S :: Γ) W := h.add rfl hz
  exact h1.add rfl ⟨⟨hF.1, fun q hq => by
    rcases List.mem_cons.1 hq with rfl | hq
    · intro e; cases e
    · exact hF.2 q hq⟩, hc⟩

section
variable {ops : Array Oper} {Q : Exit → Act → World → Prop} {a : Act} {rest : List Oper} {o : Oper} {t : TypeId} {x y : Operand}

theorem run_indexAt_slice {e size b off n c : Nat} {k : IntKind} {i : Int} {ie : TypeInfo} (ht : P.underlying t = some (.slice e)) (he : P.info? e = some ie) (hs : ie.size = size) (h0 : 0 ≤ i) (h1 : i < n) :
    (Instr.indexAt t (.slice (some ⟨b, off, none⟩) n c) (.int k i)).run P W = .ok (.pointer (some ⟨b, off + i.toNat * size, none⟩)) W := by
  have : (0 ≤ i ∧ i < n) := ⟨h0, h1⟩
  simp [Instr.indexAt, asIntOf, run_underlying ht, sizeOf, typeInfo, he, hs, this, Addr_add_mk]
theorem Sep.windex (h : Sep w0 F0 Γ W) (hgd : Region.wanted o (yielded ops a.tmps) = true) (ho : o.op = .indexAddr t x y) {α : Type} {S : Sh α} {xs : List α} {A : Option Addr} {n c e bytes : Nat} {kd : IntKind} {i : Int} (hx : a.eval x = .slice A n c) (hy : a.eval y = .int kd i)
    (hm : At Γ (rds xs A n c S)) (hT : SliceT P t e S.size bytes) (h0 : 0 ≤ i) (h1 : i < n)
    (k : ∀ b q z cs, Hid (xs[i.toNat]? = some z) → Sep w0 F0 (cells b q cs :: rep z cs S :: Γ) W → wpList P ops Q rest (a.put o.dst (.pointer (some ⟨b, q, none⟩))) W) : wpList P ops Q (o :: rest) a W :=
  BigFrame.wpList_want hgd fun K hK => by
    obtain ⟨b, off, z, cs, rfl, hz, hS⟩ := h.elem hm (i := i.toNat) (by omega)
    obtain ⟨ht, ie, zv, he, _, hs, _⟩ := hT
    unfold Oper.wp execOp
    simp only [ho, hx, hy, Sem.run_bind, run_indexAt_slice ht he hs h0 h1, Result.andThen_ok, Sem.run_pure]
    exact hK _ _ (k _ _ _ _ (Lib.hid hz) hS)
/-- The same, the place a natural number. -/
theorem Sep.windexN (h : Sep w0 F0 Γ W) (hgd : Region.wanted o (yielded ops a.tmps) = true) (ho : o.op = .indexAddr t x y) {α : Type} {S : Sh α} {xs : List α} {A : Option Addr} {n c e bytes : Nat} {kd : IntKind} {i : Nat} (hx : a.eval x = .slice A n c) (hy : a.eval y = .int kd (i : Int))
    (hm : At Γ (rds xs A n c S)) (hT : SliceT P t e S.size bytes) (h1 : i < n)
    (k : ∀ b q z cs, Hid (xs[i]? = some z) → Sep w0 F0 (cells b q cs :: rep z cs S :: Γ) W → wpList P ops Q rest (a.put o.dst (.pointer (some ⟨b, q, none⟩))) W) : wpList P ops Q (o :: rest) a W :=
  h.windex hgd ho hx hy hm hT (by omega) (by omega) fun b q z cs hz hS => k b q z cs (by simpa using hz) hS

theorem map_one (a : Act) (i : Nat) (x : Operand) : ((#[(i, x)] : Array (Nat × Operand)).map fun (i, x) => (i, a.eval x)).toList = (([a.eval x]).zipIdx i).map fun p => (p.2, p.1) := by simp
/-- A slice of one element written out. -/
theorem Sep.wbuild1 (h : Sep w0 F0 Γ W) (hgd : o.guard = none) (ho : o.op = .buildSlice t 1 #[(0, x)]) {e s bytes : Nat} {cs : List Value} (hT : SliceT P t e s bytes) (hs : 0 < s) (hs2 : s ≤ 1000) (hx : (a.eval x).cells = cs.toArray) (hc : cs.length = s)
    (k : ∀ g W', Sep w0 F0 (box g cs e :: Γ) W' → wpList P ops Q rest (a.put o.dst (.slice (some ⟨g, 0, none⟩) 1 1)) W') : wpList P ops Q (o :: rest) a W := by
  obtain ⟨ht, ie, zv, he, hz, hsz, _, hzs⟩ := hT
  refine wpList_buildSlice hgd t e 1 _ ho cs.toArray ie zv ht he hz (by rw [hsz]; omega) (by rw [hsz]; omega) ?_ (k _ _ (h.alloc cs e))
  rw [map_one, hsz, Nat.one_mul]
  refine (Great.fill_whole hs [a.eval x] _ (fun v hv => ?_) (by simp)).trans ?_
  · simp only [List.mem_singleton] at hv
    subst hv
    rw [hx]; simpa using hc
  · simp [hx]

/-- 'append' of one element to a row of the call's own. -/
theorem Sep.wappend1 (h : Sep w0 F0 Γ W) (hgd : o.guard = none) (ho : o.op = .call { callee := .builtin .append, args := #[x, y], argTypes := #[t, t] }) {α : Type} {S : Sh α} {e bytes g : Nat} {v : Value} {xs : List α} {z : α} {cs : List Value}
    (hx : a.eval x = v) (hy : a.eval y = .slice (some ⟨g, 0, none⟩) 1 1) (hb : Del Γ (box g cs e) Γ1) (hr : Del Γ1 (row e v xs S) Γ2) (hz : At Γ2 (rep z cs S)) (hT : SliceT P t e S.size bytes) (hpos : 0 < S.size) (hS1 : S.ones) (hl : xs.length ≤ 1000000) (hby : bytes ≤ 10000)
    (k : ∀ v' W', Sep w0 F0 (row e v' (xs ++ [z]) S :: Γ2) W' → wpList P ops Q rest (a.put o.dst v') W') : wpList P ops Q (o :: rest) a W := by
  obtain ⟨ht, ie, zv, he, hz0, hsz, hbz, hzs⟩ := hT
  have hbox := h.get (Put.at_ (by obtain ⟨l1, l2, rfl, rfl⟩ := hb; exact ⟨l1, l2, rfl, rfl⟩ : Put Γ (box g cs e) (box g cs e) Γ))
  have h1 := (h.del hb).front hr
  obtain ⟨zs, hz1, hz2, hz3⟩ := h1.get At.z
  have hrep : S.rep W _ z cs := h1.get (At.s hz)
  have hlen := S.len hrep
  refine wpList_append_own_at W hgd x y t ho w0.heap.size e ie zv S.size bytes ht he hz0 hsz hbz hzs hpos v xs.length (flat zs) hx hz2 ⟨g, 0, none⟩ 1 1 cs hy (by rw [hlen, Nat.one_mul])
    (fun j u hj => by rw [Addr_add_mk, Nat.zero_add, blk_cell hbox.2]; simpa using hj) (hS1 hrep) (by unfold maxLen; omega) ?_ h.size ?_
  · have := Nat.mul_le_mul (show xs.length + 1 ≤ 1000001 by omega) hby
    omega
  · intro v' W' ho1 hgr _ hat
    refine k v' W' (h1.put (r' := row e v' (xs ++ [z]) S) Put.z hgr ?_ ?_)
    · intro g' hg'
      rcases hat with h2 | h2
      · exact .inl (by rw [← hg']; exact h2.symm)
      · rw [show (row e v' (xs ++ [z]) S).block = v'.ownBlock from rfl, h2] at hg'
        injection hg' with hg'
        exact .inr (Nat.le_of_eq hg')
    · intro hfree hag _
      refine ⟨zs ++ [(z, cs)], by simp [hz1], ?_, ?_⟩
      · rw [flat_append, List.length_append]
        simpa [flat] using ho1
      · intro q hq
        rcases List.mem_append.1 hq with hq | hq
        · exact S.more hfree (S.keep hag (hz3 q hq))
        · simp only [List.mem_singleton] at hq
          subst hq
          exact S.more hfree (S.keep hag hrep)
/-- The nil slice is a row of the call's own. -/
theorem Sep.nilRow (h : Sep w0 F0 Γ W) {α : Type} (S : Sh α) (e : Nat) : Sep w0 F0 (row e (.slice none 0 0) [] S :: Γ) W :=
  h.grow ⟨rfl, rfl, rfl, Nat.le_refl _, fun _ _ _ => rfl⟩ ⟨[], rfl, World.ownsRow_nil _ _ _ _, by simp⟩ (fun g hg => by cases hg)
/-- A row that is owned no more. -/
theorem Sep.freezeRow (h : Sep w0 F0 Γ W) {α : Type} {S : Sh α} {e : Nat} {v : Value} {xs : List α} (hd : Del Γ (row e v xs S) Γ1) : ∃ A n c, v = .slice A n c ∧ n = xs.length ∧ Sep w0 F0 (rds xs A n c S :: Γ1) W := by
  have h1 := h.front hd
  obtain ⟨zs, hz1, hz2, hz3⟩ := h1.get At.z
  have hn : zs.length = xs.length := by rw [← hz1]; simp
  have key : ∀ F : Nat → Prop, (∀ b, Free w0.heap.size F0 (row e v xs S :: Γ1) W b ∨ (v.ownBlock = some b ∧ w0.heap.size ≤ b ∧ b < W.heap.size) → F b) → ∃ A c, v = .slice A xs.length c ∧ Rds S W F xs A xs.length c := by
    intro F hF
    have hz2' : W.ownsRow w0.heap.size e S.size v xs.length (flat zs) := hz2
    rcases hz2'.2 with ⟨hv, h0⟩ | ⟨g, cap, cur, hv, hg, hh, r⟩
    · have hx : xs = [] := List.eq_nil_of_length_eq_zero h0
      subst hx
      exact ⟨none, 0, hv, Rds.nil _ _ _⟩
    · have hgF : F g := hF g (.inr ⟨by rw [hv]; rfl, hg, blk_lt hh⟩)
      obtain ⟨hnc, hcm, hcs, hta⟩ := r
      refine ⟨_, _, hv, rfl, hnc, by unfold maxLen at hcm; omega, fun hpos => ⟨g, 0, rfl, hgF, fun i hi => ?_⟩⟩
      have hi' : i < zs.length := by omega
      refine ⟨zs[i].2, ?_, fun j u hj => ?_⟩
      · have e1 : xs[i] = zs[i].1 := by simp [← hz1]
        rw [e1]
        exact S.more (fun b hb => hF b (.inl hb)) (hz3 _ (List.getElem_mem hi'))
      · have hjl : j < S.size := by
          have := S.len (hz3 _ (List.getElem_mem hi'))
          have := (List.getElem?_eq_some_iff.1 hj).1
          omega
        have e1 := flat_at (fun z hz' => S.len (hz3 z hz')) (List.getElem?_eq_getElem hi') hjl
        rw [hj, ← hta, List.getElem?_take] at e1
        split at e1
        · rw [cell_of_row W g _ cur _ (0, 0) hh, Nat.zero_add]; simpa using e1
        · cases e1
  obtain ⟨A, c, hv, _⟩ := key (fun _ => True) (fun _ _ => trivial)
  refine ⟨A, xs.length, c, hv, rfl, h1.freeze (r' := rds xs A xs.length c S) Put.z rfl ?_⟩
  intro hF _
  obtain ⟨A', c', hv', hr⟩ := key _ hF
  rw [hv] at hv'
  simp only [Value.slice.injEq] at hv'
  obtain ⟨rfl, _, rfl⟩ := hv'
  exact hr
/-- A row is a slice. -/
theorem Sep.rowSlice (h : Sep w0 F0 Γ W) {α : Type} {S : Sh α} {e : Nat} {v : Value} {xs : List α} (hm : At Γ (row e v xs S)) : ∃ A c, v = .slice A xs.length c ∧ xs.length ≤ c ∧ c ≤ 9223372036854775807 := by
  obtain ⟨zs, hz1, hz2, hz3⟩ := h.get hm
  have hz2' : W.ownsRow w0.heap.size e S.size v xs.length (flat zs) := hz2
  rcases hz2'.2 with ⟨hv, h0⟩ | ⟨g, cap, cur, hv, hg, hh, hnc, hcm, r⟩
  · exact ⟨none, 0, by rw [hv, h0], by omega, by omega⟩
  · exact ⟨_, cap, hv, hnc, by unfold maxLen at hcm; omega⟩
end
/-- A fact that asks for nothing in memory. -/
theorem Sep.pure (h : Sep w0 F0 Γ W) {α : Type} {S : Sh α} {z : α} {cs : List Value} (hz : ∀ W F, S.rep W F z cs) : Sep w0 F0 (rep z cs S :: Γ) W := h.add rfl (hz _ _)

/-! Data opened to their cells. -/
theorem Sep.open_int (h : Sep w0 F0 Γ W) {x : Int} {cs : List Value} (hm : At Γ (rep x cs shInt)) : cs = [.int .i64 x] ∧ I64 x := h.get hm
theorem Sep.open_str (h : Sep w0 F0 Γ W) {x : List UInt8} {cs : List Value} (hm : At Γ (rep x cs shStr)) : cs = [.string ⟨x.toArray⟩] ∧ x.length ≤ 9223372036854775807 := h.get hm
theorem Sep.open_op (h : Sep w0 F0 Γ W) {x : Op} {cs : List Value} (hm : At Γ (rep x cs shOp)) : cs = [.int .i64 x.kind, .int .i64 x.n] ∧ I64 x.kind ∧ I64 x.n := rep_op (h.get hm)
theorem Sep.open_point (h : Sep w0 F0 Γ W) {x : Point} {cs : List Value} (hm : At Γ (rep x cs shPoint)) : cs = [.int .i64 x.tx, .int .i64 x.at_] ∧ I64 x.tx ∧ I64 x.at_ := rep_point (h.get hm)
theorem Sep.open_in (h : Sep w0 F0 Γ W) {x : In} {cs : List Value} (hm : At Γ (rep x cs shIn)) : ∃ A n c, cs = [.int .i64 x.p.tx, .int .i64 x.p.at_, .slice A n c] ∧ I64 x.p.tx ∧ I64 x.p.at_ ∧ Sep w0 F0 (rds x.key A n c shOp :: Γ) W := by
  obtain ⟨A, n, c, e, h1, h2, h3⟩ := rep_in (h.get hm)
  exact ⟨A, n, c, e, h1, h2, h.add rfl h3⟩
theorem Sep.open_out (h : Sep w0 F0 Γ W) {x : Out} {cs : List Value} (hm : At Γ (rep x cs shOut)) : ∃ A n c, cs = [.int .i64 x.coin, .slice A n c] ∧ I64 x.coin ∧ Sep w0 F0 (rds x.lock A n c shOp :: Γ) W := by
  obtain ⟨A, n, c, e, h1, h3⟩ := rep_out (h.get hm)
  exact ⟨A, n, c, e, h1, h.add rfl h3⟩
theorem Sep.open_tx (h : Sep w0 F0 Γ W) {x : Tx} {cs : List Value} (hm : At Γ (rep x cs shTx)) : ∃ A n c A' n' c', cs = [.int .i64 x.height, .slice A n c, .slice A' n' c'] ∧ I64 x.height ∧ Sep w0 F0 (rds x.ins A n c shIn :: rds x.outs A' n' c' shOut :: Γ) W := by
  obtain ⟨A, n, c, A', n', c', e, h1, h3, h4⟩ := rep_tx (h.get hm)
  exact ⟨A, n, c, A', n', c', e, h1, h.add2 rfl rfl h3 h4⟩
theorem Sep.open_book (h : Sep w0 F0 Γ W) {x : Book} {cs : List Value} (hm : At Γ (rep x cs shBook)) : ∃ A n c, cs = [.slice A n c] ∧ Sep w0 F0 (rds x.texts A n c shStr :: Γ) W := by
  obtain ⟨A, n, c, e, h3⟩ := rep_book (h.get hm)
  exact ⟨A, n, c, e, h.add rfl h3⟩
theorem Sep.open_undo (h : Sep w0 F0 Γ W) {x : Undo} {cs : List Value} (hm : At Γ (rep x cs shUndo)) : ∃ A n c, cs = [.slice A n c] ∧ Sep w0 F0 (rds x.spent A n c shCoin :: Γ) W := by
  obtain ⟨A, n, c, e, h3⟩ := rep_undo (h.get hm)
  exact ⟨A, n, c, e, h.add rfl h3⟩
theorem Sep.open_coin (h : Sep w0 F0 Γ W) {x : Coin} {cs : List Value} (hm : At Γ (rep x cs shCoin)) : ∃ A n c, cs = [.int .i64 x.p.tx, .int .i64 x.p.at_, .int .i64 x.o.coin, .slice A n c, .int .i64 x.height, .bool x.reward] ∧ I64 x.p.tx ∧ I64 x.p.at_ ∧ I64 x.o.coin ∧ I64 x.height ∧ Sep w0 F0 (rds x.o.lock A n c shOp :: Γ) W := by
  obtain ⟨A, n, c, e, h1, h2, h3, h4, h5⟩ := rep_coin (h.get hm)
  exact ⟨A, n, c, e, h1, h2, h3, h4, h.add rfl h5⟩
theorem Sep.open_block (h : Sep w0 F0 Γ W) {x : Block} {cs : List Value} (hm : At Γ (rep x cs shBlock)) : ∃ A n c, cs = [.int .i64 x.parent, .int .i64 x.height, .int .i64 x.work, .int .i64 x.nonce, .slice A n c] ∧ I64 x.parent ∧ I64 x.height ∧ I64 x.work ∧ I64 x.nonce ∧ Sep w0 F0 (rds x.txs A n c shTx :: Γ) W := by
  obtain ⟨A, n, c, e, h1, h2, h3, h4, h5⟩ := rep_block (h.get hm)
  exact ⟨A, n, c, e, h1, h2, h3, h4, h.add rfl h5⟩
theorem Sep.open_tree (h : Sep w0 F0 Γ W) {x : Tree} {cs : List Value} (hm : At Γ (rep x cs shTree)) : ∃ A n c A' n' c', cs = [.slice A n c, .slice A' n' c'] ∧ Sep w0 F0 (rds x.names A n c shInt :: rds x.blocks A' n' c' shBlock :: Γ) W := by
  obtain ⟨A, n, c, A', n', c', e, h3, h4⟩ := rep_tree (h.get hm)
  exact ⟨A, n, c, A', n', c', e, h.add2 rfl rfl h3 h4⟩
theorem Sep.open_node (h : Sep w0 F0 Γ W) {x : Node} {cs : List Value} (hm : At Γ (rep x cs shNode)) : ∃ A n c A' n' c' A2 n2 c2, cs = [.slice A n c, .slice A' n' c', .slice A2 n2 c2, .int .i64 x.tip] ∧ I64 x.tip ∧ Sep w0 F0 (rds x.t.names A n c shInt :: rds x.t.blocks A' n' c' shBlock :: rds x.pool A2 n2 c2 shTx :: Γ) W := by
  obtain ⟨A, n, c, A', n', c', A2, n2, c2, e, h3, h4, h5, h6⟩ := rep_node (h.get hm)
  exact ⟨A, n, c, A', n', c', A2, n2, c2, e, h6, h.add3 rfl rfl rfl h3 h4 h5⟩

/-! Data made of their cells. -/
theorem Sep.mk_in (h : Sep w0 F0 Γ W) {p : Point} {key : List Op} {A : Option Addr} {n c : Nat} (hm : At Γ (rds key A n c shOp)) (h1 : I64 p.tx) (h2 : I64 p.at_) : Sep w0 F0 (rep ⟨p, key⟩ [.int .i64 p.tx, .int .i64 p.at_, .slice A n c] shIn :: Γ) W := h.add rfl (in_mk (x := ⟨p, key⟩) h1 h2 (h.get hm))
theorem Sep.mk_out (h : Sep w0 F0 Γ W) {k : Int} {lock : List Op} {A : Option Addr} {n c : Nat} (hm : At Γ (rds lock A n c shOp)) (h1 : I64 k) : Sep w0 F0 (rep ⟨k, lock⟩ [.int .i64 k, .slice A n c] shOut :: Γ) W := h.add rfl (out_mk (x := ⟨k, lock⟩) h1 (h.get hm))
theorem Sep.mk_tx (h : Sep w0 F0 Γ W) {k : Int} {ins : List In} {outs : List Out} {A : Option Addr} {n c : Nat} {A' : Option Addr} {n' c' : Nat} (hm : At Γ (rds ins A n c shIn)) (hm' : At Γ (rds outs A' n' c' shOut)) (h1 : I64 k) : Sep w0 F0 (rep ⟨k, ins, outs⟩ [.int .i64 k, .slice A n c, .slice A' n' c'] shTx :: Γ) W := h.add rfl (tx_mk (x := ⟨k, ins, outs⟩) h1 (h.get hm) (h.get hm'))
theorem Sep.mk_block (h : Sep w0 F0 Γ W) {k1 k2 k3 k4 : Int} {txs : List Tx} {A : Option Addr} {n c : Nat} (hm : At Γ (rds txs A n c shTx)) (h1 : I64 k1) (h2 : I64 k2) (h3 : I64 k3) (h4 : I64 k4) : Sep w0 F0 (rep ⟨k1, k2, k3, k4, txs⟩ [.int .i64 k1, .int .i64 k2, .int .i64 k3, .int .i64 k4, .slice A n c] shBlock :: Γ) W := h.add rfl (block_mk (x := ⟨k1, k2, k3, k4, txs⟩) h1 h2 h3 h4 (h.get hm))
theorem Sep.mk_tree (h : Sep w0 F0 Γ W) {ns : List Int} {bs : List Block} {A : Option Addr} {n c : Nat} {A' : Option Addr} {n' c' : Nat} (hm : At Γ (rds ns A n c shInt)) (hm' : At Γ (rds bs A' n' c' shBlock)) : Sep w0 F0 (rep ⟨ns, bs⟩ [.slice A n c, .slice A' n' c'] shTree :: Γ) W := h.add rfl (tree_mk (x := ⟨ns, bs⟩) (h.get hm) (h.get hm'))
theorem Sep.mk_book (h : Sep w0 F0 Γ W) {ts : List (List UInt8)} {A : Option Addr} {n c : Nat} (hm : At Γ (rds ts A n c shStr)) : Sep w0 F0 (rep ⟨ts⟩ [.slice A n c] shBook :: Γ) W := h.add rfl ⟨ts, rfl, A, n, c, rfl, h.get hm⟩
theorem Sep.nil_rds (h : Sep w0 F0 Γ W) {α : Type} (S : Sh α) : Sep w0 F0 (rds [] none 0 0 S :: Γ) W := h.add rfl (Rds.nil _ _ _)
/-- A new row that a callee has made. -/
theorem Sep.addRow {W' : World} (h : Sep w0 F0 Γ W) {α : Type} {S : Sh α} {e : Nat} {v : Value} {xs : List α} {zs : List (α × List Value)} (hg : W.grownBy W' none) (h1 : zs.map (·.1) = xs) (h3 : W'.ownsRow W.heap.size e S.size v xs.length (flat zs)) (h2 : ∀ z ∈ zs, S.rep W (Free w0.heap.size F0 Γ W) z.1 z.2) :
    Sep w0 F0 (Proofs.Ytnnbnjanekibpaa.row e v xs S :: Γ) W' := by
  have hge : ∀ g, v.ownBlock = some g → W.heap.size ≤ g := fun g hg => (h3.lt g hg).1
  refine h.grow hg ⟨zs, h1, ?_, fun z hz => S.more (fun b hb => ?_) (S.keep (fun b hb => hg.block b (Free.lt h hb) (by simp)) (h2 z hz))⟩ hge
  · refine ⟨h3.1, ?_⟩
    have hsz := h.size
    rcases h3.2 with h0 | ⟨g, cap, cur, hv, hg, r⟩
    · exact .inl h0
    · exact .inr ⟨g, cap, cur, hv, by omega, r⟩
  · have hlt := Free.lt h hb
    refine ⟨hb.1.imp (fun x => x) (fun x => ⟨x.1, Nat.lt_of_lt_of_le x.2 hg.size⟩), fun q hq => ?_⟩
    rcases List.mem_cons.1 hq with rfl | hq
    · intro e
      have := hge b e
      omega
    · exact hb.2 q hq

/-- A slice written out is a slice to be read. -/
theorem Sep.lit (h : Sep w0 F0 Γ W) {α : Type} {S : Sh α} {g e : Nat} {cs : List Value} (zs : List (α × List Value)) (hd : Del Γ (Proofs.Ytnnbnjanekibpaa.box g cs e) Γ1) (hc : cs = flat zs) (hz : ∀ z ∈ zs, At Γ1 (rep z.1 z.2 S)) (hn : zs.length ≤ 1000000) : Sep w0 F0 (rds (zs.map (·.1)) (some ⟨g, 0, none⟩) zs.length zs.length S :: Γ1) W := by
  have h1 := h.front hd
  refine h1.freeze (r' := rds (zs.map (·.1)) (some ⟨g, 0, none⟩) zs.length zs.length S) Put.z rfl ?_
  intro hF hb
  have hb' : w0.heap.size ≤ g ∧ W.heap[g]? = some (.cells cs.toArray e (0, 0)) := hb
  refine Rds.of_block (zs := zs) (F := Free w0.heap.size F0 (rds (zs.map (·.1)) (some ⟨g, 0, none⟩) zs.length zs.length S :: Γ1) W) hb'.2 (by simp [hc]) (fun z hz' => ?_) (hF g (.inr ⟨rfl, hb'.1, blk_lt hb'.2⟩)) (Nat.le_refl _) (by omega)
  have h2 : S.rep W (Free w0.heap.size F0 (Proofs.Ytnnbnjanekibpaa.box g cs e :: Γ1) W) z.1 z.2 := h1.get (At.s (hz z hz'))
  exact S.more (fun b hb => hF b (.inl hb)) h2
theorem Sep.lit1 (h : Sep w0 F0 Γ W) {α : Type} {S : Sh α} {g e : Nat} {cs : List Value} {x : α} (hd : Del Γ (Proofs.Ytnnbnjanekibpaa.box g cs e) Γ1) (hz : At Γ1 (rep x cs S)) : Sep w0 F0 (rds [x] (some ⟨g, 0, none⟩) 1 1 S :: Γ1) W :=
  h.lit [(x, cs)] hd (by simp [flat]) (by intro z hz'; simp only [List.mem_singleton] at hz'; subst hz'; exact hz) (by simp)

/-! What a place in the list says. -/
theorem Sep.getRds (h : Sep w0 F0 Γ W) {α : Type} {S : Sh α} {xs : List α} {A : Option Addr} {n c : Nat} (hm : At Γ (rds xs A n c S)) : Rds S W (Free w0.heap.size F0 Γ W) xs A n c := h.get hm
theorem Sep.ltsRds (h : Sep w0 F0 Γ W) {α : Type} {S : Sh α} {xs : List α} {A : Option Addr} {n c : Nat} (hm : At Γ (rds xs A n c S)) : Rds S W (Lt W.heap.size) xs A n c := h.lts hm
theorem Sep.ltsRep (h : Sep w0 F0 Γ W) {α : Type} {S : Sh α} {x : α} {cs : List Value} (hm : At Γ (rep x cs S)) : S.rep W (Lt W.heap.size) x cs := h.lts hm
theorem Sep.getRep (h : Sep w0 F0 Γ W) {α : Type} {S : Sh α} {x : α} {cs : List Value} (hm : At Γ (rep x cs S)) : S.rep W (Free w0.heap.size F0 Γ W) x cs := h.get hm
theorem Sep.getRow (h : Sep w0 F0 Γ W) {α : Type} {S : Sh α} {e : Nat} {v : Value} {xs : List α} (hm : At Γ (row e v xs S)) : ∃ zs : List (α × List Value), zs.map (·.1) = xs ∧ W.ownsRow w0.heap.size e S.size v xs.length (flat zs) ∧ ∀ z ∈ zs, S.rep W (Free w0.heap.size F0 Γ W) z.1 z.2 := h.get hm
/-- A row is written in place. -/
theorem Sep.putRow {W' : World} {α : Type} {S : Sh α} {e : Nat} {v : Value} {xs xs' : List α} (h : Sep w0 F0 (Proofs.Ytnnbnjanekibpaa.row e v xs S :: Γ) W) (hg : W.grownBy W' v.ownBlock)
    (hr : (∀ b, Free w0.heap.size F0 (Proofs.Ytnnbnjanekibpaa.row e v xs S :: Γ) W b → Free w0.heap.size F0 (Proofs.Ytnnbnjanekibpaa.row e v xs' S :: Γ) W' b) → Agree (Free w0.heap.size F0 (Proofs.Ytnnbnjanekibpaa.row e v xs S :: Γ) W) W W' → ∀ zs : List (α × List Value), zs.map (·.1) = xs → W.ownsRow w0.heap.size e S.size v xs.length (flat zs) → (∀ z ∈ zs, S.rep W (Free w0.heap.size F0 (Proofs.Ytnnbnjanekibpaa.row e v xs S :: Γ) W) z.1 z.2) →
      ∃ zs : List (α × List Value), zs.map (·.1) = xs' ∧ W'.ownsRow w0.heap.size e S.size v xs'.length (flat zs) ∧ ∀ z ∈ zs, S.rep W' (Free w0.heap.size F0 (Proofs.Ytnnbnjanekibpaa.row e v xs' S :: Γ) W') z.1 z.2) : Sep w0 F0 (Proofs.Ytnnbnjanekibpaa.row e v xs' S :: Γ) W' :=
  h.put (r := Proofs.Ytnnbnjanekibpaa.row e v xs S) (r' := Proofs.Ytnnbnjanekibpaa.row e v xs' S) Put.z hg (fun g hg => .inl hg) (fun hf ha ⟨zs, h1, h2, h3⟩ => hr hf ha zs h1 h2 h3)
theorem Sep.getBox (h : Sep w0 F0 Γ W) {g t : Nat} {cs : List Value} (hm : At Γ (box g cs t)) : w0.heap.size ≤ g ∧ W.heap[g]? = some (.cells cs.toArray t (0, 0)) := h.get hm
theorem Sep.len (h : Sep w0 F0 Γ W) {α : Type} {S : Sh α} {xs : List α} {A : Option Addr} {n c : Nat} (hm : At Γ (rds xs A n c S)) : xs.length = n ∧ n ≤ c ∧ c ≤ 9223372036854775807 := ⟨(h.getRds hm).1, (h.getRds hm).2.1, (h.getRds hm).2.2.1⟩
theorem Sep.addRds (h : Sep w0 F0 Γ W) {α : Type} {S : Sh α} {xs : List α} {A : Option Addr} {n c : Nat} (hr : Rds S W (Free w0.heap.size F0 Γ W) xs A n c) : Sep w0 F0 (rds xs A n c S :: Γ) W := h.add rfl hr
theorem Sep.addRep (h : Sep w0 F0 Γ W) {α : Type} {S : Sh α} {x : α} {cs : List Value} (hr : S.rep W (Free w0.heap.size F0 Γ W) x cs) : Sep w0 F0 (rep x cs S :: Γ) W := h.add rfl hr
theorem Sep.start1 {α : Type} {S : Sh α} {x : α} {cs : List Value} {w : World} {F : Nat → Prop} (hF : ∀ b, F b → b < w.heap.size) (h : S.rep w F x cs) : Sep w F [rep x cs S] w := (Sep.start w F hF).add rfl (S.more (fun b hb => ⟨.inl hb, by simp⟩) h)
end
attribute [irreducible] fact rds rep cells box row At Put Del Sub
end Go.Proofs.Ytnnbnjanekibpaa
