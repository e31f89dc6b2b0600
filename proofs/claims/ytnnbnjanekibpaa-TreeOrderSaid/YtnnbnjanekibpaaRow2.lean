/- Rows of the call's own, continued: a slice written out as a row; a slice appended to a row. Own text, of no program. -/
import Derived.Test.YtnnbnjanekibpaaRow
import Derived.Test.YtnnbnjanekibpaaAppend
namespace Go.Proofs.Ytnnbnjanekibpaa
open Go.RowKit
set_option linter.unusedVariables false
attribute [local semireducible] fact rds rep cells box row At Put Del Sub

section
variable {P : Program} {w0 W : World} {F0 : Nat → Prop} {Γ Γ' Γ1 : List Res}
variable {ops : Array Oper} {Q : Exit → Act → World → Prop} {a : Act} {rest : List Oper} {o : Oper} {t : TypeId} {x y : Operand}

/-- A slice written out is a row of the call's own. -/
theorem Sep.litRow (h : Sep w0 F0 Γ W) {α : Type} {S : Sh α} {g e : Nat} {cs : List Value} (zs : List (α × List Value)) (hd : Del Γ (Proofs.Ytnnbnjanekibpaa.box g cs e) Γ1) (hc : cs = flat zs) (hz : ∀ z ∈ zs, At Γ1 (rep z.1 z.2 S)) (hn : zs.length ≤ 1000000) : Sep w0 F0 (Proofs.Ytnnbnjanekibpaa.row e (.slice (some ⟨g, 0, none⟩) zs.length zs.length) (zs.map (·.1)) S :: Γ1) W := by
  have h1 := h.front hd
  refine h1.put (r := Proofs.Ytnnbnjanekibpaa.box g cs e) (r' := Proofs.Ytnnbnjanekibpaa.row e (.slice (some ⟨g, 0, none⟩) zs.length zs.length) (zs.map (·.1)) S) Put.z ⟨rfl, rfl, rfl, Nat.le_refl _, fun _ _ _ => rfl⟩ (fun g' hg' => .inl hg') ?_
  intro hfree hag hb
  obtain ⟨hb1, hb2⟩ := hb
  have hreps : ∀ z ∈ zs, S.rep W (Free w0.heap.size F0 (Proofs.Ytnnbnjanekibpaa.box g cs e :: Γ1) W) z.1 z.2 := fun z hz' => h1.get (At.s (hz z hz'))
  have hfl : (flat zs).length = zs.length * S.size := flat_length fun z hz' => S.len (hreps z hz')
  refine ⟨zs, rfl, ⟨by simp [hfl], .inr ⟨g, zs.length, cs.toArray, by simp, hb1, hb2, by simp, by unfold maxLen; omega, by simp [hc, hfl], ?_⟩⟩, fun z hz' => S.more hfree (hreps z hz')⟩
  rw [hc, List.length_map, List.toList_toArray, List.take_of_length_le (by omega)]
theorem Sep.litRow1 (h : Sep w0 F0 Γ W) {α : Type} {S : Sh α} {g e : Nat} {cs : List Value} {x : α} (hd : Del Γ (Proofs.Ytnnbnjanekibpaa.box g cs e) Γ1) (hz : At Γ1 (rep x cs S)) : Sep w0 F0 (Proofs.Ytnnbnjanekibpaa.row e (.slice (some ⟨g, 0, none⟩) 1 1) [x] S :: Γ1) W :=
  h.litRow [(x, cs)] hd (by simp [flat]) (by intro z hz'; simp only [List.mem_singleton] at hz'; subst hz'; exact hz) (by simp)
/-- 'append' of a slice that is only read to a row of the call's own. -/
theorem Sep.wappendS (h : Sep w0 F0 Γ W) (hgd : o.guard = none) (ho : o.op = .call { callee := .builtin .append, args := #[x, y], argTypes := #[t, t] }) {α : Type} {S : Sh α} {e bytes m c : Nat} {v : Value} {xs ys : List α} {A : Option Addr}
    (hx : a.eval x = v) (hy : a.eval y = .slice A m c) (hr : Del Γ (Proofs.Ytnnbnjanekibpaa.row e v xs S) Γ1) (hz : At Γ1 (rds ys A m c S)) (hT : SliceT P t e S.size bytes) (hpos : 0 < S.size) (hS1 : S.ones) (hl : xs.length + ys.length ≤ 1000000) (hby : bytes ≤ 10000)
    (k : ∀ v' W', Sep w0 F0 (Proofs.Ytnnbnjanekibpaa.row e v' (xs ++ ys) S :: Γ1) W' → wpList P ops Q rest (a.put o.dst v') W') : wpList P ops Q (o :: rest) a W := by
  obtain ⟨ht, ie, zv, he, hz0, hsz, hbz, hzs⟩ := hT
  have h1 := h.front hr
  obtain ⟨zs, hz1, hz2, hz3⟩ := h1.get At.z
  have hrd : Rds S W (Free w0.heap.size F0 (Proofs.Ytnnbnjanekibpaa.row e v xs S :: Γ1) W) ys A m c := h1.get (At.s hz)
  have hm : ys.length = m := hrd.1
  refine wpList_append_rds W hgd x y t ho hS1 w0.heap.size e ie zv bytes ht he hz0 hsz hbz hzs hpos v xs.length (flat zs) hx hz2 hy hrd (by unfold maxLen; omega) ?_ h.size ?_
  · have := Nat.mul_le_mul (show xs.length + m ≤ 1000000 by omega) hby
    omega
  · intro v' W' ps hp1 hp2 ho1 hgr hat
    refine k v' W' (h1.put (r' := Proofs.Ytnnbnjanekibpaa.row e v' (xs ++ ys) S) Put.z hgr ?_ ?_)
    · intro g' hg'
      rcases hat with h2 | h2
      · exact .inl (by rw [← hg']; exact h2.symm)
      · rw [show (Proofs.Ytnnbnjanekibpaa.row e v' (xs ++ ys) S).block = v'.ownBlock from rfl, h2] at hg'
        injection hg' with hg'
        exact .inr (Nat.le_of_eq hg')
    · intro hfree hag _
      refine ⟨zs ++ ps, by simp [hz1, hp1], ?_, ?_⟩
      · rw [flat_append, List.length_append, hm]
        exact ho1
      · intro q hq
        rcases List.mem_append.1 hq with hq | hq
        · exact S.more hfree (S.keep hag (hz3 q hq))
        · exact S.more hfree (S.keep hag (hp2 q hq))
end
end Go.Proofs.Ytnnbnjanekibpaa
