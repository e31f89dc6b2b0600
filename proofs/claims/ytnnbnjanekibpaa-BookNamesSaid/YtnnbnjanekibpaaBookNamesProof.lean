/- The statement BookNames: the row's frame around the walk. -/
import Derived.Test.YtnnbnjanekibpaaRows
import Derived.Test.YtnnbnjanekibpaaOpens
import Derived.Test.YtnnbnjanekibpaaLawBook2
import Derived.WalkKit
import Derived.ProofKit
import Derived.OpenShut
import Derived.ShutString
import Derived.ChangeOld
import Derived.Below
import Derived.SizedLaws
namespace Go.Proofs.Ytnnbnjanekibpaa
namespace bookNamesRow
open Go.ChangeShapes Go.WideShapes Go.ChangeAt Go.RowKit
open Go.ChangeMaps (open_string shut_string)
set_option linter.unusedVariables false

theorem own : ownKnob Try.prog.godebug = none := by kernel_rfl
theorem laidOut : laidOutB Try.prog = true := by kernel_rfl

set_option maxRecDepth 100000 in
theorem lifted (os : Os) (started : os.Started) (H : Type) (enc : TypeId × Value → H) :
    ReturnsInHanded {} Try.checked os 8 .any (Rows.bookNamesSpec.pre6 enc Try.prog Try.f8 Rows.bookNamesRow.domain false) (Rows.bookNamesSpec.post enc Try.prog Try.f8 false true false false) := by
  refine returnsInHanded_of_change_sized (C := Try.checked) own started (by kernel_rfl) Try.func8
    (ChangeSpec.witness6 (enc := enc) (C := Try.checked) false ⟨#[], #[.agg #[.slice none 0 0], .string ⟨#[]⟩, .slice none 0 0, .int .i64 0], []⟩ 8 (by kernel_rfl) (by kernel_rfl) (by kernel_rfl) (by kernel_rfl)) ?_
  intro W base args ds gs before hval0 hW hcnd hsz0 _
  have hval : ∀ (j : Nat) t v, Try.f8.params[j]? = some t → args[j]? = some v → Value.okWide Try.prog W .any base t v := hval0
  have hW' := hW
  obtain ⟨p, q, hA0, hV, rfl, hfz, hnd⟩ := hW
  have hA : DataW.TrodAll enc Try.prog W 0 (fun _ => true) true Try.f8.params.toList args.toList ds p := hA0
  rw [Try.params8] at hA hval
  obtain ⟨v0, vs0, d0, ds0, p0, q0, hargs, rfl, rfl, h0, r0⟩ := trodAll_cons hA
  obtain ⟨v1, vs1, d1, ds1, p1, q1, rfl, rfl, rfl, h1, r1⟩ := trodAll_cons r0
  obtain ⟨v2, vs2, d2, ds2, p2, q2, rfl, rfl, rfl, h2, r2⟩ := trodAll_cons r1
  obtain ⟨v3, vs3, d3, ds3, p3, q3, rfl, rfl, rfl, h3, r3⟩ := trodAll_cons r2
  obtain ⟨rfl, rfl, rfl⟩ := trodAll_nil r3
  obtain rfl : args = #[v0, v1, v2, v3] := by cases args; simp_all
  obtain ⟨rfl, rfl⟩ := trodVars_none hV
  have k0 := h0
  have lt0 : ∀ x ∈ p0, x.block < W.heap.size := by obtain ⟨m, hm⟩ := k0; exact DataW.trod_lt m _ _ _ hm
  have k1 := h1
  have lt1 : ∀ x ∈ p1, x.block < W.heap.size := by obtain ⟨m, hm⟩ := k1; exact DataW.trod_lt m _ _ _ hm
  have k2 := h2
  have lt2 : ∀ x ∈ p2, x.block < W.heap.size := by obtain ⟨m, hm⟩ := k2; exact DataW.trod_lt m _ _ _ hm
  have k3 := h3
  have lt3 : ∀ x ∈ p3, x.block < W.heap.size := by obtain ⟨m, hm⟩ := k3; exact DataW.trod_lt m _ _ _ hm
  obtain ⟨cs0, rfl, _⟩ := okWide_struct Try.underlying39 (hval 0 39 v0 rfl rfl)
  obtain ⟨x0, hx0⟩ : ∃ x, (shBook).rep W (Lt W.heap.size) x cs0.toList := by
    obtain ⟨fuel, hf⟩ := k0
    exact op_book hf
  obtain ⟨s1, rfl⟩ := okWide_string Try.underlying9 (hval 1 9 v1 rfl rfl)
  have hl1 : s1.data.toList.length ≤ 9223372036854775807 := by
    obtain ⟨fuel, hf⟩ := k1
    obtain ⟨a, hcs, _, hs⟩ := DataW.trod_string Try.underlying9 hf
    simp [Value.cells] at hcs
    subst hcs
    unfold maxLen at hs
    simpa using hs
  obtain ⟨A2, n2, c2, rfl⟩ := okWide_slice Try.underlying37 (hval 2 37 v2 rfl rfl)
  obtain ⟨x2, hx2⟩ : ∃ x, Rds shStr W (Lt W.heap.size) x A2 n2 c2 := by
    obtain ⟨fuel, hf⟩ := k2
    obtain ⟨a, A', n', c', hcs, hr⟩ := op_strs hf
    simp [Value.cells] at hcs
    obtain ⟨rfl, rfl, rfl⟩ := hcs
    exact ⟨a, hr⟩
  obtain ⟨x3, hx3⟩ : ∃ x, v3 = .int .i64 x ∧ I64 x := by
    obtain ⟨a, rfl, rfl, rfl, w⟩ := open_int Try.underlying3 (hval 3 3 v3 rfl rfl) h3
    exact ⟨a, rfl, by simp [Lit.wf, IntKind.min, IntKind.max, IntKind.signed, IntKind.bits] at w; exact ⟨by omega, by omega⟩⟩
  obtain ⟨rfl, hb3⟩ := hx3
  have hsz : (DataW.weightsEach Try.prog (Try.f8.params.toList ++ Rows.bookNamesSpec.plain.varTypes Try.prog) ([d0, d1, d2, d3] ++ [])).all (· ≤ reachBytes) = true := hsz0
  rw [Try.params8] at hsz
  have hw2 : n2 * 16 ≤ 140737488351232 := by
    obtain ⟨fuel, hf⟩ := k2
    rcases Go.Deep.open_slice Try.underlying37 hf with ⟨hcs, _⟩ | ⟨a, len, cap, m, nn, D, Pl, hcs, _, hl, hm, hmm, hx, _⟩
    · simp [Value.cells] at hcs
      obtain ⟨_, rfl, _⟩ := hcs
      simp
    · simp [Value.cells] at hcs
      obtain ⟨_, rfl, rfl⟩ := hcs
      simp only [Prod.mk.injEq] at hx
      obtain ⟨hd, _⟩ := hx
      simp only [if_true] at hmm
      subst hmm
      have hb : Try.prog.bytesOf 9 = 16 := by kernel_rfl
      have h := sized_slice hsz (j := 2) (t := 37) (e := 9) (elems := (List.range n2).map D) (spare := (List.range (m - n2)).map fun j => D (n2 + j)) rfl (by simp [hd]) Try.underlying37
      rw [hb] at h
      simp [reachBytes] at h
      omega
  clear hA0 hval0
  refine (bookNames_walk x0 cs0.toList s1.data.toList x2 A2 n2 c2 x3 W hx0 hl1 hx2 hb3.1 hb3.2 hw2).mono fun e W' ⟨he, bel⟩ => ?_
  subst he
  exact ⟨_, rfl, _, _, _, [], _, [], hW', trodAll_mk1 (shut_bool Try.underlying4 _), (trodAll_cons_mk (Below.trod laidOut (by kernel_rfl) (of_decide_eq_true (by kernel_rfl)) k0 bel lt0) (trodAll_cons_mk (Below.trod laidOut (by kernel_rfl) (of_decide_eq_true (by kernel_rfl)) k1 bel lt1) (trodAll_cons_mk (Below.trod laidOut (by kernel_rfl) (of_decide_eq_true (by kernel_rfl)) k2 bel lt2) (trodAll_cons_mk (Below.trod laidOut (by kernel_rfl) (of_decide_eq_true (by kernel_rfl)) k3 bel lt3) trodAll_mk0)))), rfl, bel.frame _, fun h => by cases h⟩

theorem over : Rows.bookNamesRow.holds Try.pinned (OpenSpec.ofChange Rows.bookNamesSpec) :=
  OpenClaim.holds_of_wide 8 Try.f8 rfl rfl rfl rfl rfl rfl rfl ⟨rfl, rfl, rfl, rfl, rfl⟩ rfl rfl rfl rfl rfl (by kernel_rfl) Try.func8 (by kernel_rfl)
    (of_decide_eq_true (by kernel_rfl)) (by unfold Func.isWrapper; first | (rw [if_pos (by decide +kernel)]; kernel_rfl) | (rw [if_neg (by decide +kernel)]; exact ⟨rfl, rfl⟩))
    (fun os started H enc _ => lifted os started H enc)

end bookNamesRow
/-- The statement. -/
theorem bookNames_holds : Rows.BookNamesSaid := bookNamesRow.over
#print axioms bookNames_holds
end Go.Proofs.Ytnnbnjanekibpaa
