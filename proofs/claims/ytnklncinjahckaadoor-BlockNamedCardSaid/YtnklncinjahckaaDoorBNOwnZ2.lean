/- Own texts, put together by wip/bundle.py: VB1, VTK, VT2, VB2, VB3, VT3, VS2, VS3, VL7, VS4, VB4, VU3, VU4, VB5, VC0, VEr, VC1, VB6, VU7, VRow, VDel, VIns, VU8, VU9, VPU, VPB, VC2, VC3, VC5. -/
import Derived.Lib.FieldsLaws
import Derived.Laws.IdiomCopy
import Derived.Lib.AppendZerosOnto
import Derived.Deep.RegionLaw
import Derived.Lib.Hide
import Derived.Laws.Externs
import Derived.Laws.NewBlocks
import Derived.Test.YtnklncinjahckaaDoorBNOwnB
import Derived.Test.YtnklncinjahckaaDoorBNOwnC
import Derived.Test.YtnklncinjahckaaDoorBNOwnR
import Derived.Test.YtnklncinjahckaaDoorBNOwnS
import Derived.Test.YtnklncinjahckaaDoorBNOwnV3
import Derived.Test.YtnklncinjahckaaDoorBNOwnZ1
set_option linter.unusedVariables false
set_option linter.unusedSimpArgs false
namespace Go.Proofs.YtnklncinjahckaaDoor
section
open Go.RowKit Go.Shelf
open Go.Lib (itoa)
set_option maxRecDepth 100000
def FactsW (w : World) (F : Nat → Prop) (Δ : List Res) : Prop := ∀ r ∈ Δ, r.block = none ∧ r.holds w.heap.size F w
theorem FactsW.nil {w : World} {F : Nat → Prop} : FactsW w F [] := fun _ h => by cases h
theorem FactsW.cons {w : World} {F : Nat → Prop} {Δ : List Res} {r : Res} (h1 : r.block = none) (h2 : r.holds w.heap.size F w) (h : FactsW w F Δ) : FactsW w F (r :: Δ) := fun q hq => by
 rcases List.mem_cons.1 hq with rfl | hq
 ·exact ⟨h1, h2⟩
 ·exact h q hq
theorem zyi {α : Type} {S : Sh α} {xs : List α} {A : Option Addr} {n c : Nat} : (rds xs A n c S).block = none := by unfold rds zfc; rfl
theorem zyj {α : Type} {S : Sh α} {xs : List α} {A : Option Addr} {n c h0 : Nat} {w : World} {F : Nat → Prop} (h : Rds S w F xs A n c) : (rds xs A n c S).holds h0 F w := by unfold rds zfc; exact h
theorem FactsW.rds {w : World} {F : Nat → Prop} {Δ : List Res} {α : Type} {S : Sh α} {xs : List α} {A : Option Addr} {n c : Nat} (h : Rds S w F xs A n c) (hΔ : FactsW w F Δ) : FactsW w F (rds xs A n c S :: Δ) := .cons zyi (zyj h) hΔ
def sb (gb : Nat) (l : List UInt8) : Res := {
 block := some gb
 holds h0 F W := h0 ≤ gb ∧ ∃ v p, W.heap[gb]? = some (.cells #[p, v] 90 (0, 0)) ∧ W.ownsRow gb 5 1 v l.length (Lib.byteCells l) ∧ v.ownBlock ≠ some gb ∧ (∀ g, v.ownBlock = some g → F g) ∧ (p = .pointer none ∨ p = .pointer (some ⟨gb, 0, none⟩))
 keep := fun ha hF hb ⟨h0, v, p, h1, h2, h3, h4, h5⟩ => ⟨h0, v, p, (hb _ rfl).trans h1, zct h2 (fun g hg => ha g (h4 g hg)), h3, fun g hg => hF g (h4 g hg), h5⟩
 lt := fun ⟨h0, v, p, h1, _⟩ e => by injection e with e; subst e; exact ⟨h0, (Array.getElem?_eq_some_iff.1 h1).1⟩ }
section
variable {w0 W : World} {F0 : Nat → Prop} {Γ Δ : List Res} {gb : Nat} {l : List UInt8}
theorem FactsW.sep {r : Res} (hΔ : FactsW w0 F0 Δ) (hb : Below w0.heap.size w0 W) (hF : ∀ b, F0 b → b < w0.heap.size) (hr : r.holds w0.heap.size (Free w0.heap.size F0 (r :: Δ) W) W) (hg : ∀ g, r.block = some g → w0.heap.size ≤ g) : Sep w0 F0 (r :: Δ) W := by
 refine ⟨hb, hF, ?_, ?_⟩
 ·intro q hq
  rcases List.mem_cons.1 hq with rfl | hq
  ·exact hr
  ·refine q.keep (fun b hb' => hb.block b (hF b hb')) (fun b hb' => ⟨.inl hb', fun p hp e => ?_⟩) (fun g hg' => by rw [(hΔ q hq).1] at hg'; cases hg') (hΔ q hq).2
   rcases List.mem_cons.1 hp with rfl | hp
   ·have := hg b e; have := hF b hb'; omega
   ·rw [(hΔ p hp).1] at e; cases e
 ·refine List.pairwise_cons.2 ⟨fun q hq g _ h2 => (by rw [(hΔ q hq).1] at h2; cases h2), ?_⟩
  exact List.pairwise_of_forall_mem_list fun q hq p hp g h1 _ => by rw [(hΔ q hq).1] at h1; cases h1
theorem Sep.sbStart {w : World} {F : Nat → Prop} (hF : ∀ b, F b → b < w.heap.size) (hΔ : FactsW w F Δ) : Sep w F (sb w.heap.size [] :: Δ) (w.alloc (.cells #[.pointer none, .slice none 0 0] 90)) :=
 hΔ.sep ((Below.refl _ _).alloc (Nat.le_refl _) _) hF ⟨Nat.le_refl _, .slice none 0 0, .pointer none, heap_alloc_new w _, World.ownsRow_nil _ _ _ _, by simp [Value.ownBlock], fun g hg => by simp [Value.ownBlock] at hg, .inl rfl⟩ (fun g hg => by injection hg with hg; omega)
theorem Sep.sbIs (hS : Sep w0 F0 Γ W) (hm : At Γ (sb gb l)) : Lib.IsBuilder 90 5 gb gb (Lib.byteCells l) W := by
 obtain ⟨h0, v, p, h1, h2, h3, -, h5⟩ := hS.get hm
 have e : (Lib.byteCells l).length = l.length := Lib.byteCells_length l
 rcases h5 with rfl | rfl
 ·exact .inl ⟨Nat.le_refl _, v, h1, by rw [e]; exact h2, h3⟩
 ·exact .inr ⟨Nat.le_refl _, v, h1, by rw [e]; exact h2, h3⟩
theorem Sep.write (hS : Sep w0 F0 Γ W) (hm : At Γ (sb w0.heap.size l)) (hΔ : FactsW w0 F0 Δ) (s : ByteArray) (hl : l.length + s.size ≤ 1000000) :
  Calls Tryd.prog 35 #[.pointer (some ⟨w0.heap.size, 0, none⟩), .string s] W fun e W' => (∃ v, e = .returned v) ∧ Sep w0 F0 (sb w0.heap.size (l ++ s.data.toList) :: Δ) W' := by
 have hB := hS.sbIs hm
 have e : (Lib.byteCells l).length = l.length := Lib.byteCells_length l
 refine (Any.Builder_WriteString { Tryd.lays156 with } Tryd.Builder_Extra_156 w0.heap.size w0.heap.size (Lib.byteCells l) s W hB (by rw [e]; omega) hS.size).mono ?_
 rintro e w' ⟨rfl, ⟨-, v, h1, h2, h3⟩, h4⟩
 refine ⟨⟨_, rfl⟩, ?_⟩
 have hb : Below w0.heap.size w0 w' := hS.below.trans h4
 rw [Lib.strCells_eq, ← Lib.byteCells_append] at h2
 rw [Lib.byteCells_length] at h2
 refine hΔ.sep hb hS.low ⟨Nat.le_refl _, v, _, h1, h2, h3, fun g hg => ⟨.inr ?_, ?_⟩, .inr rfl⟩ (fun g hg => by injection hg with hg; omega)
 ·exact h2.lt g hg
 ·intro q hq e
  rcases List.mem_cons.1 hq with rfl | hq
  ·exact h3 (hg.trans e.symm)
  ·rw [(hΔ q hq).1] at e; cases e
theorem Sep.text (hS : Sep w0 F0 Γ W) (hm : At Γ (sb w0.heap.size l)) :
  Calls Tryd.prog 37 #[.pointer (some ⟨w0.heap.size, 0, none⟩)] W fun e W' => e = .returned (.string ⟨l.toArray⟩) ∧ Below w0.heap.size w0 W' :=
 (Any.Builder_String_any Tryd.lays169 Tryd.Builder_Extra_169 w0.heap.size w0.heap.size l W (hS.sbIs hm) hS.size).mono fun e w' ⟨h1, h2⟩ => ⟨h1, hS.below.trans h2⟩
section
variable {P : Program} {ops : Array Oper} {Q : Exit → Act → World → Prop} {a : Act} {rest : List Oper} {o : Oper}
theorem wsb (hgd : Region.wanted o (yielded ops a.tmps) = true) (ho : o.op = .alloc 90) (hz : z39 P 90 [.pointer none, .slice none 0 0]) (hΔ : FactsW W (Lt W.heap.size) Δ)
  (k : ∀ W', Sep W (Lt W.heap.size) (sb W.heap.size [] :: Δ) W' → wpList P ops Q rest (a.put o.dst (.pointer (some ⟨W.heap.size, 0, none⟩))) W') : wpList P ops Q (o :: rest) a W :=
 BigFrame.wpList_want hgd fun K hK => by
  obtain ⟨z, hz1, hz2⟩ := hz
  unfold Oper.wp execOp
  simp only [ho, Instr.alloc, newVar, newRow, Sem.run_bind, run_newObj_alloc, Result.andThen_ok, Sem.run_pure, hz2, hz1]
  exact hK _ _ (k _ (Sep.sbStart (fun _ h => h) hΔ))
end
end
attribute [irreducible] sb
theorem Yl.cat {P : Program} {w0 : World} {F0 : Nat → Prop} {Γ : List Res} {o : Oper} {a : Act} {t t' : TypeId} {x y : Operand} {s r : List UInt8} (ho : o.op = .binOp .add t x y t') (hx : a.eval x = .string ⟨s.toArray⟩) (hy : a.eval y = .string ⟨r.toArray⟩) (hl : s.length + r.length ≤ 1000000) : Yl P w0 F0 Γ o a (.string ⟨(s ++ r).toArray⟩) :=
 Yl.pure fun W => by
  have e3 : (⟨s.toArray⟩ ++ ⟨r.toArray⟩ : ByteArray) = ⟨(s ++ r).toArray⟩ := by
   apply ByteArray.ext
   simp
  have hn : ¬ ((((⟨s.toArray⟩ : ByteArray).size + (⟨r.toArray⟩ : ByteArray).size : Nat) : Int) > IntKind.i64.max) := by
   simp only [ByteArray.size, List.size_toArray, IntKind.max, IntKind.bits, IntKind.signed]
   omega
  unfold execOp
  simp only [ho, hx, hy, binOp, Op.stringOp, if_neg hn, e3]
  rfl
theorem z_sb : z39 Tryd.prog 90 [.pointer none, .slice none 0 0] := ⟨.agg #[.pointer none, .slice none 0 0], rfl, Tryd.zeroValue90⟩
section
variable {P : Program} {W : World} {F : Nat → Prop}
theorem zq8 {spec : z9} {f : Nat} {pk : List PK} {d1 d2 : Dt} (hpk : z2x pk = false) (hen : En P f) (hM : Meets P spec f ⟨pk, [(false, [.scal]), (false, [.scal])], true⟩) {ds : List Dt} {us : List Value} (hF : z8u F W) (hs : spec ds = some [d1, d2]) (hargs : PKRs W F pk ds us) :
  Calls P f us.toArray W fun e w' => (∃ v1 v2 F', e = .returned (.tuple #[v1, v2]) ∧ Rep w' F' d1 v1 ∧ Rep w' F' d2 v2) ∧ Below W.heap.size W w' := by
 rcases hM.1 hpk W F ds us _ hF hargs hs with ⟨_, h⟩ | ⟨v, W', h1, _⟩
 ·refine h.mono fun e w' ⟨v, h1, h2, us, F', hR⟩ => ⟨?_, h2⟩
  obtain ⟨vs, rfl, v1, vs1, u1, u2, rfl, rfl, ⟨rfl, -⟩, v2, vs2, u3, u4, rfl, rfl, ⟨rfl, -⟩, rfl, rfl⟩ := hR.val
  exact ⟨v1, v2, F', h1, (hR.cells 0 .scal d1 v1 rfl rfl rfl).2, (hR.cells 1 .scal d2 v2 rfl rfl rfl).2⟩
 ·rw [hen.run] at h1; cases h1
end
theorem z7h (n : Int) (hn : I64 n) {W : World} (hG : Glob W) : Calls Tryd.prog 36 #[.int .i64 n] W fun e w' => e = .returned (.string ⟨(itoa n).toArray⟩) ∧ Below W.heap.size W w' := by
 refine (Any.strconv_Itoa Tryd.lays171 n hn.1 hn.2 W hG.1).mono ?_
 rintro e w' ⟨rfl, k, os, rfl⟩
 exact ⟨rfl, Go.Lib.below_grow _ _ (Nat.le_refl _) k os⟩
theorem zep (l : List Op) {A : Option Addr} {n c : Nat} {W : World} {F : Nat → Prop} (hF : z8u F W) (h : Rds shOp W F l A n c) :
  Calls Tryd.prog 39 #[.slice A n c] W fun e w' => e = .returned (.tuple #[.string ⟨(z1s l).1.toArray⟩, .int .i64 (z1s l).2]) ∧ Below W.heap.size W w' := by
 refine (zq8 (us := [.slice A n c]) rfl (z3a (fn := Tryd.f39) (by kernel_rfl) (by kernel_rfl) (by kernel_rfl)) zsv hF (zgx l) (zgb (zam z7d h) zga)).mono ?_
 rintro e w' ⟨⟨v1, v2, F', rfl, h1, h2⟩, h3⟩
 obtain ⟨rfl, -⟩ := zif h1
 obtain ⟨rfl, -⟩ := zi9 h2
 exact ⟨rfl, h3⟩
end
section
open Go.RowKit
theorem zka : ∀ {l : List Out}, z23 l = 0 → ∀ o ∈ l, z6f o = 0
 | [], _, o, ho => by cases ho
 | x :: l, h, o, ho => by
  rw [z23] at h
  split at h
  ·rename_i hb; exact absurd h hb
  ·rename_i hb
   rcases List.mem_cons.1 ho with rfl | ho
   ·exact Decidable.not_not.1 hb
   ·exact zka h o ho
theorem zyk {o : Out} (h : z6f o = 0) : 1 ≤ o.coin ∧ z8 o.lock = 0 := by
 unfold z6f at h
 split at h
 ·cases h
 ·exact ⟨by omega, h⟩
theorem zq9 : ∀ (l : List Int) (s : Int), (z9n l s).2 = 0 → ∀ x ∈ l, 0 ≤ x ∧ x ≤ 1000000000
 | [], _, _, x, hx => by cases hx
 | y :: l, s, h, x, hx => by
  unfold z9n at h
  by_cases hb : 0 ≤ y ∧ y ≤ 1000000000
  ·rw [if_pos hb] at h
   by_cases hf : 1000000000 < s + y
   ·rw [if_pos hf] at h; cases h
   ·rw [if_neg hf] at h
    rcases List.mem_cons.1 hx with rfl | hx
    ·exact hb
    ·exact zq9 l _ h x hx
  ·rw [if_neg hb] at h; cases h
structure TxOK (t : Tx) : Prop where
 ins : t.ins.length ≤ 6
 outs : t.outs.length ≤ 6
 some : 0 < t.outs.length
 head : z1k t = 0
 insOk : z2o t.ins [] = 0
 good : ∀ o ∈ t.outs, 1 ≤ o.coin ∧ o.coin ≤ 1000000000 ∧ z8 o.lock = 0
theorem z2e {t : Tx} (h : zi t = 0) : TxOK t := by
 unfold zi at h
 split at h
 ·rename_i hb; exact absurd h hb
 rename_i h1
 split at h
 ·rename_i hb; exact absurd h hb
 rename_i h2
 split at h
 ·rename_i hb; exact absurd h hb
 rename_i h3
 have h1 : z1k t = 0 := Decidable.not_not.1 h1
 have h3 : z23 t.outs = 0 := Decidable.not_not.1 h3
 have h1' := h1
 unfold z1k at h1'
 split at h1'
 ·cases h1'
 split at h1'
 ·cases h1'
 refine ⟨by omega, by omega, by omega, h1, Decidable.not_not.1 h2, fun o ho => ?_⟩
 have a := zyk (zka h3 o ho)
 have b := zq9 _ _ h o.coin (List.mem_map.2 ⟨o, ho, rfl⟩)
 exact ⟨a.1, b.2, a.2⟩
theorem zbx {x : In} (h : z4c x = 0) : 1 ≤ x.p.tx ∧ x.p.tx ≤ 120 ∧ 0 ≤ x.p.at_ ∧ x.p.at_ < 6 ∧ z8 x.key = 0 := by
 unfold z4c at h
 split at h
 ·cases h
 ·exact ⟨by omega, by omega, by omega, by omega, h⟩
theorem z9a : ∀ {l seen : List In}, z2o l seen = 0 → ∀ x ∈ l, z4c x = 0
 | [], _, _, _, h => by cases h
 | y :: l, seen, h, x, hx => by
  rw [z2o] at h
  split at h
  ·rename_i hb; exact absurd h hb
  ·rename_i hb
   split at h
   ·cases h
   ·rcases List.mem_cons.1 hx with rfl | hx
    ·exact Decidable.not_not.1 hb
    ·exact z9a h x hx
theorem zeq {h : Int} : ∀ {l : List Tx} {i : Nat}, z6g h l i = 0 → ∀ t ∈ l, zi t = 0
 | [], _, _, t, ht => by cases ht
 | y :: l, i, e, t, ht => by
  rw [z6g] at e
  by_cases h1 : zi y ≠ 0
  ·rw [if_pos h1] at e; exact absurd e h1
  ·rw [if_neg h1] at e
   split at e
   ·cases e
   ·rcases List.mem_cons.1 ht with rfl | ht
    ·simpa using h1
    ·exact zeq e t ht
structure BlkOK (b : Block) : Prop where
 range : ¬ z3r b
 len : b.txs.length ≤ 4
 some : 0 < b.txs.length
 go : z6g b.height b.txs 0 = 0
 each : ∀ t ∈ b.txs, zi t = 0
theorem z45 {b : Block} (h : zq b = 0) : BlkOK b := by
 unfold zq at h
 by_cases h0 : z5x b = 0
 ·rw [if_neg (fun k => k h0)] at h
  unfold z5x at h0
  split at h0
  ·cases h0
  split at h0
  ·cases h0
  split at h0
  ·cases h0
  exact ⟨by assumption, by omega, by omega, h, zeq h⟩
 ·rw [if_pos h0] at h; exact absurd h h0
end
section
open Go.Lib (itoa)
def z32 (x : In) : List UInt8 := [105, 110, 32] ++ itoa x.p.tx ++ [32] ++ itoa x.p.at_ ++ [58] ++ (z1s x.key).1 ++ [10]
def z2i (x : Out) : List UInt8 := [111, 117, 116, 32] ++ itoa x.coin ++ [58] ++ (z1s x.lock).1 ++ [10]
def z2v (t : Tx) : List UInt8 := [116, 120, 32] ++ itoa t.height ++ [10]
def z0b (t : Tx) : List UInt8 := z2v t ++ t.ins.flatMap z32 ++ t.outs.flatMap z2i
def z0g (t : Tx) : List UInt8 × Int := if zi t ≠ 0 then ([], zi t) else (z0b t, 0)
theorem z89 (l : List Op) : (z1s l).1.length ≤ 144 := by
 unfold z1s
 by_cases h : z8 l = 0
 ·rw [if_neg (fun k => k h)]; exact za7 h
 ·rw [if_pos h]; simp
def z3u (b : Block) : List UInt8 := [98, 108, 111, 99, 107, 32] ++ itoa b.parent ++ [32] ++ itoa b.height ++ [32] ++ itoa b.work ++ [32] ++ itoa b.nonce ++ [10]
def z0e (b : Block) : List UInt8 := z3u b ++ b.txs.flatMap z0b
def z05 (b : Block) : List UInt8 × Int := if zq b ≠ 0 then ([], zq b) else (z0e b, 0)
theorem z8a {α : Type} (f : α → List UInt8) (m : Nat) : ∀ l : List α, (∀ x ∈ l, (f x).length ≤ m) → (l.flatMap f).length ≤ m * l.length
 | [], _ => by simp
 | x :: r, h => by
  have h1 := h x (by simp)
  have h2 := z8a f m r fun y hy => h y (List.mem_cons_of_mem _ hy)
  simp only [List.flatMap_cons, List.length_append, List.length_cons, Nat.mul_add, Nat.mul_one]
  omega
theorem z61 {n : Int} (h0 : -1000000000 ≤ n) (h1 : n ≤ 1000000000) : (itoa n).length ≤ 20 := by
 by_cases hn : n < 0
 ·rw [z97 hn, List.length_cons]
  have := z2u 18 n.natAbs (by omega)
  omega
 ·rw [z98 hn]
  have := z2u 18 n.toNat (by omega)
  omega
theorem zyl {x : In} (h : z4c x = 0) : (z32 x).length ≤ 200 := by
 obtain ⟨h1, h2, h3, h4, h5⟩ := zbx h
 have := z61 (n := x.p.tx) (by omega) (by omega)
 have := z61 (n := x.p.at_) (by omega) (by omega)
 have := z89 x.key
 simp [z32]; omega
theorem zvt {x : Out} (h1 : 1 ≤ x.coin) (h2 : x.coin ≤ 1000000000) : (z2i x).length ≤ 200 := by
 have := z61 (n := x.coin) (by omega) (by omega)
 have := z89 x.lock
 simp [z2i]; omega
theorem zc7 {t : Tx} (h : z1k t = 0) : 0 ≤ t.height ∧ t.height ≤ 1000 := by
 unfold z1k at h
 split at h
 ·cases h
 split at h
 ·cases h
 split at h
 ·cases h
 omega
theorem zdi {t : Tx} (h : zi t = 0) : (z0b t).length ≤ 2500 := by
 have ok := z2e h
 have h0 := zc7 ok.head
 have h1 := z61 (n := t.height) (by omega) (by omega)
 have h2 := z8a z32 200 t.ins fun x hx => zyl (z9a ok.insOk x hx)
 have h3 := z8a z2i 200 t.outs fun x hx => zvt (ok.good x hx).1 (ok.good x hx).2.1
 have h4 := ok.ins
 have h5 := ok.outs
 simp only [z0b, z2v, List.length_append, List.length_cons, List.length_nil]
 omega
theorem zh0 (t : Tx) : (z0g t).1.length ≤ 2500 := by
 unfold z0g
 by_cases h : zi t = 0
 ·rw [if_neg (fun k => k h)]; exact zdi h
 ·rw [if_pos h]; simp
theorem zvu {t : Tx} (h : zi t = 0) : z0g t = (z0b t, 0) := by
 unfold z0g; rw [if_neg (fun k => k h)]
theorem zer {b : Block} (h : zq b = 0) : z05 b = (z0e b, 0) := by
 unfold z05; rw [if_neg (fun k => k h)]
theorem zvv {b : Block} (h : zq b = 0) : (z0e b).length ≤ 20000 := by
 have ok := z45 h
 have hr := ok.range
 unfold z3r at hr
 have h1 := z61 (n := b.parent) (by omega) (by omega)
 have h2 := z61 (n := b.height) (by omega) (by omega)
 have h3 := z61 (n := b.work) (by omega) (by omega)
 have h4 := z61 (n := b.nonce) (by omega) (by omega)
 have h5 := z8a z0b 2500 b.txs fun x hx => zdi (ok.each x hx)
 have h6 := ok.len
 simp only [z0e, z3u, List.length_append, List.length_cons, List.length_nil]
 omega
theorem zsy (b : Block) : (z05 b).1.length ≤ 20000 := by
 unfold z05
 by_cases h : zq b = 0
 ·rw [if_neg (fun k => k h)]; exact zvv h
 ·rw [if_pos h]; simp
end
section
open Go.RowKit Go.Shelf
open Go.Lib (itoa)
set_option maxRecDepth 100000
set_option maxHeartbeats 4000000 in
theorem zkb (t : Tx) (cs : List Value) {w0 W : World} {F0 : Nat → Prop} {Γ : List Res} (hS : Sep w0 F0 Γ W) (ht : At Γ (rep t cs shTx)) (hG : Glob w0) :
  Calls Tryd.prog 17 #[.agg cs.toArray] W (RV w0 F0 Γ (.tuple #[.string ⟨(z0g t).1.toArray⟩, .int .i64 (z0g t).2])) := by
 (have hO := hS.open_tx ht; clear hS; obtain ⟨A, n, c, A2, n2, c2, rfl, i1, hS⟩ := hO)
 obtain ⟨hl1, hn1, hc1⟩ := hS.len (xs := t.ins) (by repeat (first | with_reducible exact At.z | assumption | apply At.s))
 obtain ⟨hl2, hn2, hc2⟩ := hS.len (xs := t.outs) (by repeat (first | with_reducible exact At.z | assumption | apply At.s))
 have HP := Lib.hid (show z0g t = if zi t ≠ 0 then ([], zi t) else (z0b t, 0) from rfl)
 generalize z0g t = R at *
 have L1 := Lib.hid hl1
 have L2 := Lib.hid hl2
 clear hl1 hl2
 go_enter Tryd.func17, Tryd.ntmps17
 (go_wp2_with (first | (refine Sep.wbox hS (by rfl) rfl rfl ?_; clear hS; intro gt W hS; refine Stop.go ?_) | (refine Sep.walloc hS (by rfl) rfl (by first | exact za9 | exact z42 | exact zaa | exact z78 | exact zab | exact z59 | exact z5a | exact z5b | exact z43 | exact z79 | exact z44 | exact z5c | exact z7a) ?_; clear hS; intro gt W hS; refine Stop.go ?_) | (first | (refine Sep.wload1b hS (by rfl) rfl rfl (zf rfl) (by repeat (first | with_reducible exact At.z | assumption | apply At.s)) rfl ?_) | (refine Sep.wloadNb hS (by rfl) rfl rfl (by repeat (first | with_reducible exact At.z | assumption | apply At.s)) (zo rfl) ?_) | (refine Sep.wload1z hS (by rfl) rfl rfl (zf rfl) (by repeat (first | with_reducible exact At.z | assumption | apply At.s)) rfl ?_) | (refine Sep.wload1c hS (by rfl) rfl rfl (zf rfl) (by repeat (first | with_reducible exact At.z | assumption | apply At.s)) rfl ?_) | (refine Sep.wloadNz hS (by rfl) rfl rfl (by repeat (first | with_reducible exact At.z | assumption | apply At.s)) (zo rfl) ?_) | (refine Sep.walloc hS (by rfl) rfl (by first | exact za9 | exact z42 | exact zaa | exact z78 | exact zab | exact z59 | exact z5a | exact z5b | exact z43 | exact z79 | exact z44 | exact z5c | exact z7a) ?_; clear hS; intro g W hS) | (refine Sep.wbox hS (by rfl) rfl rfl ?_; clear hS; intro g W hS) | (refine Sep.wstoreNb hS (by rfl) rfl rfl rfl (zo rfl) (by simp [z7l, Value.oneCell']) (by repeat (first | with_reducible exact At.z | assumption | apply At.s)) (by rfl) (by repeat (first | with_reducible exact Put.z | apply Put.s)) ?_; clear hS; intro W hS))); refine Stop.mk ?_)
 go_wp2_with ((first | (refine Sep.wload1b hS (by rfl) rfl rfl (zf rfl) (by repeat (first | with_reducible exact At.z | assumption | apply At.s)) rfl ?_) | (refine Sep.wloadNb hS (by rfl) rfl rfl (by repeat (first | with_reducible exact At.z | assumption | apply At.s)) (zo rfl) ?_) | (refine Sep.wload1z hS (by rfl) rfl rfl (zf rfl) (by repeat (first | with_reducible exact At.z | assumption | apply At.s)) rfl ?_) | (refine Sep.wload1c hS (by rfl) rfl rfl (zf rfl) (by repeat (first | with_reducible exact At.z | assumption | apply At.s)) rfl ?_) | (refine Sep.wloadNz hS (by rfl) rfl rfl (by repeat (first | with_reducible exact At.z | assumption | apply At.s)) (zo rfl) ?_) | (refine Sep.walloc hS (by rfl) rfl (by first | exact za9 | exact z42 | exact zaa | exact z78 | exact zab | exact z59 | exact z5a | exact z5b | exact z43 | exact z79 | exact z44 | exact z5c | exact z7a) ?_; clear hS; intro g W hS) | (refine Sep.wbox hS (by rfl) rfl rfl ?_; clear hS; intro g W hS) | (refine Sep.wstoreNb hS (by rfl) rfl rfl rfl (zo rfl) (by simp [z7l, Value.oneCell']) (by repeat (first | with_reducible exact At.z | assumption | apply At.s)) (by rfl) (by repeat (first | with_reducible exact Put.z | apply Put.s)) ?_; clear hS; intro W hS)))
 refine (hS.old (za3 t [_, _, _] _ _ (hS.ltsRep (At.s (At.s (At.s ht)))) (fun b hb => hb))).mono ?_; clear hS; rintro e W ⟨rfl, hS⟩
 rcases Classical.em (zi t = 0) with h0 | h0
 ·rw [h0]
  have HR : Hid (R = (z0b t, 0)) := Lib.hid (by rw [HP.out, if_neg (fun h => h h0)])
  have H0 := Lib.hid h0
  have hlen : n ≤ 6 ∧ n2 ≤ 6 := by
   have q := h0
   unfold zi z1k at q
   have := L1.out
   have := L2.out
   by_cases h6 : 6 < t.ins.length ∨ 6 < t.outs.length
   ·rw [if_pos h6] at q; simp at q
   ·omega
  clear h0 HP
  have b0 := hS.boxCell (g := gt) At.z 0 _ rfl
  have b1 := hS.boxCell (g := gt) At.z 1 _ rfl
  have b2 := hS.boxCell (g := gt) At.z 2 _ rfl
  have gl : gt < W.heap.size := (Array.getElem?_eq_some_iff.1 (hS.getBox (g := gt) At.z).2).1
  have hΔ : FactsW W (Lt W.heap.size) [rds t.ins A n c shIn, rds t.outs A2 n2 c2 shOut] := .rds (hS.ltsRds (by repeat (first | with_reducible exact At.z | assumption | apply At.s))) (.rds (hS.ltsRds (by repeat (first | with_reducible exact At.z | assumption | apply At.s))) .nil)
  have hG1 : Glob W := hG.on hS.below
  obtain ⟨h, ins, outs⟩ := t
  simp only at *
  rename World => Wb
  have hSo := hS
  clear hS
  (go_wp2_with (first | (refine wsb (by rfl) rfl z_sb hΔ ?_; intro W1 hS; refine Stop.go ?_)); refine Stop.mk ?_)
  have c0 := (hS.below.cell (p := ⟨gt, 0, none⟩) gl).trans b0
  go_wp2_with fail
  refine (hS.old (z7h h i1 (hG1.on hS.below))).mono ?_; clear hS; rintro e W ⟨rfl, hS⟩
  have li := z3t h i1
  go_wp2_with fail
  refine (hS.write (l := []) (by repeat (first | with_reducible exact At.z | assumption | apply At.s)) hΔ _ (by simp [ByteArray.size]; omega)).mono ?_
  clear hS
  rintro e W2 ⟨⟨v, rfl⟩, hS⟩
  have c1 := (hS.below.cell (p := ⟨gt, 1, none⟩) gl).trans b1
  go_wp2_with fail
  have e0 : [] ++ ((⟨#[116, 120, 32]⟩ : ByteArray) ++ ⟨(itoa h).toArray⟩ ++ ⟨#[10]⟩).data.toList = z2v ⟨h, ins, outs⟩ := by simp [ByteArray.data_append, z2v]
  rw [e0] at hS
  clear e0
  have lh : (z2v ⟨h, ins, outs⟩).length ≤ 24 := by simp [z2v]; omega
  go_loopw [7, 8, 9, 28] (fun _ _ _ i wr => ∃ k : Nat, k ≤ n ∧ i = .int .i64 k ∧ ∃ l : List UInt8, l.length ≤ 24 + 200 * k ∧ Hid (l = z2v ⟨h, ins, outs⟩ ++ (ins.take k).flatMap z32) ∧ Sep Wb (Lt Wb.heap.size) (sb Wb.heap.size l :: rds ins A n c shIn :: rds outs A2 n2 c2 shOut :: []) wr) (fun _ _ _ i _ => n - (intOf i).toNat)
  case atStart => exact ⟨0, by omega, rfl, z2v ⟨h, ins, outs⟩, by omega, Lib.hid (by simp), hS.sub (by repeat (first | with_reducible exact Sub.refl | with_reducible exact Sub.nil | refine Sub.take (by repeat (first | with_reducible exact Del.z | apply Del.s)) ?_ | apply Sub.skip))⟩
  case round =>
   clear hS c1 c0
   obtain ⟨k, hk, rfl, l, hl, HL, hS⟩ := hrel
   rcases Classical.em (k < n) with hlt | hlt
   ·(have hO := hS.elemIn (xs := ins) (by repeat (first | with_reducible exact At.z | assumption | apply At.s)) hlt; clear hS; obtain ⟨b, off, x, A1, n1, c1, rfl, hx, j1, j2, hS⟩ := hO)
    have HX := Lib.hid hx
    have k1 : (0 : Int) ≤ (k : Int) := by omega
    have k2 : (k : Int) < (n : Int) := by omega
    clear hx
    obtain ⟨⟨ptx, pat⟩, key⟩ := x
    simp only at j1 j2 hS
    (go_wp2_with (first | (refine Sep.wloadNz hS (by rfl) rfl rfl (by repeat (first | with_reducible exact At.z | assumption | apply At.s)) (zo rfl) ?_) | (refine Sep.walloc hS (by rfl) rfl (by first | exact za9 | exact z42 | exact zaa | exact z78 | exact zab | exact z59 | exact z5a | exact z5b | exact z43 | exact z79 | exact z44 | exact z5c | exact z7a) ?_; clear hS; intro g W hS) | (refine Sep.wstoreNb hS (by rfl) rfl rfl rfl (zo rfl) (by simp [z7l, Value.oneCell']) (by repeat (first | with_reducible exact At.z | assumption | apply At.s)) (by rfl) (by repeat (first | with_reducible exact Put.z | apply Put.s)) ?_; clear hS; intro W hS; refine Stop.go ?_)); refine Stop.mk ?_)
    have x2 := hS.boxCell (g := g) (cs := [.int .i64 ptx, .int .i64 pat, .slice A1 n1 c1]) (by repeat (first | with_reducible exact At.z | assumption | apply At.s)) 2 _ rfl
    go_wp2_with fail
    refine (hS.old (zep key ⟨fun b hb => hb, hG1.on hS.below⟩ (hS.ltsRds (by repeat (first | with_reducible exact At.z | assumption | apply At.s))))).mono ?_; clear hS; rintro e W ⟨rfl, hS⟩
    clear x2
    have lp := z89 key
    have l1 := z3t ptx j1
    have l2 := z3t pat j2
    go_wp2_with fail
    (refine Sep.regionT hS [15] (by kernel_rfl) ?_; clear hS; intro W hS)
    (refine z0z 0 rfl rfl (by (first | exact Yl.move rfl | exact Yl.assign rfl | exact Yl.load1b rfl rfl (zf rfl) (by repeat (first | with_reducible exact At.z | assumption | apply At.s)) rfl | exact Yl.loadNb rfl rfl (by repeat (first | with_reducible exact At.z | assumption | apply At.s)) (zo rfl) | exact Yl.load1z rfl rfl (zf rfl) (by repeat (first | with_reducible exact At.z | assumption | apply At.s)) rfl | exact Yl.load1c rfl rfl (zf rfl) (by repeat (first | with_reducible exact At.z | assumption | apply At.s)) rfl | exact Yl.loadNz rfl rfl (by repeat (first | with_reducible exact At.z | assumption | apply At.s)) (zo rfl) | (apply Yl.pure; intro W; go_simp; with_reducible rfl))) (hS.sub (by repeat (first | with_reducible exact Sub.refl | with_reducible exact Sub.nil | refine Sub.take (by repeat (first | with_reducible exact Del.z | apply Del.s)) ?_ | apply Sub.skip))) (by kernel_rfl) (fun _ _ _ h => h) ?_; simp only [Act.put, List.setIfInBounds_toArray, List.set_cons_zero, List.set_cons_succ])
    (refine z0z 1 rfl rfl (by (first | exact Yl.move rfl | exact Yl.assign rfl | exact Yl.load1b rfl rfl (zf rfl) (by repeat (first | with_reducible exact At.z | assumption | apply At.s)) rfl | exact Yl.loadNb rfl rfl (by repeat (first | with_reducible exact At.z | assumption | apply At.s)) (zo rfl) | exact Yl.load1z rfl rfl (zf rfl) (by repeat (first | with_reducible exact At.z | assumption | apply At.s)) rfl | exact Yl.load1c rfl rfl (zf rfl) (by repeat (first | with_reducible exact At.z | assumption | apply At.s)) rfl | exact Yl.loadNz rfl rfl (by repeat (first | with_reducible exact At.z | assumption | apply At.s)) (zo rfl) | (apply Yl.pure; intro W; go_simp; with_reducible rfl))) (hS.sub (by repeat (first | with_reducible exact Sub.refl | with_reducible exact Sub.nil | refine Sub.take (by repeat (first | with_reducible exact Del.z | apply Del.s)) ?_ | apply Sub.skip))) (by kernel_rfl) (fun _ _ _ h => h) ?_; simp only [Act.put, List.setIfInBounds_toArray, List.set_cons_zero, List.set_cons_succ])
    (refine z0z 2 rfl rfl (by (first | exact Yl.move rfl | exact Yl.assign rfl | exact Yl.load1b rfl rfl (zf rfl) (by repeat (first | with_reducible exact At.z | assumption | apply At.s)) rfl | exact Yl.loadNb rfl rfl (by repeat (first | with_reducible exact At.z | assumption | apply At.s)) (zo rfl) | exact Yl.load1z rfl rfl (zf rfl) (by repeat (first | with_reducible exact At.z | assumption | apply At.s)) rfl | exact Yl.load1c rfl rfl (zf rfl) (by repeat (first | with_reducible exact At.z | assumption | apply At.s)) rfl | exact Yl.loadNz rfl rfl (by repeat (first | with_reducible exact At.z | assumption | apply At.s)) (zo rfl) | (apply Yl.pure; intro W; go_simp; with_reducible rfl))) (hS.sub (by repeat (first | with_reducible exact Sub.refl | with_reducible exact Sub.nil | refine Sub.take (by repeat (first | with_reducible exact Del.z | apply Del.s)) ?_ | apply Sub.skip))) (by kernel_rfl) (fun _ _ _ h => h) ?_; simp only [Act.put, List.setIfInBounds_toArray, List.set_cons_zero, List.set_cons_succ])
    (refine z0z 6 rfl rfl (by (first | exact Yl.move rfl | exact Yl.assign rfl | exact Yl.load1b rfl rfl (zf rfl) (by repeat (first | with_reducible exact At.z | assumption | apply At.s)) rfl | exact Yl.loadNb rfl rfl (by repeat (first | with_reducible exact At.z | assumption | apply At.s)) (zo rfl) | exact Yl.load1z rfl rfl (zf rfl) (by repeat (first | with_reducible exact At.z | assumption | apply At.s)) rfl | exact Yl.load1c rfl rfl (zf rfl) (by repeat (first | with_reducible exact At.z | assumption | apply At.s)) rfl | exact Yl.loadNz rfl rfl (by repeat (first | with_reducible exact At.z | assumption | apply At.s)) (zo rfl) | (apply Yl.pure; intro W; go_simp; with_reducible rfl))) (hS.sub (by repeat (first | with_reducible exact Sub.refl | with_reducible exact Sub.nil | refine Sub.take (by repeat (first | with_reducible exact Del.z | apply Del.s)) ?_ | apply Sub.skip))) (by kernel_rfl) (fun _ _ _ h => h) ?_; simp only [Act.put, List.setIfInBounds_toArray, List.set_cons_zero, List.set_cons_succ])
    (refine z0z 7 rfl rfl (by (first | exact Yl.move rfl | exact Yl.assign rfl | exact Yl.load1b rfl rfl (zf rfl) (by repeat (first | with_reducible exact At.z | assumption | apply At.s)) rfl | exact Yl.loadNb rfl rfl (by repeat (first | with_reducible exact At.z | assumption | apply At.s)) (zo rfl) | exact Yl.load1z rfl rfl (zf rfl) (by repeat (first | with_reducible exact At.z | assumption | apply At.s)) rfl | exact Yl.load1c rfl rfl (zf rfl) (by repeat (first | with_reducible exact At.z | assumption | apply At.s)) rfl | exact Yl.loadNz rfl rfl (by repeat (first | with_reducible exact At.z | assumption | apply At.s)) (zo rfl) | (apply Yl.pure; intro W; go_simp; with_reducible rfl))) (hS.sub (by repeat (first | with_reducible exact Sub.refl | with_reducible exact Sub.nil | refine Sub.take (by repeat (first | with_reducible exact Del.z | apply Del.s)) ?_ | apply Sub.skip))) (by kernel_rfl) (fun _ _ _ h => h) ?_; simp only [Act.put, List.setIfInBounds_toArray, List.set_cons_zero, List.set_cons_succ])
    (refine z0z 8 rfl rfl (by (first | exact Yl.move rfl | exact Yl.assign rfl | exact Yl.load1b rfl rfl (zf rfl) (by repeat (first | with_reducible exact At.z | assumption | apply At.s)) rfl | exact Yl.loadNb rfl rfl (by repeat (first | with_reducible exact At.z | assumption | apply At.s)) (zo rfl) | exact Yl.load1z rfl rfl (zf rfl) (by repeat (first | with_reducible exact At.z | assumption | apply At.s)) rfl | exact Yl.load1c rfl rfl (zf rfl) (by repeat (first | with_reducible exact At.z | assumption | apply At.s)) rfl | exact Yl.loadNz rfl rfl (by repeat (first | with_reducible exact At.z | assumption | apply At.s)) (zo rfl) | (apply Yl.pure; intro W; go_simp; with_reducible rfl))) (hS.sub (by repeat (first | with_reducible exact Sub.refl | with_reducible exact Sub.nil | refine Sub.take (by repeat (first | with_reducible exact Del.z | apply Del.s)) ?_ | apply Sub.skip))) (by kernel_rfl) (fun _ _ _ h => h) ?_; simp only [Act.put, List.setIfInBounds_toArray, List.set_cons_zero, List.set_cons_succ])
    (refine z0z 12 rfl rfl (by (first | exact Yl.move rfl | exact Yl.assign rfl | exact Yl.load1b rfl rfl (zf rfl) (by repeat (first | with_reducible exact At.z | assumption | apply At.s)) rfl | exact Yl.loadNb rfl rfl (by repeat (first | with_reducible exact At.z | assumption | apply At.s)) (zo rfl) | exact Yl.load1z rfl rfl (zf rfl) (by repeat (first | with_reducible exact At.z | assumption | apply At.s)) rfl | exact Yl.load1c rfl rfl (zf rfl) (by repeat (first | with_reducible exact At.z | assumption | apply At.s)) rfl | exact Yl.loadNz rfl rfl (by repeat (first | with_reducible exact At.z | assumption | apply At.s)) (zo rfl) | (apply Yl.pure; intro W; go_simp; with_reducible rfl))) (hS.sub (by repeat (first | with_reducible exact Sub.refl | with_reducible exact Sub.nil | refine Sub.take (by repeat (first | with_reducible exact Del.z | apply Del.s)) ?_ | apply Sub.skip))) (by kernel_rfl) (fun _ _ _ h => h) ?_; simp only [Act.put, List.setIfInBounds_toArray, List.set_cons_zero, List.set_cons_succ])
    refine zdh 3 (by kernel_rfl) rfl ?_
    go_wp2_with fail
    refine (hS.old (z7h ptx j1 (hG1.on hS.below))).mono ?_; clear hS; rintro e W ⟨rfl, hS⟩
    go_wp2_with fail
    (refine ⟨fun _ => hS.sub (by repeat (first | with_reducible exact Sub.refl | with_reducible exact Sub.nil | refine Sub.take (by repeat (first | with_reducible exact Del.z | apply Del.s)) ?_ | apply Sub.skip)), ?_⟩; try simp only [Act.put, List.setIfInBounds_toArray, List.set_cons_zero, List.set_cons_succ])
    (refine z0z 4 rfl rfl (Yl.cat rfl rfl rfl (by simp only [List.length_append, List.length_cons, List.length_nil]; omega)) (hS.sub (by repeat (first | with_reducible exact Sub.refl | with_reducible exact Sub.nil | refine Sub.take (by repeat (first | with_reducible exact Del.z | apply Del.s)) ?_ | apply Sub.skip))) (by kernel_rfl) (fun _ _ _ h => h) ?_; simp only [Act.put, List.setIfInBounds_toArray, List.set_cons_zero, List.set_cons_succ])
    (refine z0z 5 rfl rfl (Yl.cat rfl rfl rfl (by simp only [List.length_append, List.length_cons, List.length_nil]; omega)) (hS.sub (by repeat (first | with_reducible exact Sub.refl | with_reducible exact Sub.nil | refine Sub.take (by repeat (first | with_reducible exact Del.z | apply Del.s)) ?_ | apply Sub.skip))) (by kernel_rfl) (fun _ _ _ h => h) ?_; simp only [Act.put, List.setIfInBounds_toArray, List.set_cons_zero, List.set_cons_succ])
    refine zdh 9 (by kernel_rfl) rfl ?_
    go_wp2_with fail
    refine (hS.old (z7h pat j2 (hG1.on hS.below))).mono ?_; clear hS; rintro e W ⟨rfl, hS⟩
    go_wp2_with fail
    (refine ⟨fun _ => hS.sub (by repeat (first | with_reducible exact Sub.refl | with_reducible exact Sub.nil | refine Sub.take (by repeat (first | with_reducible exact Del.z | apply Del.s)) ?_ | apply Sub.skip)), ?_⟩; try simp only [Act.put, List.setIfInBounds_toArray, List.set_cons_zero, List.set_cons_succ])
    (refine z0z 10 rfl rfl (Yl.cat rfl rfl rfl (by simp only [List.length_append, List.length_cons, List.length_nil]; omega)) (hS.sub (by repeat (first | with_reducible exact Sub.refl | with_reducible exact Sub.nil | refine Sub.take (by repeat (first | with_reducible exact Del.z | apply Del.s)) ?_ | apply Sub.skip))) (by kernel_rfl) (fun _ _ _ h => h) ?_; simp only [Act.put, List.setIfInBounds_toArray, List.set_cons_zero, List.set_cons_succ])
    (refine z0z 11 rfl rfl (Yl.cat rfl rfl rfl (by simp only [List.length_append, List.length_cons, List.length_nil]; omega)) (hS.sub (by repeat (first | with_reducible exact Sub.refl | with_reducible exact Sub.nil | refine Sub.take (by repeat (first | with_reducible exact Del.z | apply Del.s)) ?_ | apply Sub.skip))) (by kernel_rfl) (fun _ _ _ h => h) ?_; simp only [Act.put, List.setIfInBounds_toArray, List.set_cons_zero, List.set_cons_succ])
    (refine z0z 13 rfl rfl (Yl.cat rfl rfl rfl (by simp only [List.length_append, List.length_cons, List.length_nil]; omega)) (hS.sub (by repeat (first | with_reducible exact Sub.refl | with_reducible exact Sub.nil | refine Sub.take (by repeat (first | with_reducible exact Del.z | apply Del.s)) ?_ | apply Sub.skip))) (by kernel_rfl) (fun _ _ _ h => h) ?_; simp only [Act.put, List.setIfInBounds_toArray, List.set_cons_zero, List.set_cons_succ])
    (refine z0z 14 rfl rfl (Yl.cat rfl rfl rfl (by simp only [List.length_append, List.length_cons, List.length_nil]; omega)) (hS.sub (by repeat (first | with_reducible exact Sub.refl | with_reducible exact Sub.nil | refine Sub.take (by repeat (first | with_reducible exact Del.z | apply Del.s)) ?_ | apply Sub.skip))) (by kernel_rfl) (fun _ _ _ h => h) ?_; simp only [Act.put, List.setIfInBounds_toArray, List.set_cons_zero, List.set_cons_succ])
    refine zdh 15 (by kernel_rfl) rfl ?_
    go_wp2_with fail
    refine (hS.write (l := l) (by repeat (first | with_reducible exact At.z | assumption | apply At.s)) hΔ _ (by simp [ByteArray.size]; omega)).mono ?_
    clear hS
    rintro e W2 ⟨⟨v, rfl⟩, hS⟩
    go_wp2_with fail
    (refine ⟨fun h => zua (by kernel_rfl) h, ?_⟩; try simp only [Act.put, List.setIfInBounds_toArray, List.set_cons_zero, List.set_cons_succ])
    refine zeo (by kernel_rfl) ?_
    go_wp2_with fail
    rw [show l ++ 105 :: 110 :: 32 :: (itoa ptx ++ 32 :: (itoa pat ++ 58 :: ((z1s key).1 ++ [10]))) = l ++ z32 ⟨⟨ptx, pat⟩, key⟩ by simp [z32]] at hS
    go_roundw
    case measure => simp [intOf]; omega
    case rel => exact ⟨k + 1, by omega, by go_num, l ++ z32 ⟨⟨ptx, pat⟩, key⟩, by simp [z32]; omega, Lib.hid (by rw [z20 HX.out, HL.out]; simp), hS.sub (by repeat (first | with_reducible exact Sub.refl | with_reducible exact Sub.nil | refine Sub.take (by repeat (first | with_reducible exact Del.z | apply Del.s)) ?_ | apply Sub.skip))⟩
   ·obtain rfl : k = n := by omega
    have d2 := (hS.below.cell (p := ⟨gt, 2, none⟩) gl).trans b2
    have HL2 : Hid (l = z2v ⟨h, ins, outs⟩ ++ ins.flatMap z32) := Lib.hid (by rw [HL.out, List.take_of_length_le (by have := L1.out; omega)])
    clear HL
    go_wp2_with fail
    clear d2
    go_loopw [11, 12, 13, 58] (fun _ _ _ i wr => ∃ k : Nat, k ≤ n2 ∧ i = .int .i64 k ∧ ∃ m : List UInt8, m.length ≤ l.length + 200 * k ∧ Hid (m = l ++ (outs.take k).flatMap z2i) ∧ Sep Wb (Lt Wb.heap.size) (sb Wb.heap.size m :: rds outs A2 n2 c2 shOut :: []) wr) (fun _ _ _ i _ => n2 - (intOf i).toNat)
    case atStart => exact ⟨0, by omega, rfl, l, by omega, Lib.hid (by simp), hS.sub (by repeat (first | with_reducible exact Sub.refl | with_reducible exact Sub.nil | refine Sub.take (by repeat (first | with_reducible exact Del.z | apply Del.s)) ?_ | apply Sub.skip))⟩
    case round =>
     clear hS
     obtain ⟨k, hk, rfl, m, hm, HM, hS⟩ := hrel
     rcases Classical.em (k < n2) with hlt | hlt
     ·(have hO := hS.elemOut (xs := outs) (by repeat (first | with_reducible exact At.z | assumption | apply At.s)) hlt; clear hS; obtain ⟨b, off, x, A1, n1, c1, rfl, hx, j1, hS⟩ := hO)
      have HX := Lib.hid hx
      have k1 : (0 : Int) ≤ (k : Int) := by omega
      have k2 : (k : Int) < (n2 : Int) := by omega
      clear hx
      obtain ⟨coin, lock⟩ := x
      simp only at j1 hS
      (go_wp2_with (first | (refine Sep.wloadNz hS (by rfl) rfl rfl (by repeat (first | with_reducible exact At.z | assumption | apply At.s)) (zo rfl) ?_) | (refine Sep.walloc hS (by rfl) rfl (by first | exact za9 | exact z42 | exact zaa | exact z78 | exact zab | exact z59 | exact z5a | exact z5b | exact z43 | exact z79 | exact z44 | exact z5c | exact z7a) ?_; clear hS; intro g W hS) | (refine Sep.wstoreNb hS (by rfl) rfl rfl rfl (zo rfl) (by simp [z7l, Value.oneCell']) (by repeat (first | with_reducible exact At.z | assumption | apply At.s)) (by rfl) (by repeat (first | with_reducible exact Put.z | apply Put.s)) ?_; clear hS; intro W hS; refine Stop.go ?_)); refine Stop.mk ?_)
      have x1 := hS.boxCell (g := g) (cs := [.int .i64 coin, .slice A1 n1 c1]) (by repeat (first | with_reducible exact At.z | assumption | apply At.s)) 1 _ rfl
      go_wp2_with fail
      refine (hS.old (zep lock ⟨fun b hb => hb, hG1.on hS.below⟩ (hS.ltsRds (by repeat (first | with_reducible exact At.z | assumption | apply At.s))))).mono ?_; clear hS; rintro e W ⟨rfl, hS⟩
      clear x1
      have lp := z89 lock
      have l1 := z3t coin j1
      have x0 := hS.boxCell (g := g) (cs := [.int .i64 coin, .slice A1 n1 c1]) (by repeat (first | with_reducible exact At.z | assumption | apply At.s)) 0 _ rfl
      go_wp2_with fail
      refine (hS.old (z7h coin j1 (hG1.on hS.below))).mono ?_; clear hS; rintro e W ⟨rfl, hS⟩
      clear x0
      go_wp2_with fail
      refine (hS.write (l := m) (by repeat (first | with_reducible exact At.z | assumption | apply At.s)) hΔ _ (by simp [ByteArray.size]; omega)).mono ?_
      clear hS
      rintro e W2 ⟨⟨v, rfl⟩, hS⟩
      go_wp2_with fail
      have e2 : ((⟨#[111, 117, 116, 32]⟩ : ByteArray) ++ ⟨(itoa coin).toArray⟩ ++ ⟨#[58]⟩ ++ ⟨(z1s lock).1.toArray⟩ ++ ⟨#[10]⟩).data.toList = z2i ⟨coin, lock⟩ := by simp [ByteArray.data_append, z2i]
      rw [e2] at hS
      clear e2
      go_roundw
      case measure => simp [intOf]; omega
      case rel => exact ⟨k + 1, by omega, by go_num, m ++ z2i ⟨coin, lock⟩, by simp [z2i]; omega, Lib.hid (by rw [z20 HX.out, HM.out]; simp), hS.sub (by repeat (first | with_reducible exact Sub.refl | with_reducible exact Sub.nil | refine Sub.take (by repeat (first | with_reducible exact Del.z | apply Del.s)) ?_ | apply Sub.skip))⟩
     ·obtain rfl : k = n2 := by omega
      go_wp2_with fail
      refine (hS.text (by repeat (first | with_reducible exact At.z | assumption | apply At.s))).mono ?_
      clear hS
      rintro e W3 ⟨rfl, hB⟩
      have hS := hSo.belows hB
      go_wp2_with fail
      have em : m = z0b ⟨h, ins, outs⟩ := by rw [HM.out, HL2.out, List.take_of_length_le (by have := L2.out; omega)]; rfl
      rw [em]
      refine bodyPost_ret (zbw rfl (by first | exact Got.tmp rfl | exact Got.boxN hS rfl (by repeat (first | with_reducible exact At.z | assumption | apply At.s)) (zo rfl) | exact Got.box1 hS rfl (by repeat (first | with_reducible exact At.z | assumption | apply At.s)) (zf rfl)) (by first | exact Got.tmp rfl | exact Got.boxN hS rfl (by repeat (first | with_reducible exact At.z | assumption | apply At.s)) (zo rfl) | exact Got.box1 hS rfl (by repeat (first | with_reducible exact At.z | assumption | apply At.s)) (zf rfl))) rfl ?_
      exact ⟨by rw [HR.out]; rfl, hS.sub (by repeat (first | with_reducible exact Sub.refl | with_reducible exact Sub.nil | refine Sub.take (by repeat (first | with_reducible exact Del.z | apply Del.s)) ?_ | apply Sub.skip))⟩
 ·have q : ((zi t) != 0) = true := by simp [h0]
  have HR : Hid (R = ([], zi t)) := Lib.hid (by rw [HP.out, if_pos h0])
  clear h0 HP
  go_wp2_with fail
  refine bodyPost_ret (zbw rfl (by first | exact Got.tmp rfl | exact Got.boxN hS rfl (by repeat (first | with_reducible exact At.z | assumption | apply At.s)) (zo rfl) | exact Got.box1 hS rfl (by repeat (first | with_reducible exact At.z | assumption | apply At.s)) (zf rfl)) (by first | exact Got.tmp rfl | exact Got.boxN hS rfl (by repeat (first | with_reducible exact At.z | assumption | apply At.s)) (zo rfl) | exact Got.box1 hS rfl (by repeat (first | with_reducible exact At.z | assumption | apply At.s)) (zf rfl))) rfl ?_
  exact ⟨by rw [HR.out]; rfl, hS.sub (by repeat (first | with_reducible exact Sub.refl | with_reducible exact Sub.nil | refine Sub.take (by repeat (first | with_reducible exact Del.z | apply Del.s)) ?_ | apply Sub.skip))⟩
end
section
open Go.RowKit Go.Shelf
open Go.Lib (itoa)
set_option maxRecDepth 100000
noncomputable def z51 : z9 := spD (fun _ : Tx => True) fun t => z0g t
theorem zlr (t : Tx) : z51 (eTx t) = some [.s (z0g t).1, I (z0g t).2] := z01 (f := fun t : Tx => z0g t) t trivial
theorem zvw (t : Tx) : I64 (z0g t).2 := by
 unfold z0g
 split
 ·exact (zvj t).i64
 ·show I64 0
  exact ⟨by decide, by decide⟩
theorem zym : Meets Tryd.prog z51 17 ⟨[.agg 3], [(false, [.scal]), (false, [.scal])], true⟩ :=
 z60 rfl (z3a (fn := Tryd.f17) (by kernel_rfl) (by kernel_rfl) (by kernel_rfl)) fun t _ W F us hF h => by
  obtain ⟨cs, rfl, hr⟩ := zf9 h
  have hS : Sep W F [rep t cs shTx] W := (Sep.start W F hF.1).addRep (S := shTx) (shTx.more (fun b hb => ⟨.inl hb, by simp⟩) (she_tx.of hr))
  refine (zkb t cs hS At.z hF.2).mono ?_
  rintro e w' ⟨rfl, hS'⟩
  exact ⟨_, rfl, hS'.below, zig rfl rfl (.s _ (by have := zh0 t; omega)) (.i _ _ (wrap_i64 (zvw t)))⟩
theorem Yl.base {P : Program} {w0 : World} {F0 : Nat → Prop} {Γ : List Res} {o : Oper} {a : Act} {t : TypeId} {x : Operand} {g j : Nat} {v : Value} (ho : o.op = .load t x) (hx : a.eval x = .pointer (some ⟨g, j, none⟩)) (h1 : OneT P t) (hg : g < w0.heap.size) (hc : w0.cell? ⟨g, j, none⟩ = some v) : Yl P w0 F0 Γ o a v :=
 Yl.load ho hx fun W hS => h1.load ((hS.below.cell (p := ⟨g, j, none⟩) hg).trans hc)
set_option maxHeartbeats 4000000 in
theorem zvx (t : Block) (cs : List Value) {w0 W : World} {F0 : Nat → Prop} {Γ : List Res} (hS : Sep w0 F0 Γ W) (ht : At Γ (rep t cs shBlock)) (hG : Glob w0) :
  Calls Tryd.prog 16 #[.agg cs.toArray] W (RV w0 F0 Γ (.tuple #[.string ⟨(z05 t).1.toArray⟩, .int .i64 (z05 t).2])) := by
 (have hO := hS.open_block ht; clear hS; obtain ⟨A, n, c, rfl, i1, i2, i3, i4, hS⟩ := hO)
 obtain ⟨hl1, hn1, hc1⟩ := hS.len (xs := t.txs) (by repeat (first | with_reducible exact At.z | assumption | apply At.s))
 have HP := Lib.hid (show z05 t = if zq t ≠ 0 then ([], zq t) else (z0e t, 0) from rfl)
 generalize z05 t = R at *
 have L1 := Lib.hid hl1
 clear hl1
 go_enter Tryd.func16, Tryd.ntmps16
 (go_wp2_with (first | (refine Sep.wbox hS (by rfl) rfl rfl ?_; clear hS; intro gt W hS; refine Stop.go ?_) | (refine Sep.walloc hS (by rfl) rfl (by first | exact za9 | exact z42 | exact zaa | exact z78 | exact zab | exact z59 | exact z5a | exact z5b | exact z43 | exact z79 | exact z44 | exact z5c | exact z7a) ?_; clear hS; intro gt W hS; refine Stop.go ?_) | (first | (refine Sep.wload1b hS (by rfl) rfl rfl (zf rfl) (by repeat (first | with_reducible exact At.z | assumption | apply At.s)) rfl ?_) | (refine Sep.wloadNb hS (by rfl) rfl rfl (by repeat (first | with_reducible exact At.z | assumption | apply At.s)) (zo rfl) ?_) | (refine Sep.wload1z hS (by rfl) rfl rfl (zf rfl) (by repeat (first | with_reducible exact At.z | assumption | apply At.s)) rfl ?_) | (refine Sep.wload1c hS (by rfl) rfl rfl (zf rfl) (by repeat (first | with_reducible exact At.z | assumption | apply At.s)) rfl ?_) | (refine Sep.wloadNz hS (by rfl) rfl rfl (by repeat (first | with_reducible exact At.z | assumption | apply At.s)) (zo rfl) ?_) | (refine Sep.walloc hS (by rfl) rfl (by first | exact za9 | exact z42 | exact zaa | exact z78 | exact zab | exact z59 | exact z5a | exact z5b | exact z43 | exact z79 | exact z44 | exact z5c | exact z7a) ?_; clear hS; intro g W hS) | (refine Sep.wbox hS (by rfl) rfl rfl ?_; clear hS; intro g W hS) | (refine Sep.wstoreNb hS (by rfl) rfl rfl rfl (zo rfl) (by simp [z7l, Value.oneCell']) (by repeat (first | with_reducible exact At.z | assumption | apply At.s)) (by rfl) (by repeat (first | with_reducible exact Put.z | apply Put.s)) ?_; clear hS; intro W hS))); refine Stop.mk ?_)
 go_wp2_with ((first | (refine Sep.wload1b hS (by rfl) rfl rfl (zf rfl) (by repeat (first | with_reducible exact At.z | assumption | apply At.s)) rfl ?_) | (refine Sep.wloadNb hS (by rfl) rfl rfl (by repeat (first | with_reducible exact At.z | assumption | apply At.s)) (zo rfl) ?_) | (refine Sep.wload1z hS (by rfl) rfl rfl (zf rfl) (by repeat (first | with_reducible exact At.z | assumption | apply At.s)) rfl ?_) | (refine Sep.wload1c hS (by rfl) rfl rfl (zf rfl) (by repeat (first | with_reducible exact At.z | assumption | apply At.s)) rfl ?_) | (refine Sep.wloadNz hS (by rfl) rfl rfl (by repeat (first | with_reducible exact At.z | assumption | apply At.s)) (zo rfl) ?_) | (refine Sep.walloc hS (by rfl) rfl (by first | exact za9 | exact z42 | exact zaa | exact z78 | exact zab | exact z59 | exact z5a | exact z5b | exact z43 | exact z79 | exact z44 | exact z5c | exact z7a) ?_; clear hS; intro g W hS) | (refine Sep.wbox hS (by rfl) rfl rfl ?_; clear hS; intro g W hS) | (refine Sep.wstoreNb hS (by rfl) rfl rfl rfl (zo rfl) (by simp [z7l, Value.oneCell']) (by repeat (first | with_reducible exact At.z | assumption | apply At.s)) (by rfl) (by repeat (first | with_reducible exact Put.z | apply Put.s)) ?_; clear hS; intro W hS)))
 refine (hS.old (zi8 t [_, _, _, _, _] _ _ (hS.ltsRep (At.s (At.s ht))) (fun b hb => hb))).mono ?_; clear hS; rintro e W ⟨rfl, hS⟩
 rcases Classical.em (zq t = 0) with h0 | h0
 ·rw [h0]
  have HR : Hid (R = (z0e t, 0)) := Lib.hid (by rw [HP.out, if_neg (fun h => h h0)])
  have H0 := Lib.hid h0
  have hlen : n ≤ 4 := by have := (z45 h0).len; have := L1.out; omega
  clear h0 HP
  have b0 := hS.boxCell (g := gt) At.z 0 _ rfl
  have b1 := hS.boxCell (g := gt) At.z 1 _ rfl
  have b2 := hS.boxCell (g := gt) At.z 2 _ rfl
  have b3 := hS.boxCell (g := gt) At.z 3 _ rfl
  have b4 := hS.boxCell (g := gt) At.z 4 _ rfl
  have gl : gt < W.heap.size := (Array.getElem?_eq_some_iff.1 (hS.getBox (g := gt) At.z).2).1
  have hΔ : FactsW W (Lt W.heap.size) [rds t.txs A n c shTx] := .rds (hS.ltsRds (by repeat (first | with_reducible exact At.z | assumption | apply At.s))) .nil
  have hG1 : Glob W := hG.on hS.below
  obtain ⟨bp, bh, bw, bn, txs⟩ := t
  simp only at *
  rename World => Wb
  have hSo := hS
  clear hS
  (go_wp2_with (first | (refine wsb (by rfl) rfl z_sb hΔ ?_; intro W1 hS; refine Stop.go ?_)); refine Stop.mk ?_)
  have l1 := z3t bp i1
  have l2 := z3t bh i2
  have l3 := z3t bw i3
  have l4 := z3t bn i4
  go_wp2_with fail
  (refine Sep.regionT hS [20] (by kernel_rfl) ?_; clear hS; intro W hS)
  (refine z0z 0 rfl rfl (by (first | exact Yl.move rfl | exact Yl.assign rfl | exact Yl.load1b rfl rfl (zf rfl) (by repeat (first | with_reducible exact At.z | assumption | apply At.s)) rfl | exact Yl.loadNb rfl rfl (by repeat (first | with_reducible exact At.z | assumption | apply At.s)) (zo rfl) | exact Yl.load1z rfl rfl (zf rfl) (by repeat (first | with_reducible exact At.z | assumption | apply At.s)) rfl | exact Yl.load1c rfl rfl (zf rfl) (by repeat (first | with_reducible exact At.z | assumption | apply At.s)) rfl | exact Yl.loadNz rfl rfl (by repeat (first | with_reducible exact At.z | assumption | apply At.s)) (zo rfl) | (apply Yl.pure; intro W; go_simp; with_reducible rfl))) (hS.sub (by repeat (first | with_reducible exact Sub.refl | with_reducible exact Sub.nil | refine Sub.take (by repeat (first | with_reducible exact Del.z | apply Del.s)) ?_ | apply Sub.skip))) (by kernel_rfl) (fun _ _ _ h => h) ?_; simp only [Act.put, List.setIfInBounds_toArray, List.set_cons_zero, List.set_cons_succ])
  (refine z0z 1 rfl rfl (Yl.base rfl rfl (zf rfl) gl b0) (hS.sub (by repeat (first | with_reducible exact Sub.refl | with_reducible exact Sub.nil | refine Sub.take (by repeat (first | with_reducible exact Del.z | apply Del.s)) ?_ | apply Sub.skip))) (by kernel_rfl) (fun _ _ _ h => h) ?_; simp only [Act.put, List.setIfInBounds_toArray, List.set_cons_zero, List.set_cons_succ])
  (refine z0z 5 rfl rfl (by (first | exact Yl.move rfl | exact Yl.assign rfl | exact Yl.load1b rfl rfl (zf rfl) (by repeat (first | with_reducible exact At.z | assumption | apply At.s)) rfl | exact Yl.loadNb rfl rfl (by repeat (first | with_reducible exact At.z | assumption | apply At.s)) (zo rfl) | exact Yl.load1z rfl rfl (zf rfl) (by repeat (first | with_reducible exact At.z | assumption | apply At.s)) rfl | exact Yl.load1c rfl rfl (zf rfl) (by repeat (first | with_reducible exact At.z | assumption | apply At.s)) rfl | exact Yl.loadNz rfl rfl (by repeat (first | with_reducible exact At.z | assumption | apply At.s)) (zo rfl) | (apply Yl.pure; intro W; go_simp; with_reducible rfl))) (hS.sub (by repeat (first | with_reducible exact Sub.refl | with_reducible exact Sub.nil | refine Sub.take (by repeat (first | with_reducible exact Del.z | apply Del.s)) ?_ | apply Sub.skip))) (by kernel_rfl) (fun _ _ _ h => h) ?_; simp only [Act.put, List.setIfInBounds_toArray, List.set_cons_zero, List.set_cons_succ])
  (refine z0z 6 rfl rfl (Yl.base rfl rfl (zf rfl) gl b1) (hS.sub (by repeat (first | with_reducible exact Sub.refl | with_reducible exact Sub.nil | refine Sub.take (by repeat (first | with_reducible exact Del.z | apply Del.s)) ?_ | apply Sub.skip))) (by kernel_rfl) (fun _ _ _ h => h) ?_; simp only [Act.put, List.setIfInBounds_toArray, List.set_cons_zero, List.set_cons_succ])
  (refine z0z 10 rfl rfl (by (first | exact Yl.move rfl | exact Yl.assign rfl | exact Yl.load1b rfl rfl (zf rfl) (by repeat (first | with_reducible exact At.z | assumption | apply At.s)) rfl | exact Yl.loadNb rfl rfl (by repeat (first | with_reducible exact At.z | assumption | apply At.s)) (zo rfl) | exact Yl.load1z rfl rfl (zf rfl) (by repeat (first | with_reducible exact At.z | assumption | apply At.s)) rfl | exact Yl.load1c rfl rfl (zf rfl) (by repeat (first | with_reducible exact At.z | assumption | apply At.s)) rfl | exact Yl.loadNz rfl rfl (by repeat (first | with_reducible exact At.z | assumption | apply At.s)) (zo rfl) | (apply Yl.pure; intro W; go_simp; with_reducible rfl))) (hS.sub (by repeat (first | with_reducible exact Sub.refl | with_reducible exact Sub.nil | refine Sub.take (by repeat (first | with_reducible exact Del.z | apply Del.s)) ?_ | apply Sub.skip))) (by kernel_rfl) (fun _ _ _ h => h) ?_; simp only [Act.put, List.setIfInBounds_toArray, List.set_cons_zero, List.set_cons_succ])
  (refine z0z 11 rfl rfl (Yl.base rfl rfl (zf rfl) gl b2) (hS.sub (by repeat (first | with_reducible exact Sub.refl | with_reducible exact Sub.nil | refine Sub.take (by repeat (first | with_reducible exact Del.z | apply Del.s)) ?_ | apply Sub.skip))) (by kernel_rfl) (fun _ _ _ h => h) ?_; simp only [Act.put, List.setIfInBounds_toArray, List.set_cons_zero, List.set_cons_succ])
  (refine z0z 15 rfl rfl (by (first | exact Yl.move rfl | exact Yl.assign rfl | exact Yl.load1b rfl rfl (zf rfl) (by repeat (first | with_reducible exact At.z | assumption | apply At.s)) rfl | exact Yl.loadNb rfl rfl (by repeat (first | with_reducible exact At.z | assumption | apply At.s)) (zo rfl) | exact Yl.load1z rfl rfl (zf rfl) (by repeat (first | with_reducible exact At.z | assumption | apply At.s)) rfl | exact Yl.load1c rfl rfl (zf rfl) (by repeat (first | with_reducible exact At.z | assumption | apply At.s)) rfl | exact Yl.loadNz rfl rfl (by repeat (first | with_reducible exact At.z | assumption | apply At.s)) (zo rfl) | (apply Yl.pure; intro W; go_simp; with_reducible rfl))) (hS.sub (by repeat (first | with_reducible exact Sub.refl | with_reducible exact Sub.nil | refine Sub.take (by repeat (first | with_reducible exact Del.z | apply Del.s)) ?_ | apply Sub.skip))) (by kernel_rfl) (fun _ _ _ h => h) ?_; simp only [Act.put, List.setIfInBounds_toArray, List.set_cons_zero, List.set_cons_succ])
  (refine z0z 16 rfl rfl (Yl.base rfl rfl (zf rfl) gl b3) (hS.sub (by repeat (first | with_reducible exact Sub.refl | with_reducible exact Sub.nil | refine Sub.take (by repeat (first | with_reducible exact Del.z | apply Del.s)) ?_ | apply Sub.skip))) (by kernel_rfl) (fun _ _ _ h => h) ?_; simp only [Act.put, List.setIfInBounds_toArray, List.set_cons_zero, List.set_cons_succ])
  refine zdh 2 (by kernel_rfl) rfl ?_
  go_wp2_with fail
  refine (hS.old (z7h bp i1 (hG1.on hS.below))).mono ?_; clear hS; rintro e W ⟨rfl, hS⟩
  go_wp2_with fail
  (refine ⟨fun _ => hS.sub (by repeat (first | with_reducible exact Sub.refl | with_reducible exact Sub.nil | refine Sub.take (by repeat (first | with_reducible exact Del.z | apply Del.s)) ?_ | apply Sub.skip)), ?_⟩; try simp only [Act.put, List.setIfInBounds_toArray, List.set_cons_zero, List.set_cons_succ])
  (refine z0z 3 rfl rfl (Yl.cat rfl rfl rfl (by simp only [List.length_append, List.length_cons, List.length_nil]; omega)) (hS.sub (by repeat (first | with_reducible exact Sub.refl | with_reducible exact Sub.nil | refine Sub.take (by repeat (first | with_reducible exact Del.z | apply Del.s)) ?_ | apply Sub.skip))) (by kernel_rfl) (fun _ _ _ h => h) ?_; simp only [Act.put, List.setIfInBounds_toArray, List.set_cons_zero, List.set_cons_succ])
  (refine z0z 4 rfl rfl (Yl.cat rfl rfl rfl (by simp only [List.length_append, List.length_cons, List.length_nil]; omega)) (hS.sub (by repeat (first | with_reducible exact Sub.refl | with_reducible exact Sub.nil | refine Sub.take (by repeat (first | with_reducible exact Del.z | apply Del.s)) ?_ | apply Sub.skip))) (by kernel_rfl) (fun _ _ _ h => h) ?_; simp only [Act.put, List.setIfInBounds_toArray, List.set_cons_zero, List.set_cons_succ])
  refine zdh 7 (by kernel_rfl) rfl ?_
  go_wp2_with fail
  refine (hS.old (z7h bh i2 (hG1.on hS.below))).mono ?_; clear hS; rintro e W ⟨rfl, hS⟩
  go_wp2_with fail
  (refine ⟨fun _ => hS.sub (by repeat (first | with_reducible exact Sub.refl | with_reducible exact Sub.nil | refine Sub.take (by repeat (first | with_reducible exact Del.z | apply Del.s)) ?_ | apply Sub.skip)), ?_⟩; try simp only [Act.put, List.setIfInBounds_toArray, List.set_cons_zero, List.set_cons_succ])
  (refine z0z 8 rfl rfl (Yl.cat rfl rfl rfl (by simp only [List.length_append, List.length_cons, List.length_nil]; omega)) (hS.sub (by repeat (first | with_reducible exact Sub.refl | with_reducible exact Sub.nil | refine Sub.take (by repeat (first | with_reducible exact Del.z | apply Del.s)) ?_ | apply Sub.skip))) (by kernel_rfl) (fun _ _ _ h => h) ?_; simp only [Act.put, List.setIfInBounds_toArray, List.set_cons_zero, List.set_cons_succ])
  (refine z0z 9 rfl rfl (Yl.cat rfl rfl rfl (by simp only [List.length_append, List.length_cons, List.length_nil]; omega)) (hS.sub (by repeat (first | with_reducible exact Sub.refl | with_reducible exact Sub.nil | refine Sub.take (by repeat (first | with_reducible exact Del.z | apply Del.s)) ?_ | apply Sub.skip))) (by kernel_rfl) (fun _ _ _ h => h) ?_; simp only [Act.put, List.setIfInBounds_toArray, List.set_cons_zero, List.set_cons_succ])
  refine zdh 12 (by kernel_rfl) rfl ?_
  go_wp2_with fail
  refine (hS.old (z7h bw i3 (hG1.on hS.below))).mono ?_; clear hS; rintro e W ⟨rfl, hS⟩
  go_wp2_with fail
  (refine ⟨fun _ => hS.sub (by repeat (first | with_reducible exact Sub.refl | with_reducible exact Sub.nil | refine Sub.take (by repeat (first | with_reducible exact Del.z | apply Del.s)) ?_ | apply Sub.skip)), ?_⟩; try simp only [Act.put, List.setIfInBounds_toArray, List.set_cons_zero, List.set_cons_succ])
  (refine z0z 13 rfl rfl (Yl.cat rfl rfl rfl (by simp only [List.length_append, List.length_cons, List.length_nil]; omega)) (hS.sub (by repeat (first | with_reducible exact Sub.refl | with_reducible exact Sub.nil | refine Sub.take (by repeat (first | with_reducible exact Del.z | apply Del.s)) ?_ | apply Sub.skip))) (by kernel_rfl) (fun _ _ _ h => h) ?_; simp only [Act.put, List.setIfInBounds_toArray, List.set_cons_zero, List.set_cons_succ])
  (refine z0z 14 rfl rfl (Yl.cat rfl rfl rfl (by simp only [List.length_append, List.length_cons, List.length_nil]; omega)) (hS.sub (by repeat (first | with_reducible exact Sub.refl | with_reducible exact Sub.nil | refine Sub.take (by repeat (first | with_reducible exact Del.z | apply Del.s)) ?_ | apply Sub.skip))) (by kernel_rfl) (fun _ _ _ h => h) ?_; simp only [Act.put, List.setIfInBounds_toArray, List.set_cons_zero, List.set_cons_succ])
  refine zdh 17 (by kernel_rfl) rfl ?_
  go_wp2_with fail
  refine (hS.old (z7h bn i4 (hG1.on hS.below))).mono ?_; clear hS; rintro e W ⟨rfl, hS⟩
  go_wp2_with fail
  (refine ⟨fun _ => hS.sub (by repeat (first | with_reducible exact Sub.refl | with_reducible exact Sub.nil | refine Sub.take (by repeat (first | with_reducible exact Del.z | apply Del.s)) ?_ | apply Sub.skip)), ?_⟩; try simp only [Act.put, List.setIfInBounds_toArray, List.set_cons_zero, List.set_cons_succ])
  (refine z0z 18 rfl rfl (Yl.cat rfl rfl rfl (by simp only [List.length_append, List.length_cons, List.length_nil]; omega)) (hS.sub (by repeat (first | with_reducible exact Sub.refl | with_reducible exact Sub.nil | refine Sub.take (by repeat (first | with_reducible exact Del.z | apply Del.s)) ?_ | apply Sub.skip))) (by kernel_rfl) (fun _ _ _ h => h) ?_; simp only [Act.put, List.setIfInBounds_toArray, List.set_cons_zero, List.set_cons_succ])
  (refine z0z 19 rfl rfl (Yl.cat rfl rfl rfl (by simp only [List.length_append, List.length_cons, List.length_nil]; omega)) (hS.sub (by repeat (first | with_reducible exact Sub.refl | with_reducible exact Sub.nil | refine Sub.take (by repeat (first | with_reducible exact Del.z | apply Del.s)) ?_ | apply Sub.skip))) (by kernel_rfl) (fun _ _ _ h => h) ?_; simp only [Act.put, List.setIfInBounds_toArray, List.set_cons_zero, List.set_cons_succ])
  refine zdh 20 (by kernel_rfl) rfl ?_
  go_wp2_with fail
  refine (hS.write (l := []) (by repeat (first | with_reducible exact At.z | assumption | apply At.s)) hΔ _ (by simp [ByteArray.size]; omega)).mono ?_
  clear hS
  rintro e W2 ⟨⟨v, rfl⟩, hS⟩
  go_wp2_with fail
  (refine ⟨fun h => zua (by kernel_rfl) h, ?_⟩; try simp only [Act.put, List.setIfInBounds_toArray, List.set_cons_zero, List.set_cons_succ])
  refine zeo (by kernel_rfl) ?_
  have e0 : [] ++ 98 :: 108 :: 111 :: 99 :: 107 :: 32 :: (itoa bp ++ 32 :: (itoa bh ++ 32 :: (itoa bw ++ 32 :: (itoa bn ++ [10])))) = z3u ⟨bp, bh, bw, bn, txs⟩ := by simp [z3u]
  have lh : (z3u ⟨bp, bh, bw, bn, txs⟩).length ≤ 100 := by simp [z3u]; omega
  have d4 := (hS.below.cell (p := ⟨gt, 4, none⟩) gl).trans b4
  go_wp2_with fail
  clear d4
  rw [e0] at hS
  clear e0
  go_loopw [7, 8, 9, 39] (fun _ _ _ i wr => ∃ k : Nat, k ≤ n ∧ i = .int .i64 k ∧ ∃ l : List UInt8, l.length ≤ 100 + 2500 * k ∧ Hid (l = z3u ⟨bp, bh, bw, bn, txs⟩ ++ (txs.take k).flatMap fun t => (z0g t).1) ∧ Sep Wb (Lt Wb.heap.size) (sb Wb.heap.size l :: rds txs A n c shTx :: []) wr) (fun _ _ _ i _ => n - (intOf i).toNat)
  case atStart => exact ⟨0, by omega, rfl, z3u ⟨bp, bh, bw, bn, txs⟩, by omega, Lib.hid (by simp), hS.sub (by repeat (first | with_reducible exact Sub.refl | with_reducible exact Sub.nil | refine Sub.take (by repeat (first | with_reducible exact Del.z | apply Del.s)) ?_ | apply Sub.skip))⟩
  case round =>
   clear hS
   obtain ⟨k, hk, rfl, l, hl, HL, hS⟩ := hrel
   rcases Classical.em (k < n) with hlt | hlt
   ·(have hO := hS.elemTxR (xs := txs) (by repeat (first | with_reducible exact At.z | assumption | apply At.s)) hlt; clear hS; obtain ⟨b, off, x, A1, n1, c1, A2, n2, c2, rfl, hx, hS⟩ := hO)
    have HX := Lib.hid hx
    have k1 : (0 : Int) ≤ (k : Int) := by omega
    have k2 : (k : Int) < (n : Int) := by omega
    clear hx
    (go_wp2_with (first | (refine Sep.wloadNz hS (by rfl) rfl rfl (by repeat (first | with_reducible exact At.z | assumption | apply At.s)) (zo rfl) ?_) | (refine Sep.walloc hS (by rfl) rfl (by first | exact za9 | exact z42 | exact zaa | exact z78 | exact zab | exact z59 | exact z5a | exact z5b | exact z43 | exact z79 | exact z44 | exact z5c | exact z7a) ?_; clear hS; intro g W hS) | (refine Sep.wstoreNb hS (by rfl) rfl rfl rfl (zo rfl) (by simp [z7l, Value.oneCell']) (by repeat (first | with_reducible exact At.z | assumption | apply At.s)) (by rfl) (by repeat (first | with_reducible exact Put.z | apply Put.s)) ?_; clear hS; intro W hS; refine Stop.go ?_)); refine Stop.mk ?_)
    go_wp2_with ((first | (refine Sep.wload1b hS (by rfl) rfl rfl (zf rfl) (by repeat (first | with_reducible exact At.z | assumption | apply At.s)) rfl ?_) | (refine Sep.wloadNb hS (by rfl) rfl rfl (by repeat (first | with_reducible exact At.z | assumption | apply At.s)) (zo rfl) ?_) | (refine Sep.wload1z hS (by rfl) rfl rfl (zf rfl) (by repeat (first | with_reducible exact At.z | assumption | apply At.s)) rfl ?_) | (refine Sep.wload1c hS (by rfl) rfl rfl (zf rfl) (by repeat (first | with_reducible exact At.z | assumption | apply At.s)) rfl ?_) | (refine Sep.wloadNz hS (by rfl) rfl rfl (by repeat (first | with_reducible exact At.z | assumption | apply At.s)) (zo rfl) ?_) | (refine Sep.walloc hS (by rfl) rfl (by first | exact za9 | exact z42 | exact zaa | exact z78 | exact zab | exact z59 | exact z5a | exact z5b | exact z43 | exact z79 | exact z44 | exact z5c | exact z7a) ?_; clear hS; intro g W hS) | (refine Sep.wbox hS (by rfl) rfl rfl ?_; clear hS; intro g W hS) | (refine Sep.wstoreNb hS (by rfl) rfl rfl rfl (zo rfl) (by simp [z7l, Value.oneCell']) (by repeat (first | with_reducible exact At.z | assumption | apply At.s)) (by rfl) (by repeat (first | with_reducible exact Put.z | apply Put.s)) ?_; clear hS; intro W hS)))
    refine (zkb x [_, _, _] hS (by repeat (first | with_reducible exact At.z | assumption | apply At.s)) hG1).mono ?_; clear hS; rintro e W ⟨rfl, hS⟩
    have lp := zh0 x
    go_wp2_with fail
    refine (hS.write (l := l) (by repeat (first | with_reducible exact At.z | assumption | apply At.s)) hΔ _ (by simp [ByteArray.size]; omega)).mono ?_
    clear hS
    rintro e W2 ⟨⟨v, rfl⟩, hS⟩
    go_wp2_with fail
    go_roundw
    case measure => simp [intOf]; omega
    case rel => exact ⟨k + 1, by omega, by go_num, l ++ (z0g x).1, by simp; omega, Lib.hid (by rw [z20 HX.out, HL.out]; simp), hS.sub (by repeat (first | with_reducible exact Sub.refl | with_reducible exact Sub.nil | refine Sub.take (by repeat (first | with_reducible exact Del.z | apply Del.s)) ?_ | apply Sub.skip))⟩
   ·obtain rfl : k = n := by omega
    go_wp2_with fail
    refine (hS.text (by repeat (first | with_reducible exact At.z | assumption | apply At.s))).mono ?_
    clear hS
    rintro e W3 ⟨rfl, hB⟩
    have hS := hSo.belows hB
    go_wp2_with fail
    have em : l = z0e ⟨bp, bh, bw, bn, txs⟩ := by
     rw [HL.out, List.take_of_length_le (by have := L1.out; omega)]
     unfold z0e
     congr 1
     have key : ∀ t ∈ txs, (z0g t).1 = z0b t := fun t ht => by rw [zvu ((z45 H0.out).each t ht)]
     simp only [List.flatMap_def]
     rw [List.map_congr_left key]
    rw [em]
    refine bodyPost_ret (zbw rfl (by first | exact Got.tmp rfl | exact Got.boxN hS rfl (by repeat (first | with_reducible exact At.z | assumption | apply At.s)) (zo rfl) | exact Got.box1 hS rfl (by repeat (first | with_reducible exact At.z | assumption | apply At.s)) (zf rfl)) (by first | exact Got.tmp rfl | exact Got.boxN hS rfl (by repeat (first | with_reducible exact At.z | assumption | apply At.s)) (zo rfl) | exact Got.box1 hS rfl (by repeat (first | with_reducible exact At.z | assumption | apply At.s)) (zf rfl))) rfl ?_
    exact ⟨by rw [HR.out]; rfl, hS.sub (by repeat (first | with_reducible exact Sub.refl | with_reducible exact Sub.nil | refine Sub.take (by repeat (first | with_reducible exact Del.z | apply Del.s)) ?_ | apply Sub.skip))⟩
 ·have q : ((zq t) != 0) = true := by simp [h0]
  have HR : Hid (R = ([], zq t)) := Lib.hid (by rw [HP.out, if_pos h0])
  clear h0 HP
  go_wp2_with fail
  refine bodyPost_ret (zbw rfl (by first | exact Got.tmp rfl | exact Got.boxN hS rfl (by repeat (first | with_reducible exact At.z | assumption | apply At.s)) (zo rfl) | exact Got.box1 hS rfl (by repeat (first | with_reducible exact At.z | assumption | apply At.s)) (zf rfl)) (by first | exact Got.tmp rfl | exact Got.boxN hS rfl (by repeat (first | with_reducible exact At.z | assumption | apply At.s)) (zo rfl) | exact Got.box1 hS rfl (by repeat (first | with_reducible exact At.z | assumption | apply At.s)) (zf rfl))) rfl ?_
  exact ⟨by rw [HR.out]; rfl, hS.sub (by repeat (first | with_reducible exact Sub.refl | with_reducible exact Sub.nil | refine Sub.take (by repeat (first | with_reducible exact Del.z | apply Del.s)) ?_ | apply Sub.skip))⟩
noncomputable def z1y : z9 := spD (fun _ : Block => True) fun t => z05 t
theorem zij (t : Block) : z1y (z4i t) = some [.s (z05 t).1, I (z05 t).2] := z01 (f := fun t : Block => z05 t) t trivial
theorem zsz (t : Block) : I64 (z05 t).2 := by
 unfold z05
 split
 ·exact (z05n t).i64
 ·show I64 0
  exact ⟨by decide, by decide⟩
theorem zh1 : Meets Tryd.prog z1y 16 ⟨[.agg 5], [(false, [.scal]), (false, [.scal])], true⟩ :=
 z60 rfl (z3a (fn := Tryd.f16) (by kernel_rfl) (by kernel_rfl) (by kernel_rfl)) fun t _ W F us hF h => by
  obtain ⟨cs, rfl, hr⟩ := zf9 h
  have hS : Sep W F [rep t cs shBlock] W := (Sep.start W F hF.1).addRep (S := shBlock) (shBlock.more (fun b hb => ⟨.inl hb, by simp⟩) (she_block.of hr))
  refine (zvx t cs hS At.z hF.2).mono ?_
  rintro e w' ⟨rfl, hS'⟩
  exact ⟨_, rfl, hS'.below, zig rfl rfl (.s _ (by have := zsy t; omega)) (.i _ _ (wrap_i64 (zsz t)))⟩
end
section
open Go.Lib (itoa atoiAll)
open Go.RowKit
theorem zby {n : Int} (h0 : -9223372036854775808 ≤ n) (h1 : n ≤ 9223372036854775807) : z3f (itoa n) = some n := by
 unfold z3f
 rw [zk4 h0 h1]
 exact if_pos rfl
def zay : List (List UInt8) → Option (List Int)
 | [] => some []
 | w :: r => match z3f w with
  | none => none
  | some n => (zay r).map fun l => n :: l
theorem zdj : ∀ {l : List Int}, (∀ n ∈ l, -9223372036854775808 ≤ n ∧ n ≤ 9223372036854775807) → zay (l.map itoa) = some l
 | [], _ => rfl
 | n :: l, h => by
  have h1 := h n (by simp)
  rw [List.map_cons, zay, zby h1.1 h1.2]
  simp only
  rw [zdj fun m hm => h m (List.mem_cons_of_mem _ hm)]
  rfl
theorem zqa {c : UInt8} : ∀ {p x q l : List UInt8}, (∀ b ∈ p, b ≠ c) → (∀ b ∈ x, b ≠ c) → p ++ c :: q = x ++ c :: l → p = x ∧ q = l
 | [], [], q, l, _, _, h => by simpa using h
 | [], y :: x, q, l, _, hx, h => by
  simp only [List.nil_append, List.cons_append, List.cons.injEq] at h
  exact absurd h.1.symm (hx y (by simp))
 | a :: p, [], q, l, hp, _, h => by
  simp only [List.nil_append, List.cons_append, List.cons.injEq] at h
  exact absurd h.1 (hp a (by simp))
 | a :: p, y :: x, q, l, hp, hx, h => by
  simp only [List.cons_append, List.cons.injEq] at h
  obtain ⟨rfl, h⟩ := h
  obtain ⟨rfl, rfl⟩ := zqa (fun b hb => hp b (List.mem_cons_of_mem _ hb)) (fun b hb => hx b (List.mem_cons_of_mem _ hb)) h
  exact ⟨rfl, rfl⟩
theorem zkc {c : UInt8} {p q : List UInt8} (hp : ∀ b ∈ p, b ≠ c) : Go.Lib.index (p ++ c :: q) [c] = (p.length : Int) := by
 rcases zk6 c (p ++ c :: q) with ⟨-, h⟩ | ⟨x, l, e, hx, hi⟩
 ·exact absurd rfl (h c (by simp))
 ·obtain ⟨rfl, -⟩ := zqa hp hx e
  exact hi
theorem zfg {c : UInt8} {p q : List UInt8} (hp : ∀ b ∈ p, b ≠ c) : Go.Lib.cut (p ++ c :: q) [c] = (p, q, true) := by
 unfold Go.Lib.cut
 rw [zkc hp, if_pos (by omega), Int.toNat_natCast]
 simp
theorem zc8 {c : UInt8} {p q : List UInt8} (hp : ∀ b ∈ p, b ≠ c) : Go.Lib.contains (p ++ c :: q) [c] = true := by
 unfold Go.Lib.contains
 rw [zkc hp]
 simp
def tIn : List UInt8 := [105, 110]
def z9b : List UInt8 := [111, 117, 116]
def tTx : List UInt8 := [116, 120, 32]
def zik (o : List Out) (i : List In) (x : List UInt8) (n : List Int) : Option (List Out × List In) :=
 if (zdc (Go.Lib.cut x [58]).2.1).2 ≠ 0 then none else if Go.Lib.contains x [58] = false then none else
 if (z1g 32 (Go.Lib.cut x [58]).1).headD [] = tIn ∧ n.length = 2 ∧ o.length = 0 then some (o, i ++ [⟨⟨n.getD 0 0, n.getD 1 0⟩, (zdc (Go.Lib.cut x [58]).2.1).1⟩]) else
 if (z1g 32 (Go.Lib.cut x [58]).1).headD [] = z9b ∧ n.length = 1 then some (o ++ [⟨n.getD 0 0, (zdc (Go.Lib.cut x [58]).2.1).1⟩], i) else none
def z6y (o : List Out) (i : List In) (x : List UInt8) : Option (List Out × List In) := match zay ((z1g 32 (Go.Lib.cut x [58]).1).drop 1) with
 | none => none
 | some n => zik o i x n
def zTx : Tx := ⟨0, [], []⟩
def z46 (n : Int) (o : List Out) (i : List In) : List (List UInt8) → Tx × Int
 | [] => if zi ⟨n, i, o⟩ ≠ 0 then (zTx, zi ⟨n, i, o⟩) else (⟨n, i, o⟩, 0)
 | x :: r => match z6y o i x with
  | none => (zTx, 1)
  | some p => z46 n p.1 p.2 r
def zdk (s : List UInt8) : Tx × Int := if 4000 < (s.length : Int) then (zTx, 2) else
 if Go.Lib.hasSuffix s [10] = false then (zTx, 1) else
 if Go.Lib.hasPrefix ((z1g 10 (Go.Lib.trimSuffix s [10])).headD []) tTx = false then (zTx, 1) else
 match z3f (Go.Lib.trimPrefix ((z1g 10 (Go.Lib.trimSuffix s [10])).headD []) tTx) with
 | none => (zTx, 1)
 | some n => z46 n [] [] ((z1g 10 (Go.Lib.trimSuffix s [10])).drop 1)
def inL (x : In) : List UInt8 := z04 32 [tIn, itoa x.p.tx, itoa x.p.at_] ++ 58 :: z2t x.key
def z5m (x : Out) : List UInt8 := z04 32 [z9b, itoa x.coin] ++ 58 :: z2t x.lock
theorem zkd {x : In} (h : z8 x.key = 0) : z32 x = inL x ++ [10] := by
 unfold z32 inL z1s
 rw [if_neg (fun k => k h)]
 simp [z04, tIn]
theorem zh2 {x : Out} (h : z8 x.lock = 0) : z2i x = z5m x ++ [10] := by
 unfold z2i z5m z1s
 rw [if_neg (fun k => k h)]
 simp [z04, z9b]
theorem z2f (n : Int) : ∀ b ∈ itoa n, b ≠ 32 ∧ b ≠ 58 ∧ b ≠ 10 := fun b hb => by
 have h : WordByte b := (zd9 n b hb).elim .inl fun h => .inr (.inl h)
 exact h.ne
theorem zdl (l : List Op) : ∀ b ∈ z2t l, b ≠ 10 := by
 have key : ∀ (xs : List (List UInt8)), (∀ x ∈ xs, ∀ b ∈ x, b ≠ 10) → ∀ b ∈ z04 32 xs, b ≠ 10 := by
  intro xs
  induction xs with
  | nil => intro _ b hb; simp [z04] at hb
  | cons x r ih =>
   intro h b hb
   cases r with
   | nil => exact h x (by simp) b (by simpa [z04] using hb)
   | cons y r =>
    simp only [z04, List.mem_append, List.mem_cons] at hb
    rcases hb with hb | rfl | hb
    ·exact h x (by simp) b hb
    ·decide
    ·exact ih (fun z hz => h z (List.mem_cons_of_mem _ hz)) b hb
 refine key _ fun x hx b hb => ?_
 obtain ⟨o, -, rfl⟩ := List.mem_map.1 hx
 exact (zen o b hb).ne.2.2
theorem zdm (x : In) : ∀ b ∈ z04 32 [tIn, itoa x.p.tx, itoa x.p.at_], b ≠ 58 ∧ b ≠ 10 := by
 intro b hb
 simp only [z04, tIn, List.mem_append, List.mem_cons, List.not_mem_nil, or_false] at hb
 rcases hb with (rfl | rfl) | rfl | hb | rfl | hb
 ·decide
 ·decide
 ·decide
 ·exact (z2f _ b hb).2
 ·decide
 ·exact (z2f _ b hb).2
theorem zbz (x : Out) : ∀ b ∈ z04 32 [z9b, itoa x.coin], b ≠ 58 ∧ b ≠ 10 := by
 intro b hb
 simp only [z04, z9b, List.mem_append, List.mem_cons, List.not_mem_nil, or_false] at hb
 rcases hb with (rfl | rfl | rfl) | rfl | hb
 ·decide
 ·decide
 ·decide
 ·decide
 ·exact (z2f _ b hb).2
theorem zqb (x : In) : ∀ b ∈ inL x, b ≠ 10 := by
 intro b hb
 simp only [inL, List.mem_append, List.mem_cons] at hb
 rcases hb with hb | rfl | hb
 ·exact (zdm x b hb).2
 ·decide
 ·exact zdl _ b hb
theorem zke (x : Out) : ∀ b ∈ z5m x, b ≠ 10 := by
 intro b hb
 simp only [z5m, List.mem_append, List.mem_cons] at hb
 rcases hb with hb | rfl | hb
 ·exact (zbz x b hb).2
 ·decide
 ·exact zdl _ b hb
theorem z03t {x : In} (h : z4c x = 0) (i : List In) : z6y [] i (inL x) = some ([], i ++ [x]) := by
 obtain ⟨h1, h2, h3, h4, h5⟩ := zbx h
 have hc : Go.Lib.cut (inL x) [58] = (z04 32 [tIn, itoa x.p.tx, itoa x.p.at_], z2t x.key, true) := zfg fun b hb => (zdm x b hb).1
 have hw : z1g 32 (z04 32 [tIn, itoa x.p.tx, itoa x.p.at_]) = [tIn, itoa x.p.tx, itoa x.p.at_] := z5z 32 _ (by simp) fun y hy b hb => by
  simp only [List.mem_cons, List.not_mem_nil, or_false] at hy
  rcases hy with rfl | rfl | rfl
  ·simp only [tIn, List.mem_cons, List.not_mem_nil, or_false] at hb
   rcases hb with rfl | rfl <;> decide
  ·exact (z2f _ b hb).1
  ·exact (z2f _ b hb).1
 have hn : zay [itoa x.p.tx, itoa x.p.at_] = some [x.p.tx, x.p.at_] := zdj (l := [x.p.tx, x.p.at_]) fun n hn => by
  simp only [List.mem_cons, List.not_mem_nil, or_false] at hn
  rcases hn with rfl | rfl <;> omega
 have hcon : Go.Lib.contains (inL x) [58] = true := zc8 fun b hb => (zdm x b hb).1
 unfold z6y zik
 rw [hc]
 simp only [hw, List.drop_succ_cons, List.drop_zero, hn, zk9 h5, hcon]
 rw [if_neg (by simp), if_neg (by simp), if_pos ⟨rfl, rfl, rfl⟩]
 rfl
theorem z017 {x : Out} (h1 : 1 ≤ x.coin) (h2 : x.coin ≤ 1000000000) (h5 : z8 x.lock = 0) (o : List Out) (i : List In) : z6y o i (z5m x) = some (o ++ [x], i) := by
 have hc : Go.Lib.cut (z5m x) [58] = (z04 32 [z9b, itoa x.coin], z2t x.lock, true) := zfg fun b hb => (zbz x b hb).1
 have hw : z1g 32 (z04 32 [z9b, itoa x.coin]) = [z9b, itoa x.coin] := z5z 32 _ (by simp) fun y hy b hb => by
  simp only [List.mem_cons, List.not_mem_nil, or_false] at hy
  rcases hy with rfl | rfl
  ·simp only [z9b, List.mem_cons, List.not_mem_nil, or_false] at hb
   rcases hb with rfl | rfl | rfl <;> decide
  ·exact (z2f _ b hb).1
 have hn : zay [itoa x.coin] = some [x.coin] := zdj (l := [x.coin]) fun n hn => by
  simp only [List.mem_cons, List.not_mem_nil, or_false] at hn
  subst hn; omega
 have hcon : Go.Lib.contains (z5m x) [58] = true := zc8 fun b hb => (zbz x b hb).1
 unfold z6y zik
 rw [hc]
 simp only [hw, List.drop_succ_cons, List.drop_zero, hn, zk9 h5, hcon]
 rw [if_neg (by simp), if_neg (by simp), if_neg (by simp [tIn, z9b]), if_pos ⟨rfl, rfl⟩]
 rfl
theorem zdn {n : Int} {o : List Out} {i : List In} {x : List UInt8} {p : List Out × List In} (h : z6y o i x = some p) (r : List (List UInt8)) : z46 n o i (x :: r) = z46 n p.1 p.2 r := by
 rw [z46, h]
theorem zyn (n : Int) : ∀ (l : List In) (i : List In) (r : List (List UInt8)), (∀ x ∈ l, z4c x = 0) → z46 n [] i (l.map inL ++ r) = z46 n [] (i ++ l) r
 | [], i, r, _ => by simp
 | x :: l, i, r, h => by
  rw [List.map_cons, List.cons_append, zdn (z03t (h x (by simp)) i)]
  simp only
  rw [zyn n l (i ++ [x]) r fun y hy => h y (List.mem_cons_of_mem _ hy)]
  simp
theorem zub (n : Int) : ∀ (l : List Out) (o : List Out) (i : List In), (∀ x ∈ l, 1 ≤ x.coin ∧ x.coin ≤ 1000000000 ∧ z8 x.lock = 0) → z46 n o i (l.map z5m) = z46 n (o ++ l) i []
 | [], o, i, _ => by simp
 | x :: l, o, i, h => by
  obtain ⟨h1, h2, h3⟩ := h x (by simp)
  rw [List.map_cons, zdn (z017 h1 h2 h3 o i)]
  simp only
  rw [zub n l (o ++ [x]) i fun y hy => h y (List.mem_cons_of_mem _ hy)]
  simp
theorem zuc (c : UInt8) : ∀ (x : List UInt8) (xs : List (List UInt8)), z04 c (x :: xs) ++ [c] = x ++ [c] ++ xs.flatMap fun y => y ++ [c]
 | x, [] => by simp [z04]
 | x, y :: r => by
  have := zuc c y r
  simp only [z04, List.append_assoc, List.cons_append] at this ⊢
  rw [this]
  simp
def z3h (t : Tx) : List (List UInt8) := (tTx ++ itoa t.height) :: (t.ins.map inL ++ t.outs.map z5m)
theorem zqc {t : Tx} (h : zi t = 0) : z0b t = z04 10 (z3h t) ++ [10] := by
 have ok := z2e h
 unfold z3h
 rw [zuc]
 have e1 : t.ins.flatMap z32 = (t.ins.map inL).flatMap fun y => y ++ [10] := by
  rw [List.flatMap_map]
  simp only [List.flatMap_def]
  rw [List.map_congr_left fun x hx => zkd (zbx (z9a ok.insOk x hx)).2.2.2.2]
 have e2 : t.outs.flatMap z2i = (t.outs.map z5m).flatMap fun y => y ++ [10] := by
  rw [List.flatMap_map]
  simp only [List.flatMap_def]
  rw [List.map_congr_left fun x hx => zh2 (ok.good x hx).2.2]
 unfold z0b z2v
 rw [e1, e2]
 simp [tTx]
theorem zes (r : List UInt8) (c : UInt8) : Go.Lib.hasSuffix (r ++ [c]) [c] = true := by
 unfold Go.Lib.hasSuffix
 rw [List.isSuffixOf_iff_suffix]
 exact List.suffix_append r [c]
theorem zyo (r : List UInt8) (c : UInt8) : Go.Lib.trimSuffix (r ++ [c]) [c] = r := by
 unfold Go.Lib.trimSuffix
 rw [zes, if_pos rfl]
 simp
theorem zvy {t : Tx} (h : zi t = 0) : zdk (z0b t) = (t, 0) := by
 have ok := z2e h
 have hh := zc7 ok.head
 have hl := zdi h
 unfold zdk
 rw [if_neg (by omega)]
 rw [zqc h, zes, zyo]
 have hc : z1g 10 (z04 10 (z3h t)) = z3h t := z5z 10 _ (by simp [z3h]) fun x hx b hb => by
  simp only [z3h, List.mem_cons, List.mem_append, List.mem_map] at hx
  rcases hx with rfl | ⟨y, -, rfl⟩ | ⟨y, -, rfl⟩
  ·simp only [tTx, List.mem_append, List.mem_cons, List.not_mem_nil, or_false] at hb
   rcases hb with (rfl | rfl | rfl) | hb
   ·decide
   ·decide
   ·decide
   ·exact (z2f _ b hb).2.2
  ·exact zqb y b hb
  ·exact zke y b hb
 rw [hc]
 have hp : Go.Lib.hasPrefix ((z3h t).headD []) tTx = true := by
  unfold Go.Lib.hasPrefix z3h
  rw [List.isPrefixOf_iff_prefix]
  exact List.prefix_append _ _
 have ht : Go.Lib.trimPrefix ((z3h t).headD []) tTx = itoa t.height := by
  unfold Go.Lib.trimPrefix
  rw [hp, if_pos rfl]
  simp [z3h, tTx]
 rw [hp, ht, zby (by omega) (by omega), if_neg (by simp), if_neg (by simp)]
 simp only
 have hd : (z3h t).drop 1 = t.ins.map inL ++ t.outs.map z5m := rfl
 rw [hd, zyn _ _ _ _ fun x hx => z9a ok.insOk x hx, zub _ _ _ _ ok.good, z46]
 obtain ⟨th, ti, tou⟩ := t
 simp only [List.nil_append]
 rw [if_neg (fun k => k h)]
end
section
open Go.RowKit Go.Shelf
open Go.Lib (itoa atoiAll atoiSat)
set_option maxRecDepth 100000
section
variable {P : Program} {W : World} {F : Nat → Prop}
end
def z3v (s : List UInt8) : Int × GoErr := match atoiAll s with
 | .ok v => (v, ⟨false⟩)
 | .range => (atoiSat s, ⟨true⟩)
 | _ => (0, ⟨true⟩)
end
section
open Go.RowKit Go.Shelf
open Go.Lib (itoa atoiAll atoiSat)
set_option maxRecDepth 100000
end
section
open Go.RowKit
open Go.Lib (itoa atoiAll atoiSat)
set_option maxRecDepth 100000
set_option maxHeartbeats 4000000
section
variable {sp : Nat → z9} {N : Nat} {E E' : Env} {ks : List (List Dt → Option (List Dt))} {res : Option (List Dt)}
end
theorem zvz {w : List UInt8} (h : (z3v w).2.is = true) : z3f w = none := by
 unfold z3v at h
 unfold z3f
 cases ha : atoiAll w with
 | ok v => rw [ha] at h; cases h
 | _ => rfl
theorem zw0 {w : List UInt8} (h : (z3v w).2.is = false) : z3f w = if itoa (z3v w).1 = w then some (z3v w).1 else none := by
 unfold z3v at h ⊢
 unfold z3f
 cases ha : atoiAll w with
 | ok v => rfl
 | _ => rw [ha] at h; cases h
def z05w (acc : List Op) (ws : List (List UInt8)) : List Op × Int := match zaw ws with
 | none => ([], 1)
 | some l => if z8 (acc ++ l) ≠ 0 then ([], z8 (acc ++ l)) else (acc ++ l, 0)
attribute [local irreducible] den denX z0s z1h
attribute [local irreducible] z0h spD z1c itoa z8 z30 z04 z3g z05w z3v z1g zdb zda zgt
end
section
open Go.RowKit
noncomputable def z3p : z9 := spD (fun _ : List Int × List Int => True) fun x => decide (x.1 = x.2)
theorem zdo (a b : List Int) : z3p [.l 1 (a.map z12), .l 1 (b.map z12)] = some [.b (decide (a = b))] := z01 (f := fun x : List Int × List Int => decide (x.1 = x.2)) (a, b) trivial
theorem zqd : Meets Tryd.prog z3p 8 ⟨[.one, .one], [(false, [.scal])], true⟩ :=
 zvn rfl (z3a (fn := Tryd.f8) (by kernel_rfl) (by kernel_rfl) (by kernel_rfl)) fun ⟨a, b⟩ _ W F us hF h => by
  obtain ⟨v, us, rfl, h1, h⟩ := z1r h
  obtain ⟨v2, us, rfl, h2, h⟩ := z1r h
  obtain rfl := z3d h
  obtain ⟨A, n, c, rfl, k1⟩ := z4w z27 h1
  obtain ⟨A2, n2, c2, rfl, k2⟩ := z4w z27 h2
  refine (zxl a b A A2 n c n2 c2 W F F k1 k2).mono ?_
  rintro r W' ⟨rfl, m, rfl⟩
  exact ⟨rfl, z9z (Below.refl _ _) m⟩
end
section
open Go.RowKit
open Go.Lib (itoa)
set_option maxRecDepth 100000
set_option maxHeartbeats 4000000
def zfh (w : List UInt8) : Int × Bool := ((z3v w).1, !(z3v w).2.is && decide (itoa (z3v w).1 = w))
theorem z03u (w : List UInt8) : z3f w = if (zfh w).2 = true then some (zfh w).1 else none := by
 unfold zfh
 cases hi : (z3v w).2.is with
 | true => rw [zvz hi]; rfl
 | false =>
  rw [zw0 hi]
  by_cases h : itoa (z3v w).1 = w
  ·rw [if_pos h, if_pos (by simpa using h)]
  ·rw [if_neg h, if_neg (by simpa using h)]
end
section
open Go.RowKit
set_option maxRecDepth 100000
set_option maxHeartbeats 4000000
attribute [local irreducible] z0h spD z1c
def zw1 : T :=
 .lets [.call 10 [.v 9] 0] [] (.lets [] [.inr 6 (.v 4) (.v 3)] (.lets [.set (.v 4) (.v 3) 3 [.v 12]] [] (.lets [.bin .add (.v 3) (.c (.i .i64 1))] [] (.again 0 [.v 14, .v 13]))))
def zw2 : T :=
 .lets [] [.inr 6 (.v 4) (.v 3)] (.lets [.idx (.v 4) (.v 3) 0, .idx (.v 4) (.v 3) 1, .idx (.v 4) (.v 3) 2, .idx (.v 4) (.v 3) 3, .idx (.v 4) (.v 3) 4, .idx (.v 4) (.v 3) 5] []
 zw1)
def zfi : T :=
 .lets [.call 9 [.v 0] 0] [] (.lets [.len (.v 1)] [] (.loop [.c (.i .i64 0), .v 1] (.lets [.bin .lss (.v 3) (.v 2)] [] (.ite (.v 5) zw2 (.ret [.v 4])))))
def zyp : T :=
 .lets [.idx (.v 3) (.v 6) 0, .idx (.v 3) (.v 6) 1, .idx (.v 3) (.v 6) 2, .idx (.v 3) (.v 6) 3, .idx (.v 3) (.v 6) 4, .idx (.v 3) (.v 6) 5] [] (.lets [.bin .add (.v 5) (.v 10)] []
 (.lets [.bin .add (.v 6) (.c (.i .i64 1))] [] (.again 0 [.v 14, .v 15])))
def zyq : T :=
 .lets [.idx (.v 2) (.v 10) 0, .idx (.v 2) (.v 10) 1] [] (.lets [.bin .sub (.v 9) (.v 12)] [] (.lets [.bin .add (.v 10) (.c (.i .i64 1))] [] (.again 1 [.v 14, .v 15])))
def zyr : T :=
 .lets [.len (.v 2)] [] (.loop [.v 5, .c (.i .i64 0)] (.lets [.bin .lss (.v 10) (.v 8)] [] (.ite (.v 11) (.lets [] [.inr 2 (.v 2) (.v 10)] zyq) (.ret [.v 9]))))
def zil : T :=
 .lets [.len (.v 3)] [] (.loop [.c (.i .i64 0), .c (.i .i64 0)] (.lets [.bin .lss (.v 6) (.v 4)] [] (.ite (.v 7) (.lets [] [.inr 6 (.v 3) (.v 6)] zyp) zyr)))
def z6l (l : List Coin) : Prop := l.length ≤ 1000000 ∧ ∀ c ∈ l, c.o.lock.length ≤ 8796093022208
theorem CoinsOK.short {l : List Coin} (h : CoinsOK l) : z6l l := ⟨by have := h.len; omega, fun c hc => by have := z6h (z2y (h.good c hc)).2.2.2.2.2.2.2.2; omega⟩
noncomputable def z9s : z9 := spD z6l fun l => l
theorem zqe (l : List Coin) (h : z6l l) : z9s [.l 6 (l.map zw)] = some [.l 6 (l.map zw)] := z01 (p := z6l) (f := fun l : List Coin => l) l h
theorem z018 : Meets Tryd.prog z9s 28 ⟨[.one], [(false, [.fresh 63 6])], false⟩ := by
 refine zy (sp := (z0v [(9, z9p), (10, z8m)])) (sigs := z11) (cut := []) (hints := [⟨3, [.t 9, .o 6]⟩]) (fn := Tryd.f28) (t := zfi) (by kernel_rfl) (by kernel_rfl) (by kernel_rfl) ?_ ?_
 ·exact (z0m (L := [(9, z9p), (10, z8m)]) ⟨zl rfl z00z, zl rfl zy3, trivial⟩)
 ·rintro ds rs - h
  obtain ⟨l, ⟨hl, hk⟩, rfl, rfl⟩ := z02 h
  clear h
  refine ⟨⟨l.length + 1, ?_⟩, zry (by simp [zk, CF.isScal])⟩
  show den _ _ zfi [.l 6 (l.map zw)] [] = ret l
  unfold zfi
  repeat' (first | refine dq1 ?_ | refine dqc ?_ | refine dqm ?_ | refine dqK rfl (zni _ hl) ?_ | exact z4 rfl rfl | ((first | refine tR ?_ ?_ | refine tB ?_ ?_ | refine tC ?_ ?_ | refine tN ?_ ?_ | refine tF ?_ ?_ | refine tG ?_ ?_ | refine tP ?_ ?_ | refine tQ ?_ ?_ | refine tA ?_ ?_ | refine tO ?_ ?_ | refine tU ?_ ?_ | refine tV ?_ ?_) <;> intro h) | refine dqT ?_ | refine dqF ?_ | refine z7 rfl ?_ | refine z6 rfl ?_ | refine zg ?_ | refine zh ?_)
  (refine z0q (fun (_ : Unit) k => [I k, .l 6 (l.map zw)]) (fun _ _ _ => l) (fun _ _ => True) () l ?_ ?_ ?_ ?_ ?_; rfl; exact trivial; first | exact Nat.lt_succ_self _ | omega)
  ·rintro _ k c r hx hd hkl - again hag
   repeat' (first | refine dq1 ?_ | refine dqc ?_ | refine dqm ?_ | refine dqK rfl (zbm _ (hk c (List.mem_of_getElem? hx))) ?_ | exact z4 rfl rfl | ((first | refine tR ?_ ?_ | refine tB ?_ ?_ | refine tC ?_ ?_ | refine tN ?_ ?_ | refine tF ?_ ?_ | refine tG ?_ ?_ | refine tP ?_ ?_ | refine tQ ?_ ?_ | refine tA ?_ ?_ | refine tO ?_ ?_ | refine tU ?_ ?_ | refine tV ?_ ?_) <;> intro h) | refine dqT ?_ | refine dqF ?_ | refine z7 rfl ?_ | refine z6 rfl ?_ | refine zg ?_ | refine zh ?_)
   refine z5 (zvh rfl rfl rfl (by omega) (by simp) (by exact hx) rfl) ?_
   repeat' (first | refine dq1 ?_ | refine dqc ?_ | refine dqm ?_ | exact z4 rfl rfl | exact ze rfl rfl (hag () trivial) | exact ze rfl rfl (hag _ trivial) | exact ze rfl rfl (hag _ (by omega)) | exact ze rfl rfl (hag _ (by assumption)) | ((first | refine tR ?_ ?_ | refine tB ?_ ?_ | refine tC ?_ ?_ | refine tN ?_ ?_ | refine tF ?_ ?_ | refine tG ?_ ?_ | refine tP ?_ ?_ | refine tQ ?_ ?_ | refine tA ?_ ?_ | refine tO ?_ ?_ | refine tU ?_ ?_ | refine tV ?_ ?_) <;> intro h) | refine dqT ?_ | refine dqF ?_ | refine z7 rfl ?_ | refine z6 rfl ?_ | refine zg ?_ | refine zh ?_)
  ·intro _ _ again
   repeat' (first | refine dq1 ?_ | refine dqc ?_ | refine dqm ?_ | exact z4 rfl rfl | ((first | refine tR ?_ ?_ | refine tB ?_ ?_ | refine tC ?_ ?_ | refine tN ?_ ?_ | refine tF ?_ ?_ | refine tG ?_ ?_ | refine tP ?_ ?_ | refine tQ ?_ ?_ | refine tA ?_ ?_ | refine tO ?_ ?_ | refine tU ?_ ?_ | refine tV ?_ ?_) <;> intro h) | refine dqT ?_ | refine dqF ?_ | refine z7 rfl ?_ | refine z6 rfl ?_ | refine zg ?_ | refine zh ?_)
theorem zt0 (l : List Coin) : ∀ s : Int, l.foldl (fun s c => s + c.o.coin) s = s + zd l := by
 induction l with
 | nil => intro s; simp [zd]
 | cons c l ih => intro s; rw [List.foldl_cons, ih, zd]; omega
def z1z (t : Tx) (l : List Coin) : Int := t.outs.foldl (fun s o => s - o.coin) (l.foldl (fun s c => s + c.o.coin) 0)
def zaz (x : Tx × List Coin) : Prop := x.2.length ≤ 1000000 ∧ (∀ c ∈ x.2, 0 ≤ c.o.coin ∧ c.o.coin ≤ 1000000000) ∧ x.1.outs.length ≤ 1000000 ∧ ∀ o ∈ x.1.outs, 0 ≤ o.coin ∧ o.coin ≤ 1000000000
noncomputable def z5n : z9 := spD zaz fun x => z1z x.1 x.2
theorem zac (t : Tx) (l : List Coin) (h : zaz (t, l)) : z5n [I t.height, .l 3 (t.ins.map eIn), .l 2 (t.outs.map z2a), .l 6 (l.map zw)] = some [I (z1z t l)] := z01 (p := zaz) (f := fun x : Tx × List Coin => z1z x.1 x.2) (t, l) h
theorem zud : Meets Tryd.prog z5n 42 ⟨[.agg 3, .one], [(false, [.scal])], true⟩ := by
 refine zy (sp := (z0v [])) (sigs := z11) (cut := []) (hints := [⟨3, [.t 5, .t 12]⟩, ⟨8, [.t 5, .t 25]⟩]) (fn := Tryd.f42) (t := zil) (by kernel_rfl) (by kernel_rfl) (by kernel_rfl) ?_ ?_
 ·exact (z0m (L := []) trivial)
 ·rintro ds rs - h
  obtain ⟨⟨t, l⟩, ⟨h1, h2, h3, h4⟩, rfl, rfl⟩ := z02 h
  clear h
  simp only at h1 h2 h3 h4
  refine ⟨⟨l.length + t.outs.length + 1, ?_⟩, z0c rfl⟩
  show den _ _ zil [I t.height, .l 3 (t.ins.map eIn), .l 2 (t.outs.map z2a), .l 6 (l.map zw)] [] = ret (z1z t l)
  unfold zil z1z
  repeat' (first | refine dq1 ?_ | refine dqc ?_ | refine dqm ?_ | exact z4 rfl rfl | ((first | refine tR ?_ ?_ | refine tB ?_ ?_ | refine tC ?_ ?_ | refine tN ?_ ?_ | refine tF ?_ ?_ | refine tG ?_ ?_ | refine tP ?_ ?_ | refine tQ ?_ ?_ | refine tA ?_ ?_ | refine tO ?_ ?_ | refine tU ?_ ?_ | refine tV ?_ ?_) <;> intro h) | refine dqT ?_ | refine dqF ?_ | refine z7 rfl ?_ | refine z6 rfl ?_ | refine zg ?_ | refine zh ?_)
  (refine z0q (fun (s : Int) k => [I s, I k]) (fun (s : Int) _ (r : List Coin) => t.outs.foldl (fun s o => s - o.coin) (r.foldl (fun s c => s + c.o.coin) s)) (fun s k => 0 ≤ s ∧ s ≤ k * 1000000000) (0 : Int) l ?_ ?_ ?_ ?_ ?_; rfl; exact ⟨by omega, by omega⟩; first | exact Nat.lt_succ_self _ | omega)
  ·rintro s k c r hx hd hkl ⟨h0, h5⟩ again hag
   have hc := h2 c (List.mem_of_getElem? hx)
   repeat' (first | refine dq1 ?_ | refine dqc ?_ | refine dqm ?_ | exact z4 rfl rfl | ((first | refine tR ?_ ?_ | refine tB ?_ ?_ | refine tC ?_ ?_ | refine tN ?_ ?_ | refine tF ?_ ?_ | refine tG ?_ ?_ | refine tP ?_ ?_ | refine tQ ?_ ?_ | refine tA ?_ ?_ | refine tO ?_ ?_ | refine tU ?_ ?_ | refine tV ?_ ?_) <;> intro h) | refine dqT ?_ | refine dqF ?_ | refine z7 rfl ?_ | refine z6 rfl ?_ | refine zg ?_ | refine zh ?_)
   exact ze rfl rfl (hag (s + c.o.coin) ⟨by omega, by omega⟩)
  ·rintro s ⟨h0, h5⟩ again
   repeat' (first | refine dq1 ?_ | refine dqc ?_ | refine dqm ?_ | exact z4 rfl rfl | ((first | refine tR ?_ ?_ | refine tB ?_ ?_ | refine tC ?_ ?_ | refine tN ?_ ?_ | refine tF ?_ ?_ | refine tG ?_ ?_ | refine tP ?_ ?_ | refine tQ ?_ ?_ | refine tA ?_ ?_ | refine tO ?_ ?_ | refine tU ?_ ?_ | refine tV ?_ ?_) <;> intro h) | refine dqT ?_ | refine dqF ?_ | refine z7 rfl ?_ | refine z6 rfl ?_ | refine zg ?_ | refine zh ?_)
   (refine z0q (fun (s : Int) k => [I s, I k]) (fun (s : Int) _ (r : List Out) => r.foldl (fun s o => s - o.coin) s) (fun s k => - (k * 1000000000) ≤ s ∧ s ≤ l.length * 1000000000) s t.outs ?_ ?_ ?_ ?_ ?_; rfl; exact ⟨by omega, by omega⟩; first | exact Nat.lt_succ_self _ | omega)
   ·rintro s k c r hx hd hkl ⟨h0, h5⟩ again' hag
    have hc := h4 c (List.mem_of_getElem? hx)
    repeat' (first | refine dq1 ?_ | refine dqc ?_ | refine dqm ?_ | exact z4 rfl rfl | ((first | refine tR ?_ ?_ | refine tB ?_ ?_ | refine tC ?_ ?_ | refine tN ?_ ?_ | refine tF ?_ ?_ | refine tG ?_ ?_ | refine tP ?_ ?_ | refine tQ ?_ ?_ | refine tA ?_ ?_ | refine tO ?_ ?_ | refine tU ?_ ?_ | refine tV ?_ ?_) <;> intro h) | refine dqT ?_ | refine dqF ?_ | refine z7 rfl ?_ | refine z6 rfl ?_ | refine zg ?_ | refine zh ?_)
    exact ze rfl rfl (hag (s - c.coin) ⟨by omega, by omega⟩)
   ·rintro s ⟨h0, h5⟩ again'
    repeat' (first | refine dq1 ?_ | refine dqc ?_ | refine dqm ?_ | exact z4 rfl rfl | ((first | refine tR ?_ ?_ | refine tB ?_ ?_ | refine tC ?_ ?_ | refine tN ?_ ?_ | refine tF ?_ ?_ | refine tG ?_ ?_ | refine tP ?_ ?_ | refine tQ ?_ ?_ | refine tA ?_ ?_ | refine tO ?_ ?_ | refine tU ?_ ?_ | refine tV ?_ ?_) <;> intro h) | refine dqT ?_ | refine dqF ?_ | refine z7 rfl ?_ | refine z6 rfl ?_ | refine zg ?_ | refine zh ?_)
def z5j : Coin := ⟨⟨0, 0⟩, ⟨0, []⟩, 0, false⟩
def zqf (l : List Coin) (p : Point) : Coin × Int := if zr l ≠ 0 then (z5j, zr l) else if z1p l p = true then ((l[zj l p]?).getD z5j, 0) else (z5j, 7)
end
section
open Go.RowKit
set_option maxRecDepth 100000
set_option maxHeartbeats 4000000
theorem zet (l m : List Op) : z5l [.l 2 (l.map eOp), .l 2 (m.map eOp)] = some [.b (decide (l = m))] := z01 (f := fun x : List Op × List Op => decide (x.1 = x.2)) (l, m) trivial
theorem zue : Meets Tryd.prog z5l 31 ⟨[.one, .one], [(false, [.scal])], true⟩ :=
 za2 (e := fun x : { x : List Op × List Op // True } => Enc.e x.1) (d := fun x => .b (decide (x.1.1 = x.1.2))) rfl (z3a (fn := Tryd.f31) (by kernel_rfl) (by kernel_rfl) (by kernel_rfl)) (fun _ => rfl) fun x W F us hF h => by
  obtain ⟨v, us, rfl, h1, h⟩ := z1r h
  obtain ⟨v2, us, rfl, h2, h⟩ := z1r h
  obtain rfl := z3d h
  obtain ⟨A, n, c, rfl, k1⟩ := z4w z7d h1
  obtain ⟨A2, n2, c2, rfl, k2⟩ := z4w z7d h2
  refine (z00i x.1.1 x.1.2 A A2 n c n2 c2 W F F k1 k2).mono ?_
  rintro r W' ⟨rfl, m, rfl⟩
  exact ⟨_, rfl, z9z (Below.refl _ _) m, .b _⟩
attribute [local irreducible] z0h spD z1c
theorem zw3 {α : Type} {sz : Nat} {l : List α} {f : α → List Dt} (h : Dt.ok (.l sz (l.map f))) : l.length ≤ 9223372036854775807 := by
 cases h with
 | l _ _ h1 _ _ => simpa using h1
theorem z05x (x y : Out) : (decide (x.coin = y.coin) && decide (x.lock = y.lock)) = decide (x = y) := by
 cases x; cases y
 simp only [Out.mk.injEq, Bool.decide_and]
noncomputable def z4r : z9 := spD (fun _ : Out × Out => True) fun x => decide (x.1 = x.2)
theorem zh3 (x y : Out) : z4r [I x.coin, .l 2 (x.lock.map eOp), I y.coin, .l 2 (y.lock.map eOp)] = some [.b (decide (x = y))] := z01 (f := fun x : Out × Out => decide (x.1 = x.2)) (x, y) trivial
def zad : T :=
 .lets [.bin .eql (.v 0) (.v 2)] [] (.ite (.v 4) (.lets [.call 19 [.v 1, .v 3] 0] [] (.ret [.v 5])) (.ret [.c (.b false)]))
theorem zt1 : Meets Tryd.prog z4r 33 ⟨[.agg 2, .agg 2], [(false, [.scal])], true⟩ := by
 refine zy (sp := (z0v [(19, z5l)])) (sigs := z11) (cut := []) (hints := []) (fn := Tryd.f33) (t := zad) (by kernel_rfl) (by kernel_rfl) (by kernel_rfl) ?_ ?_
 ·exact (z0m (L := [(19, z5l)]) ⟨zl rfl zue, trivial⟩)
 ·rintro ds rs - h
  obtain ⟨⟨x, y⟩, -, rfl, rfl⟩ := z02 h
  clear h
  refine ⟨⟨1, ?_⟩, z0c rfl⟩
  show den _ _ zad [I x.coin, .l 2 (x.lock.map eOp), I y.coin, .l 2 (y.lock.map eOp)] [] = ret (decide (x = y))
  rw [← z05x]
  unfold zad
  repeat' (first | refine dq1 ?_ | refine dqc ?_ | refine dqm ?_ | refine dqK rfl (zet _ _) ?_ | exact z4 rfl rfl | ((first | refine tR ?_ ?_ | refine tB ?_ ?_ | refine tC ?_ ?_ | refine tN ?_ ?_ | refine tF ?_ ?_ | refine tG ?_ ?_ | refine tP ?_ ?_ | refine tQ ?_ ?_ | refine tA ?_ ?_ | refine tO ?_ ?_ | refine tU ?_ ?_ | refine tV ?_ ?_) <;> intro h) | refine dqT ?_ | refine dqF ?_ | refine z7 rfl ?_ | refine z6 rfl ?_ | refine zg ?_ | refine zh ?_)
theorem z9t {α : Type} [DecidableEq α] (l m : List α) : decide (l = m) = if (l.length : Int) ≠ m.length then false else decide (l = m) := by
 by_cases h : (l.length : Int) ≠ m.length
 ·rw [if_pos h, decide_eq_false]
  rintro rfl
  exact h rfl
 ·rw [if_neg h]
end
section
open Go.RowKit
open Go.Lib (itoa)
set_option maxRecDepth 100000
set_option maxHeartbeats 4000000
theorem z06o (x y : In) : (if x.p = y.p then decide (x.key = y.key) else false) = decide (x = y) := by
 cases x; cases y
 by_cases h : (‹Point› : Point) = ‹Point› <;> simp only [In.mk.injEq, Bool.decide_and] <;> split <;> simp [*]
theorem z06p (t u : Tx) : (if t.height = u.height then if decide (t.ins = u.ins) = true then decide (t.outs = u.outs) else false else false) = decide (t = u) := by
 cases t; cases u
 simp only [Tx.mk.injEq, Bool.decide_and]
 split <;> rename_i h
 ·split <;> rename_i h2
  ·simp [h, h2]
  ·simp [h, h2]
 ·simp [h]
noncomputable def z8b : z9 := spD (fun _ : In × In => True) fun x => decide (x.1 = x.2)
theorem zls (x y : In) : z8b (eIn x ++ eIn y) = some [.b (decide (x = y))] := z01 (f := fun x : In × In => decide (x.1 = x.2)) (x, y) trivial
noncomputable def zb0 : z9 := spD (fun _ : List In × List In => True) fun x => decide (x.1 = x.2)
theorem zw4 (l m : List In) : zb0 [.l 3 (l.map eIn), .l 3 (m.map eIn)] = some [.b (decide (l = m))] := z01 (f := fun x : List In × List In => decide (x.1 = x.2)) (l, m) trivial
noncomputable def zc0 : z9 := spD (fun _ : List Out × List Out => True) fun x => decide (x.1 = x.2)
theorem zt2 (l m : List Out) : zc0 [.l 2 (l.map z2a), .l 2 (m.map z2a)] = some [.b (decide (l = m))] := z01 (f := fun x : List Out × List Out => decide (x.1 = x.2)) (l, m) trivial
noncomputable def z62 : z9 := spD (fun _ : Tx × Tx => True) fun x => decide (x.1 = x.2)
theorem zqg (x y : Tx) : z62 (eTx x ++ eTx y) = some [.b (decide (x = y))] := z01 (f := fun x : Tx × Tx => decide (x.1 = x.2)) (x, y) trivial
attribute [local irreducible] z0h spD z1c z8 zi
attribute [local irreducible] den denX z0s z1h
def zdp : T :=
 .lets [.eqs false [(.v 0, .v 3), (.v 1, .v 4)]] [] (.ite (.v 6) (.lets [.call 19 [.v 2, .v 5] 0] [] (.ret [.v 7])) (.ret [.c (.b false)]))
def z019 : T :=
 .lets [.call 38 [.v 9, .v 10, .v 11, .v 12, .v 13, .v 14] 0] [] (.lets [.not (.v 15)] [] (.ite (.v 16) (.ret [.c (.b false)]) (.lets [.bin .add (.v 7) (.c (.i .i64 1))] [] (.again 0
 [.v 6, .v 17]))))
def z01a : T :=
 .lets [.idx (.v 0) (.v 7) 0, .idx (.v 0) (.v 7) 1, .idx (.v 0) (.v 7) 2] [] (.lets [] [.inr 3 (.v 1) (.v 7)] (.lets [.idx (.v 1) (.v 7) 0, .idx (.v 1) (.v 7) 1, .idx (.v 1) (.v 7)
 2] [] z019))
def z01b : T :=
 .lets [.len (.v 0)] [] (.loop [.c (.b false), .c (.i .i64 0)] (.lets [.bin .lss (.v 7) (.v 5)] [] (.ite (.v 8) (.lets [] [.inr 3 (.v 0) (.v 7)] z01a) (.ret [.c (.b true)]))))
def zqh : T :=
 .lets [.len (.v 0)] [] (.lets [.len (.v 1)] [] (.lets [.bin .neq (.v 2) (.v 3)] [] (.ite (.v 4) (.ret [.c (.b false)]) z01b)))
def zys : T :=
 .lets [.call 20 [.v 9, .v 10, .v 11, .v 12] 0] [] (.lets [.not (.v 13)] [] (.ite (.v 14) (.ret [.c (.b false)]) (.lets [.bin .add (.v 7) (.c (.i .i64 1))] [] (.again 0 [.v 6, .v
 15]))))
def zyt : T :=
 .lets [] [.inr 2 (.v 0) (.v 7)] (.lets [.idx (.v 0) (.v 7) 0, .idx (.v 0) (.v 7) 1] [] (.lets [] [.inr 2 (.v 1) (.v 7)] (.lets [.idx (.v 1) (.v 7) 0, .idx (.v 1) (.v 7) 1] []
 zys)))
def zyu : T :=
 .ite (.v 4) (.ret [.c (.b false)]) (.lets [.len (.v 0)] [] (.loop [.c (.b false), .c (.i .i64 0)] (.lets [.bin .lss (.v 7) (.v 5)] [] (.ite (.v 8) zyt (.ret [.c (.b
 true)])))))
def zim : T :=
 .lets [.len (.v 0)] [] (.lets [.len (.v 1)] [] (.lets [.bin .neq (.v 2) (.v 3)] [] zyu))
def zfj : T :=
 .lets [.bin .eql (.v 0) (.v 3)] [] (.ite (.v 6) (.lets [.call 39 [.v 1, .v 4] 0] [] (.ite (.v 7) (.lets [.call 40 [.v 2, .v 5] 0] [] (.ret [.v 8])) (.ret [.c (.b false)]))) (.ret
 [.c (.b false)]))
attribute [local irreducible] z5l
theorem zyv : Meets Tryd.prog z8b 30 ⟨[.agg 3, .agg 3], [(false, [.scal])], true⟩ := by
 refine zy (sp := (z0v [(19, z5l)])) (sigs := z11) (cut := []) (hints := []) (fn := Tryd.f30) (t := zdp) (by kernel_rfl) (by kernel_rfl) (by kernel_rfl) ?_ ?_
 ·exact (z0m (L := [(19, z5l)]) ⟨zl rfl zue, trivial⟩)
 ·rintro ds rs - h
  obtain ⟨⟨x, y⟩, -, rfl, rfl⟩ := z02 h
  clear h
  refine ⟨⟨1, ?_⟩, z0c rfl⟩
  show den _ _ zdp [I x.p.tx, I x.p.at_, .l 2 (x.key.map eOp), I y.p.tx, I y.p.at_, .l 2 (y.key.map eOp)] [] = ret (decide (x = y))
  rw [← z06o]
  unfold zdp
  repeat' (first | refine dq1 ?_ | refine dqc ?_ | refine dqm ?_ | refine dqK rfl (zet _ _) ?_ | exact z4 rfl rfl | ((first | refine tR ?_ ?_ | refine tB ?_ ?_ | refine tC ?_ ?_ | refine tN ?_ ?_ | refine tF ?_ ?_ | refine tG ?_ ?_ | refine tP ?_ ?_ | refine tQ ?_ ?_ | refine tA ?_ ?_ | refine tO ?_ ?_ | refine tU ?_ ?_ | refine tV ?_ ?_) <;> intro h) | refine dqT ?_ | refine dqF ?_ | refine z7 rfl ?_ | refine z6 rfl ?_ | refine zg ?_ | refine zh ?_)
theorem z05y : Meets Tryd.prog zb0 29 ⟨[.one, .one, .clos 30 []], [(false, [.scal])], true⟩ := by
 refine zy (sp := (z0v [(38, z8b)])) (sigs := z11) (cut := []) (hints := [⟨4, [.t 6, .t 17]⟩]) (fn := Tryd.f29) (t := zqh) (by kernel_rfl) (by kernel_rfl) (by kernel_rfl) ?_ ?_
 ·exact (z0m (L := [(38, z8b)]) ⟨zl rfl zyv, trivial⟩)
 ·rintro ds rs hok h
  obtain ⟨⟨l, m⟩, -, rfl, rfl⟩ := z02 h
  clear h
  have hll := zw3 (hok (.l 3 (l.map eIn)) (List.mem_cons_self ..))
  refine ⟨⟨l.length + 1, ?_⟩, z0c rfl⟩
  show den _ _ zqh [.l 3 (l.map eIn), .l 3 (m.map eIn)] [] = ret (decide (l = m))
  rw [z9t]
  unfold zqh
  repeat' (first | refine dq1 ?_ | refine dqc ?_ | refine dqm ?_ | exact z4 rfl rfl | ((first | refine tR ?_ ?_ | refine tB ?_ ?_ | refine tC ?_ ?_ | refine tN ?_ ?_ | refine tF ?_ ?_ | refine tG ?_ ?_ | refine tP ?_ ?_ | refine tQ ?_ ?_ | refine tA ?_ ?_ | refine tO ?_ ?_ | refine tU ?_ ?_ | refine tV ?_ ?_) <;> intro h) | refine dqT ?_ | refine dqF ?_ | refine z7 rfl ?_ | refine z6 rfl ?_ | refine zg ?_ | refine zh ?_)
  have hlm : l.length = m.length := by omega
  (refine z0q (fun (_ : Unit) k => [.b false, I k]) (fun (_ : Unit) k (r : List In) => decide (r = m.drop k)) (fun _ _ => True) () l ?_ ?_ ?_ ?_ ?_; rfl; exact trivial; first | exact Nat.lt_succ_self _ | omega)
  ·rintro _ k x r hx hd hk - again hag
   have hy : m[k]? = some (m[k]'(by omega)) := List.getElem?_eq_getElem (by omega)
   have hdy : m.drop k = m[k]'(by omega) :: m.drop (k + 1) := List.drop_eq_getElem_cons (by omega)
   rw [hdy]
   generalize m[k]'(by omega) = y at *
   have e : decide (x :: r = y :: m.drop (k + 1)) = if decide (x = y) = true then decide (r = m.drop (k + 1)) else false := by
    by_cases h : x = y
    ·simp [h]
    ·simp [h]
   rw [e]
   have hkm : k < m.length := by omega
   repeat' (first | refine dq1 ?_ | refine dqc ?_ | refine dqm ?_ | refine dqK rfl (zls x y) ?_ | exact z4 rfl rfl | exact ze rfl rfl (hag () trivial) | exact ze rfl rfl (hag _ trivial) | exact ze rfl rfl (hag _ (by omega)) | exact ze rfl rfl (hag _ (by assumption)) | ((first | refine tR ?_ ?_ | refine tB ?_ ?_ | refine tC ?_ ?_ | refine tN ?_ ?_ | refine tF ?_ ?_ | refine tG ?_ ?_ | refine tP ?_ ?_ | refine tQ ?_ ?_ | refine tA ?_ ?_ | refine tO ?_ ?_ | refine tU ?_ ?_ | refine tV ?_ ?_) <;> intro h) | refine dqT ?_ | refine dqF ?_ | refine z7 rfl ?_ | refine z6 rfl ?_ | refine zg ?_ | refine zh ?_)
  ·rintro _ - again
   rw [hlm, List.drop_length]
   repeat' (first | refine dq1 ?_ | refine dqc ?_ | refine dqm ?_ | exact z4 rfl rfl | ((first | refine tR ?_ ?_ | refine tB ?_ ?_ | refine tC ?_ ?_ | refine tN ?_ ?_ | refine tF ?_ ?_ | refine tG ?_ ?_ | refine tP ?_ ?_ | refine tQ ?_ ?_ | refine tA ?_ ?_ | refine tO ?_ ?_ | refine tU ?_ ?_ | refine tV ?_ ?_) <;> intro h) | refine dqT ?_ | refine dqF ?_ | refine z7 rfl ?_ | refine z6 rfl ?_ | refine zg ?_ | refine zh ?_)
attribute [local irreducible] z4r
theorem z03v : Meets Tryd.prog zc0 32 ⟨[.one, .one, .clos 33 []], [(false, [.scal])], true⟩ := by
 refine zy (sp := (z0v [(20, z4r)])) (sigs := z11) (cut := []) (hints := [⟨4, [.t 6, .t 17]⟩]) (fn := Tryd.f32) (t := zim) (by kernel_rfl) (by kernel_rfl) (by kernel_rfl) ?_ ?_
 ·exact (z0m (L := [(20, z4r)]) ⟨zl rfl zt1, trivial⟩)
 ·rintro ds rs hok h
  obtain ⟨⟨l, m⟩, -, rfl, rfl⟩ := z02 h
  clear h
  have hll := zw3 (hok (.l 2 (l.map z2a)) (List.mem_cons_self ..))
  refine ⟨⟨l.length + 1, ?_⟩, z0c rfl⟩
  show den _ _ zim [.l 2 (l.map z2a), .l 2 (m.map z2a)] [] = ret (decide (l = m))
  rw [z9t]
  unfold zim
  repeat' (first | refine dq1 ?_ | refine dqc ?_ | refine dqm ?_ | exact z4 rfl rfl | ((first | refine tR ?_ ?_ | refine tB ?_ ?_ | refine tC ?_ ?_ | refine tN ?_ ?_ | refine tF ?_ ?_ | refine tG ?_ ?_ | refine tP ?_ ?_ | refine tQ ?_ ?_ | refine tA ?_ ?_ | refine tO ?_ ?_ | refine tU ?_ ?_ | refine tV ?_ ?_) <;> intro h) | refine dqT ?_ | refine dqF ?_ | refine z7 rfl ?_ | refine z6 rfl ?_ | refine zg ?_ | refine zh ?_)
  have hlm : l.length = m.length := by omega
  (refine z0q (fun (_ : Unit) k => [.b false, I k]) (fun (_ : Unit) k (r : List Out) => decide (r = m.drop k)) (fun _ _ => True) () l ?_ ?_ ?_ ?_ ?_; rfl; exact trivial; first | exact Nat.lt_succ_self _ | omega)
  ·rintro _ k x r hx hd hk - again hag
   have hy : m[k]? = some (m[k]'(by omega)) := List.getElem?_eq_getElem (by omega)
   have hdy : m.drop k = m[k]'(by omega) :: m.drop (k + 1) := List.drop_eq_getElem_cons (by omega)
   rw [hdy]
   generalize m[k]'(by omega) = y at *
   have e : decide (x :: r = y :: m.drop (k + 1)) = if decide (x = y) = true then decide (r = m.drop (k + 1)) else false := by
    by_cases h : x = y
    ·simp [h]
    ·simp [h]
   rw [e]
   have hkm : k < m.length := by omega
   repeat' (first | refine dq1 ?_ | refine dqc ?_ | refine dqm ?_ | refine dqK rfl (zh3 x y) ?_ | exact z4 rfl rfl | exact ze rfl rfl (hag () trivial) | exact ze rfl rfl (hag _ trivial) | exact ze rfl rfl (hag _ (by omega)) | exact ze rfl rfl (hag _ (by assumption)) | ((first | refine tR ?_ ?_ | refine tB ?_ ?_ | refine tC ?_ ?_ | refine tN ?_ ?_ | refine tF ?_ ?_ | refine tG ?_ ?_ | refine tP ?_ ?_ | refine tQ ?_ ?_ | refine tA ?_ ?_ | refine tO ?_ ?_ | refine tU ?_ ?_ | refine tV ?_ ?_) <;> intro h) | refine dqT ?_ | refine dqF ?_ | refine z7 rfl ?_ | refine z6 rfl ?_ | refine zg ?_ | refine zh ?_)
  ·rintro _ - again
   rw [hlm, List.drop_length]
   repeat' (first | refine dq1 ?_ | refine dqc ?_ | refine dqm ?_ | exact z4 rfl rfl | ((first | refine tR ?_ ?_ | refine tB ?_ ?_ | refine tC ?_ ?_ | refine tN ?_ ?_ | refine tF ?_ ?_ | refine tG ?_ ?_ | refine tP ?_ ?_ | refine tQ ?_ ?_ | refine tA ?_ ?_ | refine tO ?_ ?_ | refine tU ?_ ?_ | refine tV ?_ ?_) <;> intro h) | refine dqT ?_ | refine dqF ?_ | refine z7 rfl ?_ | refine z6 rfl ?_ | refine zg ?_ | refine zh ?_)
attribute [local irreducible] zb0
theorem z01c : Meets Tryd.prog z62 15 ⟨[.agg 3, .agg 3], [(false, [.scal])], true⟩ := by
 refine zy (sp := (z0v [(39, zb0), (40, zc0)])) (sigs := z11) (cut := []) (hints := []) (fn := Tryd.f15) (t := zfj) (by kernel_rfl) (by kernel_rfl) (by kernel_rfl) ?_ ?_
 ·exact (z0m (L := [(39, zb0), (40, zc0)]) ⟨zl rfl z05y, zl rfl z03v, trivial⟩)
 ·rintro ds rs - h
  obtain ⟨⟨x, y⟩, -, rfl, rfl⟩ := z02 h
  clear h
  refine ⟨⟨1, ?_⟩, z0c rfl⟩
  show den _ _ zfj [I x.height, .l 3 (x.ins.map eIn), .l 2 (x.outs.map z2a), I y.height, .l 3 (y.ins.map eIn), .l 2 (y.outs.map z2a)] [] = ret (decide (x = y))
  rw [← z06p]
  unfold zfj
  repeat' (first | refine dq1 ?_ | refine dqc ?_ | refine dqm ?_ | refine dqK rfl (zw4 _ _) ?_ | refine dqK rfl (zt2 _ _) ?_ | exact z4 rfl rfl | ((first | refine tR ?_ ?_ | refine tB ?_ ?_ | refine tC ?_ ?_ | refine tN ?_ ?_ | refine tF ?_ ?_ | refine tG ?_ ?_ | refine tP ?_ ?_ | refine tQ ?_ ?_ | refine tA ?_ ?_ | refine tO ?_ ?_ | refine tU ?_ ?_ | refine tV ?_ ?_) <;> intro h) | refine dqT ?_ | refine dqF ?_ | refine z7 rfl ?_ | refine z6 rfl ?_ | refine zg ?_ | refine zh ?_)
end
section
open Go.RowKit
def zin : List CF → List Dt → Prop
 | .scal :: fs, d :: ds => d.scal = true ∧ zin fs ds
 | _ :: fs, _ :: ds => zin fs ds
 | _, _ => True
theorem zio : ∀ {fs : List CF} {ds : List Dt}, zin fs ds → ∀ (j : Nat) (d : Dt), fs[j]? = some .scal → ds[j]? = some d → d.scal = true
 | [], _, _, j, d, hf, _ => by cases hf
 | _ :: _, [], _, j, d, _, hd => by cases hd
 | c :: fs, x :: ds, h, j, d, hf, hd => by
  cases j with
  | zero =>
   simp only [List.getElem?_cons_zero, Option.some.injEq] at hf hd
   subst hf; subst hd
   exact h.1
  | succ j =>
   have h' : zin fs ds := by
    cases c with
    | scal => exact h.2
    | pure => exact h
    | fresh e sz => exact h
   exact zio h' j d (by simpa using hf) (by simpa using hd)
theorem zkf {s : Sig} {rs : List Dt} (h : zin (zk s) rs) : z4h s rs := fun i d h1 h2 => zio h i d h1 h2
def zip : List CF → Bool
 | [] => true
 | .fresh _ _ :: _ => false
 | _ :: fs => zip fs
theorem zae : ∀ {fs : List CF}, zip fs = true → ∀ c ∈ fs, c = .scal ∨ c = .pure
 | [], _, c, h => by cases h
 | x :: fs, h, c, hc => by
  cases x with
  | scal =>
   rcases List.mem_cons.1 hc with rfl | hc
   ·exact .inl rfl
   ·exact zae (fs := fs) h c hc
  | pure =>
   rcases List.mem_cons.1 hc with rfl | hc
   ·exact .inr rfl
   ·exact zae (fs := fs) h c hc
  | fresh e sz => cases h
section
variable {W W' : World} {F F' : Nat → Prop} {pk : List PK} {b : Bool}
theorem resP {s : Sig} {rs : List Dt} {v : Value} {us : List Value} (hv : zhs s.res v us) (hc : zip (zk s) = true) (hs : zin (zk s) rs) (hr : Reps W' F' rs us) (hl : rs.length = (zk s).length) (hF' : ∀ b, F' b → F b ∨ (W.heap.size ≤ b ∧ b < W'.heap.size)) : ∃ us F', ResR W F W' s rs v us F' :=
 ⟨us, F', zn1 hv (zae hc) (zio hs) hl hr hF'⟩
end
end
section
open Go.RowKit
end
section
open Go.RowKit
set_option maxRecDepth 100000
set_option maxHeartbeats 4000000
theorem zkg : ∀ l s : List (List UInt8), Er (z4m l s)
 | [], _ => z0i _ rfl
 | x :: l, s => z0r (z0i _ rfl) (z0r (z0i _ rfl) (zkg l _))
theorem z03x (k : Book) : Er (z0n k) := z0r (z0i _ rfl) (zkg _ _)
theorem z01g (t : List (List UInt8)) (s : List UInt8) : Er (z1o t s) := z0r (z0i _ rfl) (z0r (z0i _ rfl) (z0i _ rfl))
theorem zqj : ∀ (l t : List (List UInt8)) (o : List Int), Er (z0w l t o).2.2
 | [], t, o => z0i _ rfl
 | s :: l, t, o => by
  rw [z0w]
  split
  ·exact z0i _ rfl
  ·split
   ·exact z01g _ _
   ·exact zqj l _ _
theorem zw8 (k : Book) (l : List (List UInt8)) : Er (z00 k l).2.2 := by
 unfold z00
 split
 ·exact z03x k
 ·exact zqj _ _ _
theorem zkh {n : Int} (h : 0 ≤ n ∧ n ≤ 1000) : I64 n := ⟨by have := h.1; omega, by have := h.2; omega⟩
theorem z061 {W W' : World} {F : Nat → Prop} : ∀ b, Mid W W' b → F b ∨ (W.heap.size ≤ b ∧ b < W'.heap.size) := fun b h => .inr h
noncomputable def z33 : z9 := spD (fun x : Book × List (List UInt8) => x.2.length ≤ 8796093022207) fun x => z00 x.1 x.2
theorem zca (k : Book) (l : List (List UInt8)) (h : l.length ≤ 8796093022207) : z33 [.l 1 (k.texts.map z1m), .l 1 (l.map z1m)] = some [.l 1 ((z00 k l).1.map z1m), .l 1 ((z00 k l).2.1.map z12), I (z00 k l).2.2] := z01 (p := fun x : Book × List (List UInt8) => x.2.length ≤ 8796093022207) (f := fun x : Book × List (List UInt8) => z00 x.1 x.2) (k, l) h
theorem zki : Meets Tryd.prog z33 7 ⟨[.agg 1, .one], [(true, [.pure]), (false, [.pure]), (false, [.scal])], false⟩ :=
 z60 rfl (z3a (fn := Tryd.f7) (by kernel_rfl) (by kernel_rfl) (by kernel_rfl)) fun x hx W F us hF h => by
  obtain ⟨k, l⟩ := x
  obtain ⟨cs, us, rfl, h1, h⟩ := z02t (d1 := z83 k) (d2 := Enc.e l) h rfl
  obtain ⟨v, us, rfl, h2, h⟩ := z1r h
  obtain rfl := z3d h
  obtain ⟨A, n, c, rfl, hl⟩ := z4w ze6 h2
  have := hl.1
  simp only at hx
  refine (z035 k cs l A n c W F (she_book.of h1) hl hF.1 (by omega)).mono ?_
  rintro e w' ⟨A, n, c, A', n', c', rfl, hr, hr', hb⟩
  refine ⟨_, rfl, hb, ?_⟩
  exact resP (us := [.slice A n c, .slice A' n' c', .int .i64 (z00 k l).2.2]) (F' := Mid W w') ⟨[.agg #[.slice A n c], .slice A' n' c', .int .i64 (z00 k l).2.2], rfl, .agg #[.slice A n c], _, [.slice A n c], _, rfl, rfl, ⟨rfl, rfl⟩, .slice A' n' c', _, [.slice A' n' c'], _, rfl, rfl, ⟨rfl, rfl⟩, .int .i64 (z00 k l).2.2, [], [.int .i64 (z00 k l).2.2], [], rfl, rfl, ⟨rfl, rfl⟩, rfl, rfl⟩ rfl ⟨rfl, trivial⟩ ⟨zam ze6 hr, zam z27 hr', .i _ _ (wrap_i64 (zw8 k l).i64), trivial⟩ rfl z061
theorem zkj (n : Int) : 0 ≤ z17 n ∧ z17 n ≤ 1000 := by
  unfold z17
  split
  ·exact ⟨by decide, by decide⟩
  ·rename_i h
   have h1 : (0 : Int) ≤ 2 ^ (min ((n - 1) / 8) 30).toNat := Int.pow_nonneg (by decide)
   have h2 := Int.ediv_nonneg (show (0 : Int) ≤ 64 by decide) h1
   have h3 := Int.ediv_le_self (2 ^ (min ((n - 1) / 8) 30).toNat) (show (0 : Int) ≤ 64 by decide)
   exact ⟨h2, by omega⟩
theorem zkk (n : Int) : I64 (z17 n) ∧ I64 (z3z n) := by
 have h1 := zkj n
 have h2 : 0 ≤ z3z n ∧ z3z n ≤ 1000 := by
  unfold z3z
  split <;> exact ⟨by decide, by decide⟩
 exact ⟨zkh h1, zkh h2⟩
noncomputable def z3w : z9 := spD (fun _ : Int => True) fun n => (z17 n, z3z n)
theorem zfk (n : Int) : z3w [I n] = some [I (z17 n), I (z3z n)] := z01 (f := fun n : Int => (z17 n, z3z n)) n trivial
theorem z03y (n : Int) (w : World) : Calls Tryd.prog 40 #[.int .i64 n] w fun e w' => e = .returned (.tuple #[.int .i64 (z17 n), .int .i64 (z3z n)]) ∧ w = w' := by
 by_cases h : n < 1 ∨ 1000 < n
 ·go_enter Tryd.func40, Tryd.ntmps40
  go_wp2
  all_goals (go_ret2; refine ⟨z8o ?_ ?_, rfl⟩)
  all_goals simp [z17, z3z, h]
 ·have h1 : 1 ≤ n := by omega
  have h2 : n ≤ 1000 := by omega
  go_enter Tryd.func40, Tryd.ntmps40
  go_wp2
  all_goals (go_ret2; refine ⟨z8o ?_ ?_, rfl⟩)
  all_goals first
   | (simp only [z17]; rw [if_neg (by omega), Int.min_eq_right (by omega)]; try decide)
   | (simp only [z17]; rw [if_neg (by omega), Int.min_eq_left (by omega)])
   | (simp only [z17]; rw [if_neg (by omega)])
   | (simp [z3z]; omega)
theorem zqk : Meets Tryd.prog z3w 40 ⟨[.one], [(false, [.scal]), (false, [.scal])], true⟩ :=
 z60 rfl (z3a (fn := Tryd.f40) (by kernel_rfl) (by kernel_rfl) (by kernel_rfl)) fun n _ W F us hF h => by
  obtain ⟨v, us, rfl, h2, h⟩ := z1r (d := I n) h
  obtain rfl := z3d h
  obtain ⟨rfl, hn⟩ := zi9 h2
  refine (z03y n W).mono ?_
  rintro e w' ⟨rfl, rfl⟩
  exact ⟨_, rfl, Below.refl _ _, zig rfl rfl (.i _ _ (wrap_i64 (zkk n).1)) (.i _ _ (wrap_i64 (zkk n).2))⟩
end
section
open Go.RowKit
open Go.Lib (itoa)
set_option maxRecDepth 100000
set_option maxHeartbeats 4000000
def z1v (b : Block) : List (List UInt8) := b.txs.map fun t => (z0g t).1
def z6z (k : Book) (s : List UInt8) (l : List (List UInt8)) : List (List UInt8) × Int × List Int × Int :=
 if (z00 k (l ++ [s])).2.2 ≠ 0 then ([], 0, [], (z00 k (l ++ [s])).2.2) else
 ((z00 k (l ++ [s])).1, ((z00 k (l ++ [s])).2.1).getD l.length 0, ((z00 k (l ++ [s])).2.1).take l.length, 0)
def zu (k : Book) (b : Block) : List (List UInt8) × Int × List Int × Int :=
 if (z05 b).2 ≠ 0 then ([], 0, [], (z05 b).2) else z6z k (z05 b).1 (z1v b)
theorem zkl : ∀ (l t : List (List UInt8)) (o : List Int), (z0w l t o).2.2 = 0 → (z0w l t o).2.1.length = o.length + l.length
 | [], t, o, _ => by simp [z0w]
 | s :: l, t, o, h => by
  rw [z0w] at h ⊢
  split at h
  ·cases h
  rename_i h1
  rw [if_neg h1]
  split at h
  ·rename_i h2; exact absurd h h2
  rename_i h2
  rw [if_neg h2]
  rw [zkl l _ _ h]
  simp; omega
theorem zeu {k : Book} {l : List (List UInt8)} (h : (z00 k l).2.2 = 0) : (z00 k l).2.1.length = l.length := by
 unfold z00 at h ⊢
 split at h
 ·rename_i h1; exact absurd h h1
 rename_i h1
 rw [if_neg h1]
 simpa using zkl l k.texts [] h
theorem z7u {b : Block} (h : (z05 b).2 = 0) : zq b = 0 := by
 unfold z05 at h
 by_cases hb : zq b = 0
 ·exact hb
 ·rw [if_pos hb] at h; exact absurd h hb
attribute [local irreducible] z0h spD z00 z05 z0g
attribute [local irreducible] den denX z0s z1h
noncomputable def z1e : z9 := spD (fun _ : Book × Block => True) fun x => zu x.1 x.2
theorem z3j (k : Book) (b : Block) : z1e [.l 1 (k.texts.map z1m), I b.parent, I b.height, I b.work, I b.nonce, .l 3 (b.txs.map eTx)] = some [.l 1 ((zu k b).1.map z1m), I (zu k b).2.1, .l 1 ((zu k b).2.2.1.map z12), I (zu k b).2.2.2] := z01 (f := fun x : Book × Block => zu x.1 x.2) (k, b) trivial
theorem z9v (b : Block) : z1y [I b.parent, I b.height, I b.work, I b.nonce, .l 3 (b.txs.map eTx)] = some [.s (z05 b).1, I (z05 b).2] := zij b
theorem ziq (t : Tx) : z51 [I t.height, .l 3 (t.ins.map eIn), .l 2 (t.outs.map z2a)] = some [.s (z0g t).1, I (z0g t).2] := zlr t
def zql : T :=
 .lets [.call 36 [.v 13, .v 14, .v 15] 0, .call 36 [.v 13, .v 14, .v 15] 1] [] (.lets [.mk 1 [[.v 16]]] [] (.lets [.app 1 (.v 10) (.v 18)] [] (.lets [.bin .add (.v 11) (.c (.i .i64
 1))] [] (.again 0 [.v 19, .v 20]))))
def zqm : T :=
 .lets [.len (.v 10)] [] (.lets [.sub 1 (.v 16) none (some (.v 21)), .sub 1 (.v 16) (some (.v 21)) (some (.v 22))] [] (.ret [.v 15, .v 20, .v 23, .c (.i .i64 0)]))
def zqn : T :=
 .ite (.v 18) (.ret [.c (.nil 1), .c (.i .i64 0), .c (.nil 1), .v 17]) (.lets [.len (.v 10)] [] (.lets [] [.inr 1 (.v 16) (.v 19)] (.lets [.idx (.v 16) (.v 19) 0] [] (.lets [.len (.v
 10)] [] zqm))))
def zqo : T :=
 .lets [.app 1 (.v 10) (.v 13)] [] (.lets [.call 43 [.v 0, .v 14] 0, .call 43 [.v 0, .v 14] 1, .call 43 [.v 0, .v 14] 2] [] (.lets [.bin .neq (.v 17) (.c (.i .i64 0))] []
 zqn))
def zqp : T :=
 .ite (.v 12) (.lets [] [.inr 3 (.v 5) (.v 11)] (.lets [.idx (.v 5) (.v 11) 0, .idx (.v 5) (.v 11) 1, .idx (.v 5) (.v 11) 2] [] zql)) (.lets [.mk 1 [[.v 6]]] []
 zqo)
def zqq : T :=
 .ite (.v 8) (.ret [.c (.nil 1), .c (.i .i64 0), .c (.nil 1), .v 7]) (.lets [.len (.v 5)] [] (.loop [.c (.nil 1), .c (.i .i64 0)] (.lets [.bin .lss (.v 11) (.v 9)] [] zqp)))
def zc1 : T :=
 .lets [.call 37 [.v 1, .v 2, .v 3, .v 4, .v 5] 0, .call 37 [.v 1, .v 2, .v 3, .v 4, .v 5] 1] [] (.lets [.bin .neq (.v 7) (.c (.i .i64 0))] [] zqq)
attribute [local irreducible] z1y z33 z51
theorem zc2 : Meets Tryd.prog z1e 5 ⟨[.agg 1, .agg 5], [(true, [.pure]), (false, [.scal]), (false, [.pure]), (false, [.scal])], false⟩ := by
 refine zy (sp := (z0v [(36, z51), (37, z1y), (43, z33)])) (sigs := z11) (cut := []) (hints := [⟨6, [.r 9 9 1, .t 27]⟩]) (fn := Tryd.f5) (t := zc1) (by kernel_rfl) (by kernel_rfl) (by kernel_rfl) ?_ ?_
 ·exact (z0m (L := [(36, z51), (37, z1y), (43, z33)]) ⟨zl rfl zym, zl rfl zh1, zl rfl zki, trivial⟩)
 ·rintro ds rs hok h
  obtain ⟨⟨k, b⟩, -, rfl, rfl⟩ := z02 h
  clear h
  refine ⟨⟨100, ?_⟩, zkf ⟨rfl, rfl, trivial⟩⟩
  show den _ _ zc1 [.l 1 (k.texts.map z1m), I b.parent, I b.height, I b.work, I b.nonce, .l 3 (b.txs.map eTx)] [] = ret (zu k b)
  have a1 := z9v b
  unfold zc1 zu
  have hpz := fun h => (z45 (z7u (b := b) h)).len
  generalize z05 b = pb at *
  obtain ⟨s, e⟩ := pb
  simp only at *
  repeat' (first | refine dq1 ?_ | refine dqc ?_ | refine dqm ?_ | refine dqK rfl (a1) ?_ | exact z4 rfl rfl | ((first | refine tR ?_ ?_ | refine tB ?_ ?_ | refine tC ?_ ?_ | refine tN ?_ ?_ | refine tF ?_ ?_ | refine tG ?_ ?_ | refine tP ?_ ?_ | refine tQ ?_ ?_ | refine tA ?_ ?_ | refine tO ?_ ?_ | refine tU ?_ ?_ | refine tV ?_ ?_) <;> intro h) | refine dqT ?_ | refine dqF ?_ | refine z7 rfl ?_ | refine z6 rfl ?_ | refine zg ?_ | refine zh ?_)
  have hlen : b.txs.length ≤ 4 := hpz (by omega)
  (refine z0q (fun (a : List (List UInt8)) k => [.l 1 (a.map z1m), I k]) (fun (a : List (List UInt8)) _ (r : List Tx) => z6z k s (a ++ r.map fun t => (z0g t).1)) (fun a k => a.length = k) [] b.txs ?_ ?_ ?_ ?_ ?_; rfl; exact rfl; omega)
  ·rintro a i x r hx hd hk ha again hag
   have a2 := ziq x
   have e : a ++ ((x :: r).map fun t => (z0g t).1) = (a ++ [(z0g x).1]) ++ r.map fun t => (z0g t).1 := by simp
   rw [e]
   have hag' := hag (a ++ [(z0g x).1]) (by simp; omega)
   generalize z0g x = px at *
   obtain ⟨z, f⟩ := px
   simp only at *
   repeat' (first | refine dq1 ?_ | refine dqc ?_ | refine dqm ?_ | refine dqK rfl (a2) ?_ | refine z5 (z4l rfl rfl (by simp)) ?_ | refine z5 (zi6 (x := z) (fun _ => rfl) rfl rfl (by omega)) ?_ | exact z4 rfl rfl | ((first | refine tR ?_ ?_ | refine tB ?_ ?_ | refine tC ?_ ?_ | refine tN ?_ ?_ | refine tF ?_ ?_ | refine tG ?_ ?_ | refine tP ?_ ?_ | refine tQ ?_ ?_ | refine tA ?_ ?_ | refine tO ?_ ?_ | refine tU ?_ ?_ | refine tV ?_ ?_) <;> intro h) | refine dqT ?_ | refine dqF ?_ | refine z7 rfl ?_ | refine z6 rfl ?_ | refine zg ?_ | refine zh ?_)
   exact ze rfl rfl hag'
  ·rintro a ha again
   simp only [List.map_nil, List.append_nil]
   have a3 := zca k (a ++ [s]) (by simp; omega)
   have hl := fun h => zeu (k := k) (l := a ++ [s]) h
   unfold z6z
   generalize z00 k (a ++ [s]) = q at *
   obtain ⟨tx, ns, e2⟩ := q
   simp only at *
   repeat' (first | refine dq1 ?_ | refine dqc ?_ | refine dqm ?_ | refine dqK rfl (a3) ?_ | refine z5 (z4l rfl rfl (by simp)) ?_ | refine z5 (zi6 (x := s) (fun _ => rfl) rfl rfl (by omega)) ?_ | exact z4 rfl rfl | ((first | refine tR ?_ ?_ | refine tB ?_ ?_ | refine tC ?_ ?_ | refine tN ?_ ?_ | refine tF ?_ ?_ | refine tG ?_ ?_ | refine tP ?_ ?_ | refine tQ ?_ ?_ | refine tA ?_ ?_ | refine tO ?_ ?_ | refine tU ?_ ?_ | refine tV ?_ ?_) <;> intro h) | refine dqT ?_ | refine dqF ?_ | refine z7 rfl ?_ | refine z6 rfl ?_ | refine zg ?_ | refine zh ?_)
   have hl := hl (by omega)
   simp only [List.length_append, List.length_cons, List.length_nil] at hl
   have hg : ns[((a.length : Int)).toNat]? = some (ns.getD a.length 0) := by
    rw [Int.toNat_natCast, List.getD_eq_getElem?_getD, List.getElem?_eq_getElem (by omega)]
    rfl
   generalize ns.getD a.length 0 = y at *
   have ht : ns.take ((a.length : Int)).toNat = ns.take a.length := by rw [Int.toNat_natCast]
   repeat' (first | refine dq1 ?_ | refine dqc ?_ | refine dqm ?_ | exact z4 rfl rfl | ((first | refine tR ?_ ?_ | refine tB ?_ ?_ | refine tC ?_ ?_ | refine tN ?_ ?_ | refine tF ?_ ?_ | refine tG ?_ ?_ | refine tP ?_ ?_ | refine tQ ?_ ?_ | refine tA ?_ ?_ | refine tO ?_ ?_ | refine tU ?_ ?_ | refine tV ?_ ?_) <;> intro h) | refine dqT ?_ | refine dqF ?_ | refine z7 rfl ?_ | refine z6 rfl ?_ | refine zg ?_ | refine zh ?_)
   refine z6u (z1f (zu5 rfl rfl (by omega) (by omega) ht) (z1f (zy0 (m := (a.length : Int)) (n := (a.length : Int)) rfl rfl rfl (by omega) (by omega) (by omega)) zcq)) ?_ rfl
   exact z4 rfl rfl
end
section
open Go.RowKit
set_option maxRecDepth 100000
set_option maxHeartbeats 4000000
section
variable {ρ : Type}
def z25 (h : Int) (bad : Int → ρ) (K : List Coin → List Coin → ρ) : List Coin → List Coin → List In → ρ
 | r, s, [] => K r s
 | r, s, x :: xs => if z1p r x.p = true then
   if ((r[zj r x.p]?).getD z5j).reward = true then
    if h < ((r[zj r x.p]?).getD z5j).height + 2 then bad 10
    else if (z30 ((r[zj r x.p]?).getD z5j).o.lock x.key h).1 = true then z25 h bad K (r.take (zj r x.p) ++ r.drop (zj r x.p + 1)) (s ++ [(r[zj r x.p]?).getD z5j]) xs else bad 8
   else if (z30 ((r[zj r x.p]?).getD z5j).o.lock x.key h).1 = true then z25 h bad K (r.take (zj r x.p) ++ r.drop (zj r x.p + 1)) (s ++ [(r[zj r x.p]?).getD z5j]) xs else bad 8
  else bad 7
def z2c (nm h : Int) (rw : Bool) (bad : Int → ρ) (K : List Coin → ρ) : List Coin → Nat → List Out → ρ
 | r, _, [] => K r
 | r, i, o :: os => if z1p r ⟨nm, i⟩ = true then bad 6 else z2c nm h rw bad K (r.take (zj r ⟨nm, i⟩) ++ [⟨⟨nm, i⟩, o, h, rw⟩] ++ r.drop (zj r ⟨nm, i⟩)) (i + 1) os
end
def z2r (e : Int) : List Coin × List Coin × Int := ([], [], e)
def z7v (s r : List Coin) : List Coin × List Coin × Int := if zr r ≠ 0 then z2r (zr r) else (r, s, 0)
def z09 (l : List Coin) (t : Tx) (nm h : Int) : List Coin × List Coin × Int :=
 if zr l ≠ 0 then z2r (zr l) else if zi t ≠ 0 then z2r (zi t) else
 if nm < 1 ∨ 120 < nm ∨ h < 1 ∨ 1000 < h then z2r 3 else
 if (t.ins.length : Int) = 0 then
  if t.height ≠ h then z2r 4 else z25 h z2r (fun r s => z2c nm h (decide ((t.ins.length : Int) = 0)) z2r (z7v s) r 0 t.outs) l [] t.ins
 else z25 h z2r (fun r s => if z1z t s < 0 then z2r 9 else z2c nm h (decide ((t.ins.length : Int) = 0)) z2r (z7v s) r 0 t.outs) l [] t.ins
section
variable {ρ : Type}
def z02a (nm : Int) (bad : Int → ρ) (K : List Coin → ρ) : List Coin → Nat → List Out → ρ
 | r, _, [] => K r
 | r, i, o :: os => if z1p r ⟨nm, i⟩ = true then (if decide (((r[zj r ⟨nm, i⟩]?).getD z5j).o = o) = true then z02a nm bad K (r.take (zj r ⟨nm, i⟩) ++ r.drop (zj r ⟨nm, i⟩ + 1)) (i + 1) os else bad 7) else bad 7
def z02b (ins : List In) (bad : Int → ρ) (K : List Coin → ρ) : List Coin → Nat → List Coin → ρ
 | r, _, [] => K r
 | r, i, c :: cs => if z1p r c.p = true then bad 6 else if ((ins[i]?).getD ⟨⟨0, 0⟩, []⟩).p ≠ c.p then bad 6 else z02b ins bad K (r.take (zj r c.p) ++ [c] ++ r.drop (zj r c.p)) (i + 1) cs
end
def zir (e : Int) : List Coin × Int := ([], e)
def endR (r : List Coin) : List Coin × Int := if zr r ≠ 0 then zir (zr r) else (r, 0)
def z5o (l : List Coin) (t : Tx) (nm : Int) (u : List Coin) : List Coin × Int :=
 if zr l ≠ 0 then zir (zr l) else if zi t ≠ 0 then zir (zi t) else if (u.length : Int) ≠ t.ins.length then zir 4 else
  z02a nm zir (fun r => z02b t.ins zir endR r 0 u) l 0 t.outs
theorem z8d {r : List Coin} (h : z03 r) (k : Nat) : z03 (r.take k ++ r.drop (k + 1)) := by
 have : (r.take k ++ r.drop (k + 1)) = r.eraseIdx k := (List.eraseIdx_eq_take_drop_succ r k).symm
 rw [this]
 exact h.sublist (List.eraseIdx_sublist r k)
theorem z8e {r : List Coin} (h : z03 r) {c : Coin} (hc : z1p r c.p = false) : z03 (r.take (zj r c.p) ++ [c] ++ r.drop (zj r c.p)) := by
 obtain ⟨i1, i2⟩ := zel h c.p
 have hle := zfd r c.p
 have hne : ∀ t (ht : t < r.length), r[t].p ≠ c.p := fun t ht he => by
  have : z1p r c.p = true := List.any_eq_true.2 ⟨_, List.getElem_mem ht, by simpa using he⟩
  rw [this] at hc; cases hc
 unfold z03
 rw [List.append_assoc, List.pairwise_append]
 refine ⟨List.Pairwise.sublist (List.take_sublist _ _) h, ?_, ?_⟩
 ·rw [List.singleton_append, List.pairwise_cons]
  refine ⟨fun d hd => ?_, List.Pairwise.sublist (List.drop_sublist _ _) h⟩
  obtain ⟨t, ht, rfl⟩ := List.getElem_of_mem hd
  rw [List.length_drop] at ht
  rw [List.getElem_drop]
  have := i2 (zj r c.p + t) (by omega) (by omega)
  rcases zu3 c.p r[zj r c.p + t].p with h | h | h
  ·exact h
  ·exact absurd h.symm (hne _ (by omega))
  ·exact absurd h this
 ·intro a ha b hb
  obtain ⟨t, ht, rfl⟩ := List.getElem_of_mem ha
  rw [List.length_take] at ht
  rw [List.getElem_take]
  have hat := i1 t (by omega) (by omega)
  rw [List.singleton_append, List.mem_cons] at hb
  rcases hb with rfl | hb
  ·exact hat
  ·obtain ⟨u, hu, rfl⟩ := List.getElem_of_mem hb
   rw [List.length_drop] at hu
   rw [List.getElem_drop]
   have := i2 (zj r c.p + u) (by omega) (by omega)
   rcases zu3 r[t].p r[zj r c.p + u].p with h | h | h
   ·exact h
   ·exact absurd (h ▸ hat) this
   ·exact absurd (z5t h hat) this
structure SpI (l : List Coin) (st : List Coin × List Coin) (k : Nat) : Prop where
 sorted : z03 st.1
 len : st.1.length ≤ l.length
 good : ∀ c ∈ st.1, z3e c = 0
 cnt : st.2.length = k
 spent : ∀ c ∈ st.2, z3e c = 0
theorem SpI.cut {l : List Coin} {r s : List Coin} {k : Nat} {c : Coin} {j : Nat} (h : SpI l (r, s) k) (hc : r[j]? = some c) : SpI l (r.take j ++ r.drop (j + 1), s ++ [c]) (k + 1) := by
 refine ⟨z8d h.sorted j, ?_, fun d hd => ?_, ?_, fun d hd => ?_⟩
 ·have := h.len
  simp only [List.length_append, List.length_take, List.length_drop] at this ⊢
  omega
 ·rcases List.mem_append.1 hd with hd | hd
  ·exact h.good d (List.mem_of_mem_take hd)
  ·exact h.good d (List.mem_of_mem_drop hd)
 ·have := h.cnt
  simp only [List.length_append, List.length_singleton] at this ⊢
  omega
 ·rcases List.mem_append.1 hd with hd | hd
  ·exact h.spent d hd
  ·simp only [List.mem_singleton] at hd
   subst hd
   exact h.good d (List.mem_of_getElem? hc)
theorem SpI.fee {l : List Coin} {r s : List Coin} {t : Tx} (h : SpI l (r, s) t.ins.length) (ht : TxOK t) : zaz (t, s) :=
 ⟨by have := h.cnt; have := ht.ins; simp only at *; omega, fun c hc => by have := z2y (h.spent c hc); omega, by have := ht.outs; simp only; omega, fun o ho => by have := ht.good o ho; omega⟩
end
section
open Go.RowKit
section
variable {P : Program} {W : World}
theorem zb2 {g o t : Nat} {vs cs : List Value} (hg : W.heap[g]? = some (.cells vs.toArray t (0, 0))) (hn : o + cs.length ≤ vs.length) (h1 : ∀ v ∈ cs, v.oneCell' = true) : (storeCells ⟨g, o, none⟩ cs 0).run P W = .ok () (W.setCells g o cs) := by
 have h := zcg (fr := (0, 0)) hg (o := o) (n := cs.length) hn
 have := run_storeCells_cells (P := P) g o cs 0 W (fun j hj => by rw [Nat.add_zero]; exact (h j hj).1) (fun j hj => by rw [Nat.add_zero]; exact (h j hj).2) h1
 simpa using this
theorem zyx {t e ty sz : Nat} {z : Value} (ht : P.underlying t = some (.slice e)) (hv : ∀ w, (zeroValue e).run P w = .ok z w) (hz : z.cells.size = sz) (h1 : ∀ v ∈ z.cells.toList, v.oneCell' = true) {g o n c tt : Nat} {vs : List Value} (hg : W.heap[g]? = some (.cells vs.toArray tt (0, 0))) (hn : o + n * sz ≤ vs.length) :
  (Builtin.clear_ #[t] ty #[.slice (some ⟨g, o, none⟩) n c]).run P W = .ok (.tuple #[]) (W.setCells g o (Builtin.zeroCells z.cells n).toList) := by
 have hzl : (Builtin.zeroCells z.cells n).toList.length = n * sz := by simp [Builtin.zeroCells, hz]
 cases n with
 | zero =>
  have : (Builtin.zeroCells z.cells 0).toList = [] := List.eq_nil_of_length_eq_zero (by rw [hzl]; simp)
  rw [this]
  simp [Builtin.clear_, run_underlying ht, World.setCells]
 | succ n =>
  have hs := zb2 (P := P) (cs := (Builtin.zeroCells z.cells (n + 1)).toList) hg (by rw [hzl]; exact hn) (fun v hv => by
   rw [Array.mem_toList_iff] at hv
   simp only [Builtin.zeroCells, Array.mem_map] at hv
   obtain ⟨i, hi, rfl⟩ := hv
   have hpos : 0 < z.cells.size := by
    rcases Nat.eq_zero_or_pos z.cells.size with h | h
    ·rw [h] at hi; simp at hi
    ·exact h
   have hlt : i % z.cells.size < z.cells.size := Nat.mod_lt _ hpos
   rw [getElem!_pos z.cells _ hlt]
   exact h1 _ (by simp))
  simp [Builtin.clear_, run_underlying ht, hv, hs]
theorem zc3 {t t' e ty sz : Nat} (ht : P.underlying t = some (.slice e)) (hsz : (P.info? e).map (·.size) = some sz) {g o dLen dCap sLen sCap tt : Nat} {a : Addr} {vs cs : List Value} (hg : W.heap[g]? = some (.cells vs.toArray tt (0, 0))) (hl : cs.length = Nat.min sLen dLen * sz) (hsrc : ∀ j v, cs[j]? = some v → W.cell? (a.add j) = some v) (hn : o + cs.length ≤ vs.length) (h1 : ∀ v ∈ cs, v.oneCell' = true) :
  (Builtin.copy_ #[t, t'] ty #[.slice (some ⟨g, o, none⟩) dLen dCap, .slice (some a) sLen sCap]).run P W = .ok (goInt (Nat.min sLen dLen)) (W.setCells g o cs) := by
 have hs := zb2 (P := P) hg hn h1
 have hlc := run_loadCells_list (P := P) W a cs hsrc
 cases hq : P.info? e with
 | none => simp [hq] at hsz
 | some i =>
  have hi : i.size = sz := by simpa [hq] using hsz
  simp [Builtin.copy_, run_underlying ht, Builtin.lenOf, Builtin.firstCells, sizeOf, typeInfo, hq, hi, ← hl, hlc, hs]
end
theorem z01h {pre mid post us : List Value} {o : Nat} (ho : o = pre.length) (h : us.length = mid.length) : z0p (pre ++ mid ++ post) o us = pre ++ us ++ post := by subst ho; exact zf4 us pre mid post h
theorem z63 {vs us : List Value} {o : Nat} (h : o + us.length ≤ vs.length) : z0p vs o us = vs.take o ++ us ++ vs.drop (o + us.length) := by
 have e : vs = vs.take o ++ (vs.drop o).take us.length ++ vs.drop (o + us.length) := by
  rw [List.append_assoc, ← List.drop_drop, List.take_append_drop, List.take_append_drop]
 have h1 : o = (vs.take o).length := by rw [List.length_take]; omega
 have h2 : us.length = ((vs.drop o).take us.length).length := by rw [List.length_take, List.length_drop]; omega
 conv => lhs; rw [e]
 exact z01h h1 h2
theorem zdq {sz : Nat} : ∀ {xs : List (List Dt)}, (∀ x ∈ xs, x.length = sz) → xs.flatten.length = xs.length * sz
 | [], _ => by simp
 | x :: xs, h => by rw [List.flatten_cons, List.length_append, h x (List.mem_cons_self ..), zdq fun y hy => h y (List.mem_cons_of_mem _ hy), List.length_cons, Nat.succ_mul, Nat.add_comm]
theorem zc4 {sz : Nat} : ∀ {xs : List (List Dt)} (i : Nat), (∀ x ∈ xs, x.length = sz) → (xs.take i).flatten = xs.flatten.take (i * sz)
 | [], i, _ => by simp
 | x :: xs, 0, _ => by simp
 | x :: xs, i + 1, h => by
  have hx := h x (List.mem_cons_self ..)
  rw [List.take_succ_cons, List.flatten_cons, List.flatten_cons, zc4 i fun y hy => h y (List.mem_cons_of_mem _ hy), List.take_append, hx, List.take_of_length_le (show x.length ≤ (i + 1) * sz by rw [hx, Nat.succ_mul]; omega), Nat.succ_mul, Nat.add_sub_cancel]
theorem zh5 {sz : Nat} {xs : List (List Dt)} (i : Nat) (h : ∀ x ∈ xs, x.length = sz) : (xs.drop i).flatten = xs.flatten.drop (i * sz) := by
 have e : xs.flatten = (xs.take i).flatten ++ (xs.drop i).flatten := by rw [← List.flatten_append, List.take_append_drop]
 by_cases hi : i ≤ xs.length
 ·have h1 : (xs.take i).flatten.length = i * sz := by rw [zdq fun y hy => h y (List.mem_of_mem_take hy), List.length_take, Nat.min_eq_left hi]
  rw [e, ← h1, List.drop_left]
 ·rw [List.drop_of_length_le (by omega), List.drop_of_length_le]
  ·rfl
  ·rw [zdq h]; exact Nat.mul_le_mul_right _ (by omega)
section
variable {P : Program}
theorem zyy {α : Type} [Enc α] {f e sz : Nat} (hn : Enc.n α = sz) (hpos : 0 < sz) (hen : En P f) (zc : Array Value) (hzc : zc.size = sz)
  (h0 : ∀ (W : World) (A : Option Addr) (n cap i : Nat), i ≤ n → n ≤ cap → cap ≤ maxLen → Calls P f #[.slice A n cap, .int .i64 i, .int .i64 i] W fun r W' => r = .returned (.slice A n cap) ∧ W' = W)
  (hw : ∀ (W : World) (g n cap i j : Nat) (vs : List Value), W.heap[g]? = some (.cells vs.toArray e (0, 0)) → n ≤ cap → cap ≤ maxLen → vs.length = cap * sz → (∀ u ∈ vs.take (n * sz), u.oneCell' = true) → i < j → j ≤ n →
   Calls P f #[.slice (some ⟨g, 0, none⟩) n cap, .int .i64 i, .int .i64 j] W fun r W' => r = .returned (.slice (some ⟨g, 0, none⟩) (n - (j - i)) cap) ∧ W' = ((W.drewN 1).setCells g (i * sz) ((vs.take (n * sz)).drop (j * sz))).setCells g ((i + (n - j)) * sz) (Builtin.zeroCells zc (j - i)).toList) :
  Meets P (spD (fun x : List α × Int × Int => 0 ≤ x.2.1 ∧ x.2.1 ≤ x.2.2 ∧ x.2.2 ≤ x.1.length) fun x => x.1.take x.2.1.toNat ++ x.1.drop x.2.2.toNat) f ⟨[.mine e sz, .one, .one], [(false, [.fresh e sz])], false⟩ := by
 refine ⟨fun h => (by cases h), ?_⟩
 intro e' sz' ps hps
 injection hps with h1 h2
 injection h1 with h1 h1'
 subst h1; subst h1'; subst h2
 intro W F base v xs cells ds args rs hF hbase hvF hxs hown hreps hargs hsp
 obtain ⟨⟨l, i, j⟩, ⟨hi0, hij, hjl⟩, he, rfl⟩ := z02 hsp
 have he' : Dt.l sz xs :: ds = Dt.l (Enc.n α) (l.map Enc.e) :: [I i, I j] := he
 injection he' with g1 g2
 injection g1 with g3 g1
 subst g2; subst g1
 simp only at hi0 hij hjl
 obtain ⟨va, vas, rfl, ha, hargs⟩ := z1r hargs
 obtain ⟨vb, vbs, rfl, hb, hargs⟩ := z1r hargs
 obtain rfl := z3d hargs
 obtain ⟨rfl, _⟩ := z1l ha
 obtain ⟨rfl, _⟩ := z1l hb
 obtain ⟨a, rfl⟩ : ∃ a : Nat, i = a := ⟨i.toNat, by omega⟩
 obtain ⟨b, rfl⟩ : ∃ b : Nat, j = b := ⟨j.toNat, by omega⟩
 have hlen : (l.map Enc.e).length = l.length := List.length_map _
 rw [hlen] at hown
 refine ⟨(l.take a ++ l.drop b).map Enc.e, ?_, fun x hx => hxs x ?_, ?_⟩
 ·show [Dt.l (Enc.n α) _] = _
  rw [hn]; rfl
 ·rw [List.map_append, List.map_take, List.map_drop] at hx
  rcases List.mem_append.1 hx with hx | hx
  ·exact List.mem_of_mem_take hx
  ·exact List.mem_of_mem_drop hx
 by_cases hab : a = b
 ·subst hab
  have hsame : l.take a ++ l.drop a = l := List.take_append_drop ..
  simp only [Int.toNat_natCast, hsame]
  have hv : ∃ A cap, v = .slice A l.length cap ∧ l.length ≤ cap ∧ cap ≤ maxLen := by
   rcases hown.2 with ⟨rfl, h0⟩ | ⟨g, cap, cur, rfl, _, _, h1, h2, _⟩
   ·exact ⟨none, 0, by rw [h0], by omega, by unfold maxLen; omega⟩
   ·exact ⟨_, cap, rfl, h1, h2⟩
  obtain ⟨A, cap, rfl, h1, h2⟩ := hv
  refine .inl ⟨hen.run _ _, (h0 W A l.length cap a (by omega) h1 h2).mono ?_⟩
  rintro r W' ⟨rfl, rfl⟩
  exact ⟨_, rfl, _, cells, ⟨fun h => (by cases h), fun _ => rfl⟩, World.grownBy.refl _ _, by rw [hlen]; exact hown, hreps, fun _ h => .inl h⟩
 ·rcases hown.2 with ⟨rfl, h0⟩ | ⟨g, cap, cur, rfl, hbg, hg, h1, h2, hcs, htk⟩
  ·omega
  ·have hkeep := hown
   have hml : cells.length = l.length * sz := hown.1
   have hcs' : cur.toList.length = cap * sz := by simpa using hcs
   have hones : ∀ u ∈ cur.toList.take (l.length * sz), u.oneCell' = true := by rw [htk]; exact hreps.one
   refine .inl ⟨hen.run _ _, (hw W g l.length cap a b cur.toList (by simpa using hg) h1 h2 hcs' hones (by omega) (by omega)).mono ?_⟩
   rintro r W' ⟨rfl, rfl⟩
   have hgF : ¬ F g := hvF g rfl
   generalize hW1 : (W.drewN 1).setCells g (a * sz) ((cur.toList.take (l.length * sz)).drop (b * sz)) = W1
   have hg0 : (W.drewN 1).heap[g]? = some (.cells cur.toList.toArray e (0, 0)) := by simpa using hg
   have hnl : ((cur.toList.take (l.length * sz)).drop (b * sz)).length = (l.length - b) * sz := by
    rw [htk, List.length_drop, hml, Nat.sub_mul]
   have hzl : (Builtin.zeroCells zc (b - a)).toList.length = (b - a) * sz := by simp [Builtin.zeroCells, hzc]
   have hg1 := z0x ((cur.toList.take (l.length * sz)).drop (b * sz)) (a * sz) (W.drewN 1) cur.toList hg0
   rw [hW1] at hg1
   have hg2 := z0x (Builtin.zeroCells zc (b - a)).toList ((a + (l.length - b)) * sz) W1 _ hg1
   have hmul1 : a * sz + (l.length - b) * sz = (a + (l.length - b)) * sz := (Nat.add_mul ..).symm
   have hle1 : (a + (l.length - b)) * sz ≤ cap * sz := Nat.mul_le_mul_right _ (by omega)
   have hle2 : (a + (l.length - b)) * sz + (b - a) * sz ≤ cap * sz := by rw [← Nat.add_mul]; exact Nat.mul_le_mul_right _ (by omega)
   have hle3 : a * sz ≤ l.length * sz := Nat.mul_le_mul_right _ (by omega)
   have hle4 : l.length * sz ≤ cap * sz := Nat.mul_le_mul_right _ h1
   have hfar : ∀ k, k ≠ g → (W1.setCells g ((a + (l.length - b)) * sz) (Builtin.zeroCells zc (b - a)).toList).heap[k]? = W.heap[k]? := by
    intro k hk
    rw [z16 g _ _ _ k hk, ← hW1, z16 g _ _ _ k hk]
    rfl
   refine ⟨_, rfl, _, cells.take (a * sz) ++ cells.drop (b * sz), ⟨fun h => (by cases h), fun _ => rfl⟩, ?_, ?_, ?_, fun _ h => .inl h⟩
   ·obtain ⟨k1, k2, k3, k4⟩ := z22 g (Builtin.zeroCells zc (b - a)).toList ((a + (l.length - b)) * sz) W1
    obtain ⟨q1, q2, q3, q4⟩ := z22 g ((cur.toList.take (l.length * sz)).drop (b * sz)) (a * sz) (W.drewN 1)
    rw [hW1] at q1 q2 q3 q4
    refine ⟨k1.trans q1, k2.trans q2, k3.trans q3, ?_, fun k hk hne => hfar k fun h => hne (by rw [h]; rfl)⟩
    rw [k4, q4]
    exact Nat.le_refl _
   ·have hl2 : ((l.take a ++ l.drop b).map (Enc.e (α := α))).length = a + (l.length - b) := by
     rw [List.length_map, List.length_append, List.length_take, List.length_drop]; omega
    rw [hl2]
    refine ⟨?_, .inr ⟨g, cap, _, by rw [show l.length - (b - a) = a + (l.length - b) by omega], hbg, hg2, by omega, h2, ?_, ?_⟩⟩
    ·rw [List.length_append, List.length_take, List.length_drop, hml, Nat.min_eq_left hle3, ← Nat.sub_mul, hmul1]
    ·rw [List.size_toArray, z0t, z0t]; exact hcs'
    ·rw [List.toList_toArray, z63 (by rw [z0t, hzl]; omega), List.append_assoc, List.take_append_of_le_length (by rw [List.length_take, z0t]; omega), List.take_take, Nat.min_self, z63 (by rw [hnl]; omega), List.take_append_of_le_length (by rw [List.length_append, List.length_take, hnl]; omega), List.take_of_length_le (by rw [List.length_append, List.length_take, hnl]; omega), htk]
     congr 1
     rw [← htk, List.take_take, Nat.min_eq_left hle3]
   ·rw [List.map_append, List.map_take, List.map_drop, List.flatten_append, zc4 a hxs, zh5 b hxs]
    have hag : Agree F W (W1.setCells g ((a + (l.length - b)) * sz) (Builtin.zeroCells zc (b - a)).toList) := fun k hk => hfar k fun h => hgF (h ▸ hk)
    exact ((hreps.take (a * sz)).append (hreps.drop (b * sz))).mono hag (fun _ h => h)
theorem zqr {tS tR e sz : Nat} {W : World} (ht : P.underlying tS = some (.slice e)) (hz : ∀ w, (sizeOf e).run P w = .ok sz w) {g o b off la ca lb cb t : Nat} {vs : List Value} (hg : W.heap[g]? = some (.cells vs.toArray t (0, 0))) (hvs : 0 < vs.length) (hne : b ≠ g) {u : Value} (hb : W.cell? ⟨b, off, none⟩ = some u) :
  (Extern.SlicesOverlaps.overlaps #[tS, tS] #[tR] #[.slice (some ⟨b, off, none⟩) la ca, .slice (some ⟨g, o, none⟩) lb cb]).run P W = .ok (.bool false) W := by
 have hnb : (b != g) = true := by simpa using hne
 have hnb' : (b == g) = false := by simpa using hne
 obtain ⟨arr, tb, fr, hbh, hsz⟩ : ∃ arr tb fr, W.heap[b]? = some (.cells arr tb fr) ∧ 0 < arr.size := by
  unfold World.cell? at hb
  split at hb
  ·rename_i arr tb fr h
   simp at hb
   obtain ⟨hlt, _⟩ := Array.getElem?_eq_some_iff.1 hb
   exact ⟨arr, tb, fr, h, by omega⟩
  ·cases hb
 have hsa : W.shape? b = some (tb, arr.size) := by simp [World.shape?, hbh]
 have hsb : W.shape? g = some (t, vs.length) := by simp [World.shape?, hg]
 have hfg : ∀ k, W.frozen? ⟨g, k, none⟩ = false := fun k => by simp [World.frozen?, hg]
 obtain ⟨n1, hn1⟩ : ∃ n, arr.size = n + 1 := ⟨arr.size - 1, by omega⟩
 obtain ⟨n2, hn2⟩ : ∃ n, vs.length = n + 1 := ⟨vs.length - 1, by omega⟩
 rw [hn1] at hsa
 rw [hn2] at hsb
 change Sem.run P (α := Value) (do
  let some t := (#[tS, tS] : Array TypeId)[0]? | stuck "slices.overlaps: no parameter types"
  let .slice elem ← underlying t | stuck "slices.overlaps: slice type expected"
  let size ← sizeOf elem
  match (some ⟨b, off, none⟩ : Option Addr), (some ⟨g, o, none⟩ : Option Addr) with
  | some a, some b =>
   if la = 0 ∨ lb = 0 ∨ size = 0 then pure (Value.bool false)
   else if a.block != b.block && (← frozen a) && (← frozen b) then unsupported .addressObserved
   else do
    if a.block != b.block then do
     noView a; noView b
     if ← mayBeOne a b then return Value.bool ((← choose (.extern "sameAddr.stringBytes" 2)) == 1)
    pure (Value.bool (a.block == b.block && a.off < b.off + lb * size && b.off < a.off + la * size))
  | _, _ => pure (Value.bool false)) W = _
 by_cases h0 : la = 0 ∨ lb = 0 ∨ sz = 0
 ·simp [run_underlying ht, hz, h0]
 ·cases hf1 : W.frozen? ⟨b, off, none⟩ <;> cases hf2 : W.frozen? ⟨b, n1 + 1, none⟩ <;>
   simp [run_underlying ht, hz, h0, hnb, hnb', frozen, noView, viewAt, mayBeOne, stringish, shape, Sem.run, hsa, hsb, hfg, hf1, hf2]
theorem zev {W : World} {b k : Nat} {v : Value} (o : Obj) (h : W.cell? ⟨b, k, none⟩ = some v) : (W.alloc o).cell? ⟨b, k, none⟩ = some v := by
 have hlt : b < W.heap.size := by
  rcases Nat.lt_or_ge b W.heap.size with h' | h'
  ·exact h'
  ·simp [World.cell?, Array.getElem?_eq_none h'] at h
 rw [← h]
 simp only [World.cell?, World.alloc, Array.getElem?_push, Nat.ne_of_lt hlt, if_false]
theorem zyz {W : World} {g o b k : Nat} {us : List Value} (h : b ≠ g) : (W.setCells g o us).cell? ⟨b, k, none⟩ = W.cell? ⟨b, k, none⟩ := by
 simp only [World.cell?, z16 g us o W b h]
theorem zz0 {W : World} {o : Oper} {a : Act} {K : Act → World → Prop} {Q : Exit → Act → World → Prop} (d s : Operand) (t t' : TypeId)
  (ho : o.op = .call { callee := .builtin .copy, args := #[d, s], argTypes := #[t, t'] }) (v u : Value) (hd : a.eval d = v) (hs : a.eval s = u) {v' : Value} {w' : World}
  (hr : (Builtin.copy_ #[t, t'] o.type #[v, u]).run P W = .ok v' w') (h : K (a.put o.dst v') w') : o.wp P a W K Q := by
 unfold Oper.wp execOp
 simp only [ho, resolve, invoke, builtin, Sem.run_bind, Sem.run_pure, Result.andThen_ok, List.map_toArray, List.map_cons, List.map_nil, hd, hs, hr]
 exact h
theorem z7w {W : World} {ops : Array Oper} {rest : List Oper} {o : Oper} {a : Act} {Q : Exit → Act → World → Prop} (hgd : o.guard = none) (d s : Operand) (t t' : TypeId)
  (ho : o.op = .call { callee := .builtin .copy, args := #[d, s], argTypes := #[t, t'] }) (v u : Value) (hd : a.eval d = v) (hs : a.eval s = u) {v' : Value} {w' : World}
  (hr : (Builtin.copy_ #[t, t'] o.type #[v, u]).run P W = .ok v' w') (h : wpList P ops Q rest (a.put o.dst v') w') : wpList P ops Q (o :: rest) a W :=
 wpList_plain hgd fun _ hK => zz0 d s t t' ho v u hd hs hr (hK _ _ h)
theorem zew {ops : Array Oper} {o : Oper} {a : Act} {W : World} {K : Act → World → Prop} {Q : Exit → Act → World → Prop} {E : Prop}
  (hg : o.guard = none) (d x : Operand) (dT sT : TypeId) (hop : o.op = Op.call { callee := Callee.builtin Builtin.copy, args := #[d, x], argTypes := #[dT, sT] })
  (v u : Value) (hd : a.eval d = v) (hx : a.eval x = u) {v' : Value} {w' : World} (hr : (Builtin.copy_ #[dT, sT] o.type #[v, u]).run P W = .ok v' w') (hK : K (a.put o.dst v') w') :
  if Region.wanted o (yielded ops a.tmps) = true then Oper.wp P o a W K Q else E := by
 have hw : Region.wanted o (yielded ops a.tmps) = true := by simp [Region.wanted, hg]
 rw [if_pos hw]
 unfold Oper.wp
 simp [execOp, hop, resolve, invoke, builtin, hd, hx, hr, Result.andThen]
 exact hK
theorem zz1 {α : Type} [Enc α] {f e sz : Nat} (hn : Enc.n α = sz) (hpos : 0 < sz) (hen : En P f)
  (hroom : ∀ (W : World) (g n cap i b off c : Nat) (vs cs : List Value), W.heap[g]? = some (.cells vs.toArray e (0, 0)) → n < cap → cap ≤ maxLen → vs.length = cap * sz → (∀ u ∈ vs.take (n * sz), u.oneCell' = true) → i < n → b ≠ g → cs.length = sz → (∀ j v, cs[j]? = some v → W.cell? ⟨b, off + j, none⟩ = some v) → (∀ v ∈ cs, v.oneCell' = true) →
   Calls P f #[.slice (some ⟨g, 0, none⟩) n cap, .int .i64 i, .slice (some ⟨b, off, none⟩) 1 c] W fun r W' => r = .returned (.slice (some ⟨g, 0, none⟩) (n + 1) cap) ∧ W' = ((W.drewN 1).setCells g ((i + 1) * sz) ((vs.take (n * sz)).drop (i * sz))).setCells g (i * sz) cs)
  (hend : ∀ (W : World) (base : Nat) (v : Value) (n b off c : Nat) (olds cs : List Value), W.ownsRow base e sz v n olds → base ≤ W.heap.size → n ≤ 1000000 → cs.length = sz → (∀ j v, cs[j]? = some v → W.cell? ⟨b, off + j, none⟩ = some v) → (∀ v ∈ cs, v.oneCell' = true) →
   Calls P f #[v, .int .i64 n, .slice (some ⟨b, off, none⟩) 1 c] W fun r W' => ∃ v', r = .returned v' ∧ W'.ownsRow base e sz v' (n + 1) (olds ++ cs) ∧ W.grownBy W' v.ownBlock ∧ (v'.ownBlock = v.ownBlock ∨ v'.ownBlock = some W.heap.size))
  (hgrow : ∀ (W : World) (g n cap i b off c : Nat) (vs cs : List Value), W.heap[g]? = some (.cells vs.toArray e (0, 0)) → n = cap → n ≤ 1000000 → vs.length = cap * sz → (∀ u ∈ vs.take (n * sz), u.oneCell' = true) → i < n → cs.length = sz → (∀ j v, cs[j]? = some v → W.cell? ⟨b, off + j, none⟩ = some v) → (∀ v ∈ cs, v.oneCell' = true) →
   Calls P f #[.slice (some ⟨g, 0, none⟩) n cap, .int .i64 i, .slice (some ⟨b, off, none⟩) 1 c] W fun r W' => ∃ G, ∃ row : List Value, n + 1 ≤ G ∧ G ≤ maxLen ∧ row.length = G * sz ∧ r = .returned (.slice (some ⟨W.heap.size, 0, none⟩) (n + 1) G) ∧ (∀ u ∈ row.take (i * sz), u.oneCell' = true) ∧ row.take (i * sz) = vs.take (i * sz) ∧
    W' = (((W.alloc (.cells row.toArray e)).drew.setCells W.heap.size (i * sz) cs).drew).setCells W.heap.size ((i + 1) * sz) ((vs.take (n * sz)).drop (i * sz))) :
  Meets P (spD (fun x : List α × Int × List α => 0 ≤ x.2.1 ∧ x.2.1 ≤ x.1.length ∧ x.1.length ≤ 1000000 ∧ x.2.2.length = 1) fun x => x.1.take x.2.1.toNat ++ x.2.2 ++ x.1.drop x.2.1.toNat) f ⟨[.mine e sz, .one, .one], [(false, [.fresh e sz])], false⟩ := by
 refine ⟨fun h => (by cases h), ?_⟩
 intro e' sz' ps hps
 injection hps with h1 h2
 injection h1 with h1 h1'
 subst h1; subst h1'; subst h2
 intro W F base v xs cells ds args rs hF hbase hvF hxs hown hreps hargs hsp
 obtain ⟨⟨l, i, ys⟩, ⟨hi0, hil, hlm, hy1⟩, he, rfl⟩ := z02 hsp
 have he' : Dt.l sz xs :: ds = Dt.l (Enc.n α) (l.map Enc.e) :: [I i, .l (Enc.n α) (ys.map Enc.e)] := he
 injection he' with g1 g2
 injection g1 with g3 g1
 subst g2; subst g1
 simp only at hi0 hil hlm hy1
 obtain ⟨y, rfl⟩ := List.length_eq_one_iff.1 hy1
 obtain ⟨va, vas, rfl, ha, hargs⟩ := z1r hargs
 obtain ⟨vb, vbs, rfl, hb, hargs⟩ := z1r hargs
 obtain rfl := z3d hargs
 obtain ⟨rfl, _⟩ := z1l ha
 obtain ⟨a, rfl⟩ : ∃ a : Nat, i = a := ⟨i.toNat, by omega⟩
 have hlen : (l.map Enc.e).length = l.length := List.length_map _
 have hyl : (Enc.e y).length = sz := by rw [Enc.len, hn]
 rw [hlen] at hown
 have hml : cells.length = l.length * sz := hown.1
 obtain ⟨b, off, c, cs, rfl, hFb, hcl, hcell, hcr⟩ : ∃ b off c, ∃ cs : List Value, vb = .slice (some ⟨b, off, none⟩) 1 c ∧ F b ∧ cs.length = sz ∧ (∀ j v, cs[j]? = some v → W.cell? ⟨b, off + j, none⟩ = some v) ∧ Reps W F (Enc.e y) cs := by
  generalize hd : Dt.l (Enc.n α) ([y].map Enc.e) = d at hb
  cases hb with
  | l sz0 zs A n c b o vs k0 k1 k2 k3 k4 k5 k6 =>
   injection hd with e1 e2
   subst e2
   obtain ⟨rfl, hFb⟩ := k4 (by simp)
   refine ⟨b, o, c, (List.range sz).map (vs 0), by rw [k0]; rfl, hFb, by simp, fun j v hv => ?_, Reps.of (by simp [hyl]) fun j d v hd hv => ?_⟩
   ·obtain ⟨hj, rfl⟩ := z1b hv
    have h := k5 0 j (Enc.e y) _ rfl (List.getElem?_eq_getElem (by omega))
    rwa [Nat.zero_mul, Nat.add_zero] at h
   ·obtain ⟨hj, rfl⟩ := z1b hv
    exact k6 0 j (Enc.e y) d rfl hd
  | _ => cases hd
 have hc1 : ∀ v ∈ cs, v.oneCell' = true := hcr.one
 refine ⟨(l.take a ++ [y] ++ l.drop a).map Enc.e, ?_, fun x hx => ?_, ?_⟩
 ·show [Dt.l (Enc.n α) _] = _
  rw [hn]; rfl
 ·obtain ⟨z, _, rfl⟩ := List.mem_map.1 hx
  rw [Enc.len, hn]
 have hl2 : ((l.take a ++ [y] ++ l.drop a).map (Enc.e (α := α))).length = l.length + 1 := by
  rw [List.length_map, List.length_append, List.length_append, List.length_take, List.length_drop, List.length_singleton]; omega
 have hflat : ((l.take a ++ [y] ++ l.drop a).map (Enc.e (α := α))).flatten = (l.map Enc.e).flatten.take (a * sz) ++ Enc.e y ++ (l.map Enc.e).flatten.drop (a * sz) := by
  rw [List.map_append, List.map_append, List.map_take, List.map_drop, List.flatten_append, List.flatten_append, zc4 a hxs, zh5 a hxs]
  simp
 rw [hl2, hflat]
 have hle3 : a * sz ≤ l.length * sz := Nat.mul_le_mul_right _ (by omega)
 have hnew : ∀ {W' : World}, Agree F W W' → Reps W' F ((l.map Enc.e).flatten.take (a * sz) ++ Enc.e y ++ (l.map Enc.e).flatten.drop (a * sz)) (cells.take (a * sz) ++ cs ++ cells.drop (a * sz)) := fun hag => (((hreps.take (a * sz)).append hcr).append (hreps.drop (a * sz))).mono hag (fun _ h => h)
 have hnl : (cells.take (a * sz) ++ cs ++ cells.drop (a * sz)).length = (l.length + 1) * sz := by
  rw [List.length_append, List.length_append, List.length_take, List.length_drop, hcl, hml, Nat.min_eq_left hle3, Nat.succ_mul]; omega
 by_cases hend' : a = l.length
 ·subst hend'
  refine .inl ⟨hen.run _ _, (hend W base v l.length b off c cells cs hown hbase (by omega) hcl hcell hc1).mono ?_⟩
  rintro r W' ⟨v', rfl, q1, q2, q3⟩
  have hag : Agree F W W' := fun k hk => q2.block k (hF.1 k hk) fun h => hvF k h.symm hk
  refine ⟨_, rfl, v', _, ⟨fun h => (by cases h), fun _ => rfl⟩, q2, ?_, hnew hag, fun k hk => ?_⟩
  ·rw [List.take_of_length_le (by omega), List.drop_of_length_le (by omega), List.append_nil]; exact q1
  ·rcases q3 with q3 | q3
   ·exact .inl (q3 ▸ hk)
   ·rw [q3] at hk; injection hk with hk; exact .inr (Nat.le_of_eq hk)
 ·rcases hown.2 with ⟨rfl, h0⟩ | ⟨g, cap, cur, rfl, hbg, hg, h1, h2, hcs, htk⟩
  ·omega
  ·have hcs' : cur.toList.length = cap * sz := by simpa using hcs
   have hones : ∀ u ∈ cur.toList.take (l.length * sz), u.oneCell' = true := by rw [htk]; exact hreps.one
   have hgF : ¬ F g := hvF g rfl
   have hbg' : b ≠ g := fun h => hgF (h ▸ hFb)
   have hg' : W.heap[g]? = some (.cells cur.toList.toArray e (0, 0)) := by simpa using hg
   have hal : a < l.length := by omega
   have hmvl : ((cur.toList.take (l.length * sz)).drop (a * sz)).length = (l.length - a) * sz := by rw [htk, List.length_drop, hml, Nat.sub_mul]
   have e1 : (a + 1) * sz = a * sz + sz := Nat.succ_mul ..
   have e2 : (a + 1) * sz + (l.length - a) * sz = (l.length + 1) * sz := by rw [← Nat.add_mul]; congr 1; omega
   have hsplit : ∀ vs' : List Value, (l.length + 1) * sz ≤ vs'.length → vs'.take (a * sz) = cells.take (a * sz) → (z0p (z0p vs' ((a + 1) * sz) ((cur.toList.take (l.length * sz)).drop (a * sz))) (a * sz) cs).take ((l.length + 1) * sz) = cells.take (a * sz) ++ cs ++ cells.drop (a * sz) := by
    intro vs' hl' ht'
    have k1 : a * sz + cs.length ≤ (z0p vs' ((a + 1) * sz) ((cur.toList.take (l.length * sz)).drop (a * sz))).length := by rw [z0t]; omega
    rw [z63 k1, z63 (by rw [hmvl]; omega), hcl, hmvl, e2, htk]
    have k2 : (vs'.take ((a + 1) * sz) ++ cells.drop (a * sz) ++ vs'.drop ((l.length + 1) * sz)).take (a * sz) = cells.take (a * sz) := by
     rw [List.append_assoc, List.take_append_of_le_length (by rw [List.length_take]; omega), List.take_take, Nat.min_eq_left (by omega), ht']
    have k3 : (vs'.take ((a + 1) * sz) ++ cells.drop (a * sz) ++ vs'.drop ((l.length + 1) * sz)).drop (a * sz + sz) = cells.drop (a * sz) ++ vs'.drop ((l.length + 1) * sz) := by
     rw [List.append_assoc, List.drop_append, List.drop_of_length_le (by rw [List.length_take]; omega), List.length_take, Nat.min_eq_left (by omega), e1, Nat.sub_self, List.nil_append, List.drop_zero]
    rw [k2, k3, ← List.append_assoc, List.take_append_of_le_length (by rw [hnl]; omega), List.take_of_length_le (by rw [hnl]; omega)]
   rcases Nat.lt_or_ge l.length cap with hr | hr
   ·have hcapm : (l.length + 1) * sz ≤ cap * sz := Nat.mul_le_mul_right _ hr
    refine .inl ⟨hen.run _ _, (hroom W g l.length cap a b off c cur.toList cs hg' hr h2 hcs' hones hal hbg' hcl hcell hc1).mono ?_⟩
    rintro r W' ⟨rfl, rfl⟩
    have hfar : ∀ k, k ≠ g → (((W.drewN 1).setCells g ((a + 1) * sz) ((cur.toList.take (l.length * sz)).drop (a * sz))).setCells g (a * sz) cs).heap[k]? = W.heap[k]? := by
     intro k hk
     rw [z16 g _ _ _ k hk, z16 g _ _ _ k hk]
     rfl
    have hag : Agree F W (((W.drewN 1).setCells g ((a + 1) * sz) ((cur.toList.take (l.length * sz)).drop (a * sz))).setCells g (a * sz) cs) := fun k hk => hfar k fun h => hgF (h ▸ hk)
    refine ⟨_, rfl, _, _, ⟨fun h => (by cases h), fun _ => rfl⟩, ?_, ⟨hnl, .inr ⟨g, cap, _, rfl, hbg, z0x cs (a * sz) _ _ (z0x _ ((a + 1) * sz) (W.drewN 1) _ hg'), hr, h2, by rw [List.size_toArray, z0t, z0t]; exact hcs', ?_⟩⟩, hnew hag, fun _ h => .inl h⟩
    ·obtain ⟨k1, k2, k3, k4⟩ := z22 g cs (a * sz) ((W.drewN 1).setCells g ((a + 1) * sz) ((cur.toList.take (l.length * sz)).drop (a * sz)))
     obtain ⟨q1, q2, q3, q4⟩ := z22 g ((cur.toList.take (l.length * sz)).drop (a * sz)) ((a + 1) * sz) (W.drewN 1)
     exact ⟨k1.trans q1, k2.trans q2, k3.trans q3, by rw [k4, q4]; exact Nat.le_refl _, fun k hk hne => hfar k fun h => hne (by rw [h]; rfl)⟩
    ·rw [List.toList_toArray]
     refine hsplit _ (by omega) ?_
     rw [← htk, List.take_take, Nat.min_eq_left hle3]
   ·have hcap : l.length = cap := by omega
    refine .inl ⟨hen.run _ _, (hgrow W g l.length cap a b off c cur.toList cs hg' hcap (by omega) hcs' hones hal hcl hcell hc1).mono ?_⟩
    rintro r W' ⟨G, row, r1, r2, r3, rfl, r4, r5, rfl⟩
    have hGm : (l.length + 1) * sz ≤ G * sz := Nat.mul_le_mul_right _ r1
    generalize hW0 : (W.alloc (.cells row.toArray e)).drew = W0
    have hs0 : W0.heap.size = W.heap.size + 1 := by rw [← hW0]; show (W.heap.push _).size = _; simp
    have hn0 : W0.heap[W.heap.size]? = some (.cells row.toArray e (0, 0)) := by rw [← hW0]; exact heap_alloc_new W _
    have ho0 : ∀ k, k < W.heap.size → W0.heap[k]? = W.heap[k]? := fun k hk => by
     rw [← hW0]
     show (W.alloc (.cells row.toArray e)).heap[k]? = _
     simp only [World.alloc, Array.getElem?_push, Nat.ne_of_lt hk, if_false]
    have hfar : ∀ k, k < W.heap.size → (((W0.setCells W.heap.size (a * sz) cs).drew).setCells W.heap.size ((a + 1) * sz) ((cur.toList.take (l.length * sz)).drop (a * sz))).heap[k]? = W.heap[k]? := by
     intro k hk
     rw [z16 _ _ _ _ k (by omega)]
     show (W0.setCells W.heap.size (a * sz) cs).heap[k]? = _
     rw [z16 _ _ _ _ k (by omega), ho0 k hk]
    obtain ⟨z1, z2, z3⟩ : W0.os = W.os ∧ W0.tape = W.tape ∧ W0.output = W.output := by rw [← hW0]; exact ⟨rfl, rfl, rfl⟩
    have hag : Agree F W (((W0.setCells W.heap.size (a * sz) cs).drew).setCells W.heap.size ((a + 1) * sz) ((cur.toList.take (l.length * sz)).drop (a * sz))) := fun k hk => hfar k (hF.1 k hk)
    have hheap := z0x ((cur.toList.take (l.length * sz)).drop (a * sz)) ((a + 1) * sz) ((W0.setCells W.heap.size (a * sz) cs).drew) _ (z0x cs (a * sz) W0 _ hn0)
    refine ⟨_, rfl, _, _, ⟨fun h => (by cases h), fun _ => rfl⟩, ?_, ⟨hnl, .inr ⟨W.heap.size, G, _, rfl, hbase, hheap, r1, r2, by rw [List.size_toArray, z0t, z0t]; exact r3, ?_⟩⟩, hnew hag, fun k hk => ?_⟩
    ·obtain ⟨k1, k2, k3, k4⟩ := z22 W.heap.size ((cur.toList.take (l.length * sz)).drop (a * sz)) ((a + 1) * sz) ((W0.setCells W.heap.size (a * sz) cs).drew)
     obtain ⟨q1, q2, q3, q4⟩ := z22 W.heap.size cs (a * sz) W0
     refine ⟨k1.trans (q1.trans z1), k2.trans (q2.trans z2), k3.trans (q3.trans z3), ?_, fun k hk hne => hfar k hk⟩
     rw [k4]
     show W.heap.size ≤ (W0.setCells W.heap.size (a * sz) cs).heap.size
     rw [q4, hs0]; omega
    ·rw [List.toList_toArray]
     have hswap : z0p (z0p row (a * sz) cs) ((a + 1) * sz) ((cur.toList.take (l.length * sz)).drop (a * sz)) = z0p (z0p row ((a + 1) * sz) ((cur.toList.take (l.length * sz)).drop (a * sz))) (a * sz) cs := by
      have hL : a * sz + cs.length ≤ row.length := by omega
      have hR : (a + 1) * sz + ((cur.toList.take (l.length * sz)).drop (a * sz)).length ≤ row.length := by rw [hmvl]; omega
      rw [z63 (vs := z0p row (a * sz) cs) (by rw [z0t]; exact hR), z63 hL, z63 (vs := z0p row ((a + 1) * sz) _) (by rw [z0t]; exact hL), z63 hR]
      have t1 : (row.take (a * sz) ++ cs ++ row.drop (a * sz + cs.length)).take ((a + 1) * sz) = row.take (a * sz) ++ cs := by
       rw [List.take_append_of_le_length (by rw [List.length_append, List.length_take]; omega), List.take_of_length_le (by rw [List.length_append, List.length_take]; omega)]
      have t2 : (row.take (a * sz) ++ cs ++ row.drop (a * sz + cs.length)).drop ((a + 1) * sz + ((cur.toList.take (l.length * sz)).drop (a * sz)).length) = row.drop ((a + 1) * sz + ((cur.toList.take (l.length * sz)).drop (a * sz)).length) := by
       rw [List.drop_append, List.drop_of_length_le (by rw [List.length_append, List.length_take]; omega), List.nil_append, List.drop_drop]
       congr 1
       rw [List.length_append, List.length_take]; omega
      have t3 : (row.take ((a + 1) * sz) ++ ((cur.toList.take (l.length * sz)).drop (a * sz)) ++ row.drop ((a + 1) * sz + ((cur.toList.take (l.length * sz)).drop (a * sz)).length)).take (a * sz) = row.take (a * sz) := by
       rw [List.append_assoc, List.take_append_of_le_length (by rw [List.length_take]; omega), List.take_take, Nat.min_eq_left (by omega)]
      have t4 : (row.take ((a + 1) * sz) ++ ((cur.toList.take (l.length * sz)).drop (a * sz)) ++ row.drop ((a + 1) * sz + ((cur.toList.take (l.length * sz)).drop (a * sz)).length)).drop (a * sz + cs.length) = ((cur.toList.take (l.length * sz)).drop (a * sz)) ++ row.drop ((a + 1) * sz + ((cur.toList.take (l.length * sz)).drop (a * sz)).length) := by
       rw [List.append_assoc, List.drop_append, List.drop_of_length_le (by rw [List.length_take]; omega), List.nil_append, List.length_take, Nat.min_eq_left (by omega), hcl, e1, Nat.sub_self, List.drop_zero]
      rw [t1, t2, t3, t4, List.append_assoc, List.append_assoc]
     rw [hswap]
     refine hsplit _ (by omega) ?_
     rw [r5, ← htk, List.take_take, Nat.min_eq_left hle3]
    ·simp only [Value.ownBlock, Option.some.injEq] at hk
     exact .inr (Nat.le_of_eq hk)
end
end
section
open Go.RowKit
set_option maxRecDepth 100000
set_option maxHeartbeats 4000000
theorem z01i {W : World} {g n cap i j : Nat} {vs : List Value} (hg : W.heap[g]? = some (.cells vs.toArray 63 (0, 0))) (hn : n ≤ cap) (hm : cap ≤ maxLen) (hcs : vs.length = cap * 6) (h1 : ∀ u ∈ vs.take (n * 6), u.oneCell' = true) (hij : i < j) (hj : j ≤ n) :
  Calls Tryd.prog 71 #[.slice (some ⟨g, 0, none⟩) n cap, .int .i64 i, .int .i64 j] W fun e w' => e = .returned (.slice (some ⟨g, 0, none⟩) (n - (j - i)) cap) ∧
   w' = ((W.drewN 1).setCells g (i * 6) ((vs.take (n * 6)).drop (j * 6))).setCells g ((i + (n - j)) * 6) (Builtin.zeroCells #[.int .i64 0, .int .i64 0, .int .i64 0, .slice none 0 0, .int .i64 0, .bool false] (j - i)).toList := by
 have hm' : cap ≤ 9223372036854775807 := hm
 obtain ⟨news, hnews⟩ : ∃ news, news = (vs.take (n * 6)).drop (j * 6) := ⟨_, rfl⟩
 have hlen : news.length = (n - j) * 6 := by rw [hnews, List.length_drop, List.length_take]; omega
 have hg1 : W.drew.heap[g]? = some (.cells vs.toArray 63 (0, 0)) := hg
 obtain ⟨A, hA, hsrc⟩ : ∃ A : Addr, (if cap = j then some (⟨g, 0, none⟩ : Addr) else some ⟨g, j * 6, none⟩) = some A ∧ Hid (∀ t u, news[t]? = some u → W.drew.cell? (A.add t) = some u) := by
  by_cases h : cap = j
  ·refine ⟨⟨g, 0, none⟩, by simp [h], fun t u hu => ?_⟩
   have := (List.getElem?_eq_some_iff.1 hu).1
   omega
  ·refine ⟨⟨g, j * 6, none⟩, by simp [h], fun t u hu => ?_⟩
   have ht := (List.getElem?_eq_some_iff.1 hu).1
   rw [hnews, List.getElem?_drop, List.getElem?_take, if_pos (by omega)] at hu
   rw [z58, cell_of_row _ g _ _ 63 (0, 0) hg1]
   simpa using hu
 have s1 : Hid (news.length = (n - j) * 6) := hlen
 have s2 : Hid (∀ u ∈ news, u.oneCell' = true) := by
  intro u hu
  rw [hnews] at hu
  exact h1 u (List.mem_of_mem_drop hu)
 have s3 : Hid (∀ t, t < news.length → (W.drew.cell? ⟨g, 0 + i * 6 + t, none⟩).isSome = true ∧ W.drew.frozen? ⟨g, 0 + i * 6 + t, none⟩ = false) := by
  intro t ht
  have := zcg (fr := (0, 0)) hg1 (o := 0 + i * 6) (n := news.length) (by omega)
  exact this t ht
 obtain ⟨W1, hW1⟩ : ∃ W1, W1 = W.drew.setCells g (0 + i * 6) news := ⟨_, rfl⟩
 have hg2 : W1.heap[g]? = some (.cells (z0p vs (0 + i * 6) news).toArray 63 (0, 0)) := by rw [hW1]; exact z0x _ _ _ _ hg1
 have hcl : ∀ ty, (Builtin.clear_ #[39] ty #[.slice (some ⟨g, (i + (n - j)) * 6, none⟩) (n - (i + (n - j))) (cap - (i + (n - j)))]).run Tryd.prog W1 = .ok (.tuple #[]) (W1.setCells g ((i + (n - j)) * 6) (Builtin.zeroCells #[.int .i64 0, .int .i64 0, .int .i64 0, .slice none 0 0, .int .i64 0, .bool false] (n - (i + (n - j)))).toList) :=
  fun ty => zyx (sz := 6) Tryd.underlying39 Tryd.zeroValue63 rfl (by simp [Value.cells, Value.oneCell']) hg2 (by rw [z0t]; omega)
 have hW : Hid (W1 = W.drew.setCells g (0 + i * 6) news) := hW1
 have hic : i ≤ cap := by omega
 have hjc : j ≤ cap := by omega
 have hnews := Lib.hid hnews
 clear hW1 hg2 hg hg1 hlen
 go_enter Tryd.func71, Tryd.ntmps71
 go_wp2_with fail
 obtain ⟨ht, ie, zv, he, hz0, hsz, hbz, hzs⟩ := zii
 go_region_law (refine step_append_room rfl (.tmp 22) (.tmp 25) 39 rfl 63 ie 6 ht he hsz g 0 i cap (by simp [Act.eval, Act.put]) A (n - j) (cap - j) news (by simp [Act.eval, Act.put, hA]) s1.out hsrc.out s2.out (by omega) s3.out ?_; rw [← hW.out])
 go_wp2
 go_ret
 refine ⟨by rw [show n - (j - i) = i + (n - j) by omega]; rfl, ?_⟩
 rw [hW.out, Nat.zero_add, hnews.out, show n - (i + (n - j)) = j - i by omega]
 rfl
theorem z01j {W : World} {A : Option Addr} {n cap i : Nat} (hi : i ≤ n) (hn : n ≤ cap) (hm : cap ≤ maxLen) : Calls Tryd.prog 71 #[.slice A n cap, .int .i64 i, .int .i64 i] W fun r W' => r = .returned (.slice A n cap) ∧ W' = W := by
 have hm' : cap ≤ 9223372036854775807 := hm
 have hic : i ≤ cap := by omega
 go_enter Tryd.func71, Tryd.ntmps71
 go_wp2_with fail
 all_goals (go_ret; exact ⟨rfl, rfl⟩)
noncomputable def z8f : z9 := spD (fun x : List Coin × Int × Int => 0 ≤ x.2.1 ∧ x.2.1 ≤ x.2.2 ∧ x.2.2 ≤ x.1.length) fun x => x.1.take x.2.1.toNat ++ x.1.drop x.2.2.toNat
theorem zz2 : Meets Tryd.prog z8f 71 ⟨[.mine 63 6, .one, .one], [(false, [.fresh 63 6])], false⟩ :=
 zyy rfl (by decide) (z3a (fn := Tryd.f71) (by kernel_rfl) (by kernel_rfl) (by kernel_rfl)) #[.int .i64 0, .int .i64 0, .int .i64 0, .slice none 0 0, .int .i64 0, .bool false] rfl (fun W A n cap i h1 h2 h3 => z01j h1 h2 h3) (fun W g n cap i j vs h1 h2 h3 h4 h5 h6 h7 => z01i h1 h2 h3 h4 h5 h6 h7)
end
section
open Go.RowKit
set_option maxRecDepth 100000
set_option maxHeartbeats 4000000
theorem z01k {W : World} {g o b off la ca lb cb : Nat} {vs : List Value} (hg : W.heap[g]? = some (.cells vs.toArray 63 (0, 0))) (hvs : 0 < vs.length) (hne : b ≠ g) {u : Value} (hb : W.cell? ⟨b, off, none⟩ = some u) :
  (callFunc 74 #[.slice (some ⟨b, off, none⟩) la ca, .slice (some ⟨g, o, none⟩) lb cb]).run Tryd.prog W = .ok (.value (.bool false)) W := by
 rw [run_callFunc_extern Tryd.func74 (by kernel_rfl) (by kernel_rfl) (by kernel_rfl) (e := Extern.SlicesOverlaps.overlaps #[39, 39] #[4]) (by kernel_rfl),
  zqr (e := 63) (sz := 6) Tryd.underlying39 Tryd.sizeOf63 hg hvs hne hb]
 rfl
theorem z01l {W : World} {g n cap i b off c : Nat} {vs cs : List Value} (hg : W.heap[g]? = some (.cells vs.toArray 63 (0, 0))) (hn : n < cap) (hm : cap ≤ maxLen) (hcs : vs.length = cap * 6) (h1 : ∀ u ∈ vs.take (n * 6), u.oneCell' = true) (hi : i < n) (hne : b ≠ g) (hcl : cs.length = 6) (hb : ∀ j v, cs[j]? = some v → W.cell? ⟨b, off + j, none⟩ = some v) (h1c : ∀ v ∈ cs, v.oneCell' = true) :
  Calls Tryd.prog 62 #[.slice (some ⟨g, 0, none⟩) n cap, .int .i64 i, .slice (some ⟨b, off, none⟩) 1 c] W fun r W' => r = .returned (.slice (some ⟨g, 0, none⟩) (n + 1) cap) ∧ W' = ((W.drewN 1).setCells g ((i + 1) * 6) ((vs.take (n * 6)).drop (i * 6))).setCells g (i * 6) cs := by
 have hm' : cap ≤ 9223372036854775807 := hm
 obtain ⟨mv, hmv⟩ : ∃ mv, mv = (vs.take (n * 6)).drop (i * 6) := ⟨_, rfl⟩
 have hlen : mv.length = (n - i) * 6 := by rw [hmv, List.length_drop, List.length_take]; omega
 have hg1 : W.drew.heap[g]? = some (.cells vs.toArray 63 (0, 0)) := hg
 obtain ⟨u0, hu0⟩ : ∃ u, W.cell? ⟨b, off, none⟩ = some u := by
  have h := hb 0 (cs[0]'(by omega)) (List.getElem?_eq_getElem (by omega))
  exact ⟨_, h⟩
 have hov : ∀ lb cb, (callFunc 74 #[.slice (some ⟨b, off, none⟩) 1 c, .slice (some ⟨g, (i + 1) * 6, none⟩) lb cb]).run Tryd.prog W = .ok (.value (.bool false)) W := fun lb cb => z01k hg (by omega) hne hu0
 have hsz : (Tryd.prog.info? 63).map (·.size) = some 6 := by kernel_rfl
 have hcp1 : ∀ ty dc sc, (Builtin.copy_ #[39, 39] ty #[.slice (some ⟨g, (i + 1) * 6, none⟩) (n - i) dc, .slice (some ⟨g, i * 6, none⟩) (n + 1 - i) sc]).run Tryd.prog W.drew = .ok (goInt (Nat.min (n + 1 - i) (n - i) : Nat)) (W.drew.setCells g ((i + 1) * 6) mv) := fun ty dc sc =>
  zc3 Tryd.underlying39 hsz hg1 (by rw [hlen]; show _ = min _ _ * 6; rw [Nat.min_def]; split <;> omega) (fun j v hj => by
   rw [z58, cell_of_row _ g _ _ 63 (0, 0) hg1]
   have hlt := (List.getElem?_eq_some_iff.1 hj).1
   rw [hmv, List.getElem?_drop, List.getElem?_take, if_pos (by omega)] at hj
   simpa using hj) (by omega) (fun v hv => h1 v (by rw [hmv] at hv; exact List.mem_of_mem_drop hv))
 obtain ⟨W1, hW1⟩ : ∃ W1, W1 = W.drew.setCells g ((i + 1) * 6) mv := ⟨_, rfl⟩
 have hg2 : W1.heap[g]? = some (.cells (z0p vs ((i + 1) * 6) mv).toArray 63 (0, 0)) := by rw [hW1]; exact z0x _ _ _ _ hg1
 have hcp2 : ∀ ty dc, (Builtin.copy_ #[39, 39] ty #[.slice (some ⟨g, i * 6, none⟩) (n + 1 - i) dc, .slice (some ⟨b, off, none⟩) 1 c]).run Tryd.prog W1 = .ok (goInt (Nat.min 1 (n + 1 - i) : Nat)) (W1.setCells g (i * 6) cs) := fun ty dc =>
  zc3 Tryd.underlying39 hsz hg2 (by rw [hcl]; show _ = min _ _ * 6; rw [Nat.min_def]; split <;> omega) (fun j v hj => by
   rw [z58, hW1, zyz hne]
   exact hb j v hj) (by rw [z0t]; omega) h1c
 rw [← hW1] at hcp1
 have hw1 : IntKind.i64.wrap ((i : Int) + 1) = (i : Int) + 1 := by rw [IntKind.wrap_i64]; omega
 have hw2 : IntKind.i64.wrap ((n : Int) + 1) = (n : Int) + 1 := by rw [IntKind.wrap_i64]; omega
 have hz2 : ¬ ((i : Int) = (n : Int)) := by omega
 have hp1 : (i : Int) ≤ (n : Int) + 1 := by omega
 have hp0 : (0 : Int) ≤ (i : Int) + 1 := by omega
 have hb1 : ¬ (cap = i + 1) := by omega
 have hb4 : ¬ (cap = i) := by omega
 have hin : i ≤ n := by omega
 have hic : i ≤ cap := by omega
 have hW := Lib.hid hW1
 have hmv' := Lib.hid hmv
 clear hmv hlen hg hg1 hg2 hW1 hcs h1 hb h1c hcl hu0
 go_enter Tryd.func62, Tryd.ntmps62
 go_wp2_with (simp only [hov])
 go_region_law (refine zew rfl _ _ 39 39 rfl _ _ (by simp [Act.eval, Act.put]) (by simp [Act.eval, Act.put]) (hcp1 _ _ _) ?_)
 go_wp2_with (at_builtin; refine z7w rfl _ _ 39 39 rfl _ _ rfl rfl (hcp2 _ _) ?_)
 go_ret
 refine ⟨rfl, ?_⟩
 rw [hW.out, hmv'.out]
 rfl
theorem z03z {W : World} {base : Nat} {v : Value} {n b off c : Nat} {olds cs : List Value} (hown : W.ownsRow base 63 6 v n olds) (hbase : base ≤ W.heap.size) (hn : n ≤ 1000000) (hcl : cs.length = 6) (hb : ∀ j v, cs[j]? = some v → W.cell? ⟨b, off + j, none⟩ = some v) (h1c : ∀ v ∈ cs, v.oneCell' = true) :
  Calls Tryd.prog 62 #[v, .int .i64 n, .slice (some ⟨b, off, none⟩) 1 c] W fun r W' => ∃ v', r = .returned v' ∧ W'.ownsRow base 63 6 v' (n + 1) (olds ++ cs) ∧ W.grownBy W' v.ownBlock ∧ (v'.ownBlock = v.ownBlock ∨ v'.ownBlock = some W.heap.size) := by
 obtain ⟨ht, ie, zv, he, hz0, hsz, hbz, hzs⟩ := zii
 have hrun : ∀ ty, ∃ v' W', (Builtin.append_ #[39, 39] ty #[v, .slice (some ⟨b, off, none⟩) 1 c]).run Tryd.prog W = .ok v' W' ∧ W'.ownsRow base 63 6 v' (n + 1) (olds ++ cs) ∧ W.grownBy W' v.ownBlock ∧ (v'.ownBlock = v.ownBlock ∨ v'.ownBlock = some W.heap.size) := fun ty => by
  obtain ⟨v', W', hr, h2, h3, _, h5⟩ := run_append_own_at (P := Tryd.prog) W base 39 ty 63 ie zv 6 64 ht he hz0 hsz hbz hzs (by decide) v n olds hown ⟨b, off, none⟩ 1 c cs (by omega) (fun j u hj => by rw [z58]; exact hb j u hj) h1c (by unfold maxLen; omega) (by omega) hbase
  exact ⟨v', W', hr, h2, h3, h5⟩
 obtain ⟨v', W', hr, h2, h3, h4⟩ := hrun 39
 have hv : ∃ A cap, v = .slice A n cap ∧ n ≤ cap ∧ cap ≤ maxLen := by
  rcases hown.2 with ⟨rfl, h0⟩ | ⟨g, cap, cur, rfl, _, _, h1, h2, _⟩
  ·exact ⟨none, 0, by rw [h0], by omega, by unfold maxLen; omega⟩
  ·exact ⟨_, cap, rfl, h1, h2⟩
 obtain ⟨A, cap, rfl, hc1, hc2⟩ := hv
 have hc3 : cap ≤ 9223372036854775807 := hc2
 have R := Lib.hid (And.intro h2 (And.intro h3 h4))
 clear h2 h3 h4 hown hrun hb h1c hcl hbase
 go_enter Tryd.func62, Tryd.ntmps62
 go_wp2_with (at_builtin; refine Lib.wpList_append_run _ rfl _ _ _ _ rfl _ _ rfl rfl _ _ hr ?_)
 all_goals (go_ret; have R' := R.out; first | exact ⟨v', rfl, R'⟩ | (subst_vars; exact ⟨v', rfl, R'⟩) | (cases A <;> exact ⟨v', rfl, R'⟩))
theorem z01m {W : World} {g n cap i b off c : Nat} {vs cs : List Value} (hg : W.heap[g]? = some (.cells vs.toArray 63 (0, 0))) (hn : n = cap) (hm : n ≤ 1000000) (hcs : vs.length = cap * 6) (h1 : ∀ u ∈ vs.take (n * 6), u.oneCell' = true) (hi : i < n) (hcl : cs.length = 6) (hb : ∀ j v, cs[j]? = some v → W.cell? ⟨b, off + j, none⟩ = some v) (h1c : ∀ v ∈ cs, v.oneCell' = true) :
  Calls Tryd.prog 62 #[.slice (some ⟨g, 0, none⟩) n cap, .int .i64 i, .slice (some ⟨b, off, none⟩) 1 c] W fun r W' => ∃ G, ∃ row : List Value, n + 1 ≤ G ∧ G ≤ maxLen ∧ row.length = G * 6 ∧ r = .returned (.slice (some ⟨W.heap.size, 0, none⟩) (n + 1) G) ∧ (∀ u ∈ row.take (i * 6), u.oneCell' = true) ∧ row.take (i * 6) = vs.take (i * 6) ∧
   W' = (((W.alloc (.cells row.toArray 63)).drew.setCells W.heap.size (i * 6) cs).drew).setCells W.heap.size ((i + 1) * 6) ((vs.take (n * 6)).drop (i * 6)) := by
 obtain ⟨ht, ie, zv, he, hz0, hszI, hbz, hzs⟩ := zii
 have hz1 : ¬ ((1 : Int) = 0) := by decide
 have hz2 : ¬ ((i : Int) = (n : Int)) := by omega
 have hz3 : (cap : Int) < (n : Int) + 1 := by omega
 have hsz : (Tryd.prog.info? 63).map (·.size) = some 6 := by kernel_rfl
 have hgl : g < W.heap.size := by
  rcases Nat.lt_or_ge g W.heap.size with h | h
  ·exact h
  ·rw [Array.getElem?_eq_none h] at hg; cases hg
 have hbl : b < W.heap.size := block_lt_of_cell (hb 0 _ (List.getElem?_eq_getElem (by omega)))
 have hkk : (n : Int) + 1 - (i : Int) = ((n + 1 - i : Nat) : Int) := by omega
 have hik : i + (n + 1 - i) = n + 1 := by omega
 have hg1 : W.drew.heap[g]? = some (.cells vs.toArray 63 (0, 0)) := hg
 have hold : (Builtin.firstCells ie.size i (.slice (some ⟨g, 0, none⟩) i cap)).run Tryd.prog W.drew = .ok (vs.take (i * 6)).toArray W.drew := by
  rw [hszI]
  exact run_firstCells_some W.drew 6 i ⟨g, 0, none⟩ i cap (vs.take (i * 6)) (by rw [List.length_take]; omega) (fun j v hj => by
   rw [z58, cell_of_row _ g _ _ 63 (0, 0) hg1]
   rw [List.getElem?_take] at hj
   split at hj
   ·simpa using hj
   ·cases hj)
 have hrz : ∀ ty, (Builtin.append_ #[39, 3] ty #[.slice (some ⟨g, 0, none⟩) i cap, .int .i64 ((n : Int) + 1 - (i : Int))]).run Tryd.prog W =
   .ok (.slice (some ⟨W.heap.size, 0, none⟩) (n + 1) (grownCap W (n + 1) cap 63)) (W.drew.alloc (.cells ((vs.take (i * 6)).toArray ++ Builtin.zeroCells zv.cells (n + 1 - i) ++ Builtin.zeroCells zv.cells (grownCap W (n + 1) cap 63 - (n + 1))) 63)) := fun ty => by
  have h := Lib.run_append_grow_zeros W 39 3 ty 63 ie zv .i64 .i64 ht Tryd.underlying3 he hz0 (some ⟨g, 0, none⟩) i cap (vs.take (i * 6)) hold (n + 1 - i) (by omega) (by omega) (by omega) (by omega) (by rw [hbz]; omega) (by rw [hbz, hik]; exact growslice_fits (by omega) (by omega))
  rw [hik] at h
  rw [hkk]
  exact h
 obtain ⟨G, hG⟩ : ∃ G, G = grownCap W (n + 1) cap 63 := ⟨_, rfl⟩
 obtain ⟨row, hrow⟩ : ∃ row : List Value, row = vs.take (i * 6) ++ (Builtin.zeroCells zv.cells (n + 1 - i)).toList ++ (Builtin.zeroCells zv.cells (G - (n + 1))).toList := ⟨_, rfl⟩
 have hrowA : row.toArray = (vs.take (i * 6)).toArray ++ Builtin.zeroCells zv.cells (n + 1 - i) ++ Builtin.zeroCells zv.cells (G - (n + 1)) := by rw [hrow]; simp
 rw [← hG, ← hrowA] at hrz
 have hGn : n + 1 ≤ G := by rw [hG]; exact grownCap_ge W _ _ _
 have hGm : G ≤ maxLen := by rw [hG]; exact grownCap_le_maxLen W (n + 1) cap 63 (by unfold maxLen; omega)
 have hG63 : G ≤ 9223372036854775807 := hGm
 have hrl : row.length = G * 6 := by
  rw [hrow]
  simp only [List.length_append, List.length_take, Array.length_toList, Builtin.zeroCells, Array.size_map, Array.size_range, hzs]
  omega
 have hrt : row.take (i * 6) = vs.take (i * 6) := by
  rw [hrow, List.append_assoc, List.take_append_of_le_length (by rw [List.length_take]; omega), List.take_take, Nat.min_self]
 obtain ⟨mv, hmv⟩ : ∃ mv, mv = (vs.take (n * 6)).drop (i * 6) := ⟨_, rfl⟩
 have hlen : mv.length = (n - i) * 6 := by rw [hmv, List.length_drop, List.length_take]; omega
 have hcpA : ∀ (W' : World), W'.heap[W.heap.size]? = some (.cells row.toArray 63 (0, 0)) → (∀ k v, W.cell? ⟨b, k, none⟩ = some v → W'.cell? ⟨b, k, none⟩ = some v) → ∀ ty dc, (Builtin.copy_ #[39, 39] ty #[.slice (some ⟨W.heap.size, i * 6, none⟩) (n + 1 - i) dc, .slice (some ⟨b, off, none⟩) 1 c]).run Tryd.prog W' = .ok (goInt (Nat.min 1 (n + 1 - i) : Nat)) (W'.setCells W.heap.size (i * 6) cs) := fun W' h1' h2' ty dc =>
  zc3 ht hsz h1' (by rw [hcl]; show _ = min _ _ * 6; rw [Nat.min_def]; split <;> omega) (fun j v hj => by rw [z58]; exact h2' _ v (hb j v hj)) (by omega) h1c
 have hcpB : ∀ (W' : World) (vs' : List Value), vs'.length = G * 6 → W'.heap[W.heap.size]? = some (.cells vs'.toArray 63 (0, 0)) → W'.heap[g]? = some (.cells vs.toArray 63 (0, 0)) → ∀ ty dc sc, (Builtin.copy_ #[39, 39] ty #[.slice (some ⟨W.heap.size, (i + 1) * 6, none⟩) (n - i) dc, .slice (some ⟨g, i * 6, none⟩) (n - i) sc]).run Tryd.prog W' = .ok (goInt (Nat.min (n - i) (n - i) : Nat)) (W'.setCells W.heap.size ((i + 1) * 6) mv) := fun W' vs' hl' h1' h2' ty dc sc =>
  zc3 ht hsz h1' (by rw [hlen]; show _ = min _ _ * 6; rw [Nat.min_def]; split <;> omega) (fun j v hj => by
   rw [z58, cell_of_row _ g _ _ 63 (0, 0) h2']
   have hlt := (List.getElem?_eq_some_iff.1 hj).1
   rw [hmv, List.getElem?_drop, List.getElem?_take, if_pos (by omega)] at hj
   simpa using hj) (by omega) (fun v hv => h1 v (by rw [hmv] at hv; exact List.mem_of_mem_drop hv))
 have hA := hcpA ((W.alloc (.cells row.toArray 63)).drew) (heap_alloc_new W _) (fun k v h => zev _ h)
 have hA' := hcpA (W.drew.alloc (.cells row.toArray 63)) (heap_alloc_new W.drew _) (fun k v h => zev (W := W.drew) _ h)
 have hgold : (W.alloc (.cells row.toArray 63)).heap[g]? = some (.cells vs.toArray 63 (0, 0)) := by
  have : (W.alloc (.cells row.toArray 63)).heap[g]? = W.heap[g]? := by simp only [World.alloc, Array.getElem?_push, Nat.ne_of_lt hgl, if_false]
  rw [this]; exact hg
 have hB := hcpB (((W.alloc (.cells row.toArray 63)).drew.setCells W.heap.size (i * 6) cs).drew) (z0p row (i * 6) cs) (by rw [z0t, hrl]) (z0x _ _ (W.alloc (.cells row.toArray 63)).drew _ (heap_alloc_new W _)) (by
  show ((W.alloc (.cells row.toArray 63)).drew.setCells W.heap.size (i * 6) cs).heap[g]? = _
  rw [z16 _ _ _ _ _ (by omega)]; exact hgold)
 have hw1 : IntKind.i64.wrap ((i : Int) + 1) = (i : Int) + 1 := by rw [IntKind.wrap_i64]; omega
 have hw2 : IntKind.i64.wrap ((n : Int) + 1) = (n : Int) + 1 := by rw [IntKind.wrap_i64]; omega
 have hp1 : (i : Int) ≤ (n : Int) + 1 := by omega
 have hp0 : (0 : Int) ≤ (i : Int) + 1 := by omega
 have hGi : ¬ (G = i) := by omega
 have hGi1 : ¬ (G = i + 1) := by omega
 have hci : ¬ (cap = i) := by omega
 have hin : i ≤ n := by omega
 have R : Hid (n + 1 ≤ G ∧ G ≤ maxLen ∧ row.length = G * 6 ∧ (∀ u ∈ row.take (i * 6), u.oneCell' = true) ∧ row.take (i * 6) = vs.take (i * 6) ∧ mv = (vs.take (n * 6)).drop (i * 6)) := Lib.hid ⟨hGn, hGm, hrl, fun u hu => h1 u (by rw [hrt] at hu; exact (List.take_sublist_take_left (by omega)).subset hu), hrt, hmv⟩
 have hic : i ≤ cap := by omega
 have hn' := Lib.hid hn
 clear hn hmv hlen hg hg1 hgold hcs h1 hb h1c hcl hcpA hcpB hrt hrl hrow hrowA hG hGm hold hkk hik
 go_enter Tryd.func62, Tryd.ntmps62
 go_wp2_with (first
  | (at_builtin; refine Lib.wpList_append_run _ rfl _ _ _ _ rfl _ _ rfl rfl _ _ (hrz _) ?_)
  | (at_builtin; refine z7w rfl _ _ 39 39 rfl _ _ rfl rfl (hA' _ _) ?_)
  | (at_builtin; refine z7w rfl _ _ 39 39 rfl _ _ rfl rfl (hA _ _) ?_))
 go_region_law (refine zew rfl _ _ 39 39 rfl _ _ (by simp [Act.eval, Act.put]) (by simp [Act.eval, Act.put]) (hB _ _ _) ?_)
 go_wp2
 go_ret
 obtain ⟨r1, r2, r3, r4, r5, r6⟩ := R.out
 exact ⟨G, row, r1, r2, r3, rfl, r4, r5, by rw [r6]⟩
noncomputable def z8g : z9 := spD (fun x : List Coin × Int × List Coin => 0 ≤ x.2.1 ∧ x.2.1 ≤ x.1.length ∧ x.1.length ≤ 1000000 ∧ x.2.2.length = 1) fun x => x.1.take x.2.1.toNat ++ x.2.2 ++ x.1.drop x.2.1.toNat
theorem zz3 : Meets Tryd.prog z8g 62 ⟨[.mine 63 6, .one, .one], [(false, [.fresh 63 6])], false⟩ :=
 zz1 rfl (by decide) (z3a (fn := Tryd.f62) (by kernel_rfl) (by kernel_rfl) (by kernel_rfl)) (fun W g n cap i b off c vs cs h1 h2 h3 h4 h5 h6 h7 h8 h9 h10 => z01l h1 h2 h3 h4 h5 h6 h7 h8 h9 h10) (fun W base v n b off c olds cs h1 h2 h3 h4 h5 h6 => z03z h1 h2 h3 h4 h5 h6) (fun W g n cap i b off c vs cs h1 h2 h3 h4 h5 h6 h7 h8 h9 => z01m h1 h2 h3 h4 h5 h6 h7 h8 h9)
end
section
open Go.RowKit
set_option maxRecDepth 100000
set_option maxHeartbeats 4000000
theorem zlt (l : List Coin) (i j : Int) (h : 0 ≤ i ∧ i ≤ j ∧ j ≤ l.length) : z8f [.l 6 (l.map zw), I i, I j] = some [.l 6 ((l.take i.toNat ++ l.drop j.toNat).map zw)] := z01 (p := fun x : List Coin × Int × Int => 0 ≤ x.2.1 ∧ x.2.1 ≤ x.2.2 ∧ x.2.2 ≤ x.1.length) (f := fun x : List Coin × Int × Int => x.1.take x.2.1.toNat ++ x.1.drop x.2.2.toNat) (l, i, j) h
theorem zcb (l : List Coin) (i : Int) (c : Coin) (h : 0 ≤ i ∧ i ≤ l.length ∧ l.length ≤ 1000000) : z8g [.l 6 (l.map zw), I i, .l 6 ([c].map zw)] = some [.l 6 ((l.take i.toNat ++ [c] ++ l.drop i.toNat).map zw)] := z01 (p := fun x : List Coin × Int × List Coin => 0 ≤ x.2.1 ∧ x.2.1 ≤ x.1.length ∧ x.1.length ≤ 1000000 ∧ x.2.2.length = 1) (f := fun x : List Coin × Int × List Coin => x.1.take x.2.1.toNat ++ x.2.2 ++ x.1.drop x.2.1.toNat) (l, i, [c]) ⟨h.1, h.2.1, h.2.2, rfl⟩
noncomputable def z6m : z9 := spD (fun _ : List Coin × Tx × Int × Int => True) fun x => z09 x.1 x.2.1 x.2.2.1 x.2.2.2
theorem zcc (l : List Coin) (t : Tx) (nm h : Int) : z6m [.l 6 (l.map zw), I t.height, .l 3 (t.ins.map eIn), .l 2 (t.outs.map z2a), I nm, I h] = some [.l 6 ((z09 l t nm h).1.map zw), .l 6 ((z09 l t nm h).2.1.map zw), I (z09 l t nm h).2.2] := z01 (f := fun x : List Coin × Tx × Int × Int => z09 x.1 x.2.1 x.2.2.1 x.2.2.2) (l, t, nm, h) trivial
theorem zw9 {a b : Dt} {n : Int} {pk : List PK} {l : Bool} {g : Bool} : z4h ⟨pk, [(false, [.pure]), (g, [.pure]), (false, [.scal])], l⟩ [a, b, I n] := by
 intro i d hi hd
 match i, hi, hd with
 | 0, hi, _ => simp [zk] at hi
 | 1, hi, _ => simp [zk] at hi
 | 2, _, hd => simp only [List.getElem?_cons_succ, List.getElem?_cons_zero, Option.some.injEq] at hd; subst hd; rfl
 | i + 3, hi, _ => simp [zk] at hi
attribute [local irreducible] z0h spD z1c zr zi z30 z1z z2z z8
theorem zlu (t : Tx) : z85 [I t.height, .l 3 (t.ins.map eIn), .l 2 (t.outs.map z2a)] = some [I (zi t)] := z01 (f := fun t : Tx => zi t) t trivial
def zt4 : T :=
 .lets [.bin .add (.v 28) (.c (.i .i64 1))] [] (.lets [.call 13 [.v 22, .v 28, .v 44] 0] [] (.lets [.bin .add (.v 23) (.c (.i .i64 1))] [] (.again 0 [.v 19, .v 20, .v 43, .v 45, .v
 46])))
def zt5 : T :=
 .ite (.v 41) (.ret [.c (.nil 6), .c (.nil 6), .c (.i .i64 8)]) (.lets [.mk 6 [[.v 31, .v 32, .v 33, .v 34, .v 35, .v 36]]] [] (.lets [.app 6 (.v 21) (.v 42)] [] zt4))
def zt6 : T :=
 .ite (.v 38) (.ret [.c (.nil 6), .c (.nil 6), .c (.i .i64 10)]) (.lets [.call 15 [.v 34, .v 27, .v 5] 0, .call 15 [.v 34, .v 27, .v 5] 1] [] (.lets [.not (.v 39)] [] zt5))
def zt7 : T :=
 .lets [.bin .add (.v 28) (.c (.i .i64 1))] [] (.lets [.call 13 [.v 22, .v 28, .v 42] 0] [] (.lets [.bin .add (.v 23) (.c (.i .i64 1))] [] (.again 0 [.v 19, .v 20, .v 41, .v 43, .v
 44])))
def zt8 : T :=
 .ite (.v 39) (.ret [.c (.nil 6), .c (.nil 6), .c (.i .i64 8)]) (.lets [.mk 6 [[.v 31, .v 32, .v 33, .v 34, .v 35, .v 36]]] [] (.lets [.app 6 (.v 21) (.v 40)] [] zt7))
def zt9 : T :=
 .ite (.v 36) (.lets [.bin .add (.v 35) (.c (.i .i64 2))] [] (.lets [.bin .lss (.v 5) (.v 37)] [] zt6)) (.lets [.call 15 [.v 34, .v 27, .v 5] 0, .call 15 [.v 34, .v 27, .v 5]
 1] [] (.lets [.not (.v 37)] [] zt8))
def zta : T :=
 .lets [.idx (.v 22) (.v 28) 0, .idx (.v 22) (.v 28) 1, .idx (.v 22) (.v 28) 2, .idx (.v 22) (.v 28) 3, .idx (.v 22) (.v 28) 4, .idx (.v 22) (.v 28) 5] [] zt9
def ztb : T :=
 .lets [.call 6 [.v 22, .v 25, .v 26] 0, .call 6 [.v 22, .v 25, .v 26] 1] [] (.lets [.not (.v 29)] [] (.ite (.v 30) (.ret [.c (.nil 6), .c (.nil 6), .c (.i .i64 7)]) (.lets [] [.inr
 6 (.v 22) (.v 28)] zta)))
def ztc : T :=
 .lets [.mk 6 [[.v 4, .v 29, .v 31, .v 35, .v 5, .v 15]]] [] (.lets [.call 14 [.v 28, .v 33, .v 36] 0] [] (.lets [.bin .add (.v 29) (.c (.i .i64 1))] [] (.again 1 [.v 26, .v 27, .v
 37, .v 38])))
def ztd : T :=
 .lets [.call 6 [.v 28, .v 4, .v 29] 0, .call 6 [.v 28, .v 4, .v 29] 1] [] (.ite (.v 34) (.ret [.c (.nil 6), .c (.nil 6), .c (.i .i64 6)]) (.lets [.call 10 [.v 32] 0] []
 ztc))
def zqs : T :=
 .lets [.call 8 [.v 28] 0] [] (.lets [.bin .neq (.v 31) (.c (.i .i64 0))] [] (.ite (.v 32) (.ret [.c (.nil 6), .c (.nil 6), .v 31]) (.ret [.v 28, .v 21, .c (.i .i64 0)])))
def zqt : T :=
 .lets [.bin .lss (.v 29) (.v 25)] [] (.ite (.v 30) (.lets [] [.inr 2 (.v 3) (.v 29)] (.lets [.idx (.v 3) (.v 29) 0, .idx (.v 3) (.v 29) 1] [] ztd)) zqs)
def zqu : T :=
 .ite (.v 24) (.lets [] [.inr 3 (.v 2) (.v 23)] (.lets [.idx (.v 2) (.v 23) 0, .idx (.v 2) (.v 23) 1, .idx (.v 2) (.v 23) 2] [] ztb)) (.lets [.len (.v 3)] [] (.loop [.c (.nil
 6), .c (.i .i64 0), .v 22, .c (.i .i64 0)] zqt))
def zqv : T :=
 .lets [.call 11 [.v 0] 0] [] (.lets [.len (.v 2)] [] (.loop [.c (.nil 6), .c (.i .i64 0), .c (.nil 6), .v 17, .c (.i .i64 0)] (.lets [.bin .lss (.v 23) (.v 18)] [] zqu)))
def zqw : T :=
 .lets [.bin .add (.v 27) (.c (.i .i64 1))] [] (.lets [.call 13 [.v 21, .v 27, .v 43] 0] [] (.lets [.bin .add (.v 22) (.c (.i .i64 1))] [] (.again 0 [.v 18, .v 19, .v 42, .v 44, .v
 45])))
def zqx : T :=
 .ite (.v 40) (.ret [.c (.nil 6), .c (.nil 6), .c (.i .i64 8)]) (.lets [.mk 6 [[.v 30, .v 31, .v 32, .v 33, .v 34, .v 35]]] [] (.lets [.app 6 (.v 20) (.v 41)] [] zqw))
def zqy : T :=
 .ite (.v 37) (.ret [.c (.nil 6), .c (.nil 6), .c (.i .i64 10)]) (.lets [.call 15 [.v 33, .v 26, .v 5] 0, .call 15 [.v 33, .v 26, .v 5] 1] [] (.lets [.not (.v 38)] [] zqx))
def zqz : T :=
 .lets [.bin .add (.v 27) (.c (.i .i64 1))] [] (.lets [.call 13 [.v 21, .v 27, .v 41] 0] [] (.lets [.bin .add (.v 22) (.c (.i .i64 1))] [] (.again 0 [.v 18, .v 19, .v 40, .v 42, .v
 43])))
def zr0 : T :=
 .ite (.v 38) (.ret [.c (.nil 6), .c (.nil 6), .c (.i .i64 8)]) (.lets [.mk 6 [[.v 30, .v 31, .v 32, .v 33, .v 34, .v 35]]] [] (.lets [.app 6 (.v 20) (.v 39)] [] zqz))
def zr1 : T :=
 .ite (.v 35) (.lets [.bin .add (.v 34) (.c (.i .i64 2))] [] (.lets [.bin .lss (.v 5) (.v 36)] [] zqy)) (.lets [.call 15 [.v 33, .v 26, .v 5] 0, .call 15 [.v 33, .v 26, .v
 5] 1] [] (.lets [.not (.v 36)] [] zr0))
def zr2 : T :=
 .lets [.idx (.v 21) (.v 27) 0, .idx (.v 21) (.v 27) 1, .idx (.v 21) (.v 27) 2, .idx (.v 21) (.v 27) 3, .idx (.v 21) (.v 27) 4, .idx (.v 21) (.v 27) 5] [] zr1
def zr3 : T :=
 .lets [.call 6 [.v 21, .v 24, .v 25] 0, .call 6 [.v 21, .v 24, .v 25] 1] [] (.lets [.not (.v 28)] [] (.ite (.v 29) (.ret [.c (.nil 6), .c (.nil 6), .c (.i .i64 7)]) (.lets [] [.inr
 6 (.v 21) (.v 27)] zr2)))
def zr4 : T :=
 .lets [.mk 6 [[.v 4, .v 30, .v 32, .v 36, .v 5, .v 15]]] [] (.lets [.call 14 [.v 29, .v 34, .v 37] 0] [] (.lets [.bin .add (.v 30) (.c (.i .i64 1))] [] (.again 1 [.v 27, .v 28, .v
 38, .v 39])))
def zr5 : T :=
 .lets [.call 6 [.v 29, .v 4, .v 30] 0, .call 6 [.v 29, .v 4, .v 30] 1] [] (.ite (.v 35) (.ret [.c (.nil 6), .c (.nil 6), .c (.i .i64 6)]) (.lets [.call 10 [.v 33] 0] []
 zr4))
def zr6 : T :=
 .lets [.call 8 [.v 29] 0] [] (.lets [.bin .neq (.v 32) (.c (.i .i64 0))] [] (.ite (.v 33) (.ret [.c (.nil 6), .c (.nil 6), .v 32]) (.ret [.v 29, .v 20, .c (.i .i64 0)])))
def zr7 : T :=
 .lets [.bin .lss (.v 30) (.v 26)] [] (.ite (.v 31) (.lets [] [.inr 2 (.v 3) (.v 30)] (.lets [.idx (.v 3) (.v 30) 0, .idx (.v 3) (.v 30) 1] [] zr5)) zr6)
def zr8 : T :=
 .ite (.v 25) (.ret [.c (.nil 6), .c (.nil 6), .c (.i .i64 9)]) (.lets [.len (.v 3)] [] (.loop [.c (.nil 6), .c (.i .i64 0), .v 21, .c (.i .i64 0)] zr7))
def zr9 : T :=
 .ite (.v 23) (.lets [] [.inr 3 (.v 2) (.v 22)] (.lets [.idx (.v 2) (.v 22) 0, .idx (.v 2) (.v 22) 1, .idx (.v 2) (.v 22) 2] [] zr3)) (.lets [.call 12 [.v 1, .v 2, .v 3, .v
 20] 0] [] (.lets [.bin .lss (.v 24) (.c (.i .i64 0))] [] zr8))
def zra : T :=
 .lets [.call 11 [.v 0] 0] [] (.lets [.len (.v 2)] [] (.loop [.c (.nil 6), .c (.i .i64 0), .c (.nil 6), .v 16, .c (.i .i64 0)] (.lets [.bin .lss (.v 22) (.v 17)] [] zr9)))
def zrb : T :=
 .lets [.bin .eql (.v 14) (.c (.i .i64 0))] [] (.ite (.v 15) (.lets [.bin .neq (.v 1) (.v 5)] [] (.ite (.v 16) (.ret [.c (.nil 6), .c (.nil 6), .c (.i .i64 4)]) zqv))
 zra)
def zrc : T :=
 .ite (.v 12) (.ret [.c (.nil 6), .c (.nil 6), .c (.i .i64 3)]) (.lets [.bin .gtr (.v 5) (.c (.i .i64 1000))] [] (.ite (.v 13) (.ret [.c (.nil 6), .c (.nil 6), .c (.i .i64 3)])
 (.lets [.len (.v 2)] [] zrb)))
def zrd : T :=
 .lets [.bin .gtr (.v 4) (.c (.i .i64 120))] [] (.ite (.v 11) (.ret [.c (.nil 6), .c (.nil 6), .c (.i .i64 3)]) (.lets [.bin .lss (.v 5) (.c (.i .i64 1))] [] zrc))
def zre : T :=
 .ite (.v 9) (.ret [.c (.nil 6), .c (.nil 6), .v 8]) (.lets [.bin .lss (.v 4) (.c (.i .i64 1))] [] (.ite (.v 10) (.ret [.c (.nil 6), .c (.nil 6), .c (.i .i64 3)]) zrd))
def zrf : T :=
 .lets [.bin .neq (.v 6) (.c (.i .i64 0))] [] (.ite (.v 7) (.ret [.c (.nil 6), .c (.nil 6), .v 6]) (.lets [.call 16 [.v 1, .v 2, .v 3] 0] [] (.lets [.bin .neq (.v 8) (.c (.i .i64
 0))] [] zre)))
def zdr : T :=
 .lets [.call 8 [.v 0] 0] [] zrf
theorem zz4 : Meets Tryd.prog z6m 41 ⟨[.one, .agg 3, .one, .one], [(false, [.pure]), (true, [.pure]), (false, [.scal])], false⟩ := by
 refine zjz (sp := (z0v [(6, z87), (8, z3s), (10, z8m), (11, z9s), (12, z5n), (13, z8f), (14, z8g), (15, z6k), (16, z85)])) (sigs := z11) (cut := []) (hints := [⟨19, [.r 8 63 6, .t 10, .r 0 63 6, .t 111, .z 84, .z 83, .z 78]⟩]) (fns := [zcu 60 Tryd.f60 [⟨2, [.r 6 63 6, .t 8, .r 7 63 6, .r 0 63 6, .t 19]⟩] [], zcu 59 Tryd.f59 [] []]) (dep := 2) (pool := 240) (fn := Tryd.f41) (t := zdr) (by kernel_rfl) (by kernel_rfl) (by kernel_rfl) ?_ ?_ ?_
 ·exact (z3n (fn := Tryd.f60) (by kernel_rfl) (by kernel_rfl) (by kernel_rfl) (by kernel_rfl) (by kernel_rfl) (z3n (fn := Tryd.f59) (by kernel_rfl) (by kernel_rfl) (by kernel_rfl) (by kernel_rfl) (by kernel_rfl) zn0))
 ·exact (z0m (L := [(6, z87), (8, z3s), (10, z8m), (11, z9s), (12, z5n), (13, z8f), (14, z8g), (15, z6k), (16, z85)]) ⟨zl rfl zy5, zl rfl zk0, zl rfl zy3, zl rfl z018, zl rfl zud, zl rfl zz2, zl rfl zz3, zl rfl zsr, zl rfl zy2, trivial⟩)
 ·rintro ds rs - h
  obtain ⟨⟨l, t, nm, ht⟩, -, rfl, rfl⟩ := z02 h
  clear h
  refine ⟨⟨t.ins.length + t.outs.length + 1, ?_⟩, zw9⟩
  show den _ _ zdr [.l 6 (l.map zw), I t.height, .l 3 (t.ins.map eIn), .l 2 (t.outs.map z2a), I nm, I ht] [] = ret (z09 l t nm ht)
  unfold zdr z09
  repeat' (first | refine dq1 ?_ | refine dqc ?_ | refine dqm ?_ | refine dqK rfl (z5g _) ?_ | refine dqK rfl (zlu _) ?_ | exact z4 rfl rfl | ((first | refine tR ?_ ?_ | refine tB ?_ ?_ | refine tC ?_ ?_ | refine tN ?_ ?_ | refine tF ?_ ?_ | refine tG ?_ ?_ | refine tP ?_ ?_ | refine tQ ?_ ?_ | refine tA ?_ ?_ | refine tO ?_ ?_ | refine tU ?_ ?_ | refine tV ?_ ?_) <;> intro h) | refine dqT ?_ | refine dqF ?_ | refine z7 rfl ?_ | refine z6 rfl ?_ | refine zg ?_ | refine zh ?_)
  all_goals
   have ok : CoinsOK l := (z1u l).1 (Decidable.not_not.1 (by assumption))
   have okt : TxOK t := z2e (Decidable.not_not.1 (by assumption))
   have hl := ok.len
   have hti := okt.ins
   have hto := okt.outs
   repeat' (first | refine dq1 ?_ | refine dqc ?_ | refine dqm ?_ | refine dqK rfl (zqe _ ok.short) ?_ | exact z4 rfl rfl | ((first | refine tR ?_ ?_ | refine tB ?_ ?_ | refine tC ?_ ?_ | refine tN ?_ ?_ | refine tF ?_ ?_ | refine tG ?_ ?_ | refine tP ?_ ?_ | refine tQ ?_ ?_ | refine tA ?_ ?_ | refine tO ?_ ?_ | refine tU ?_ ?_ | refine tV ?_ ?_) <;> intro h) | refine dqT ?_ | refine dqF ?_ | refine z7 rfl ?_ | refine z6 rfl ?_ | refine zg ?_ | refine zh ?_)
  ·(refine z0q (fun (st : List Coin × List Coin) k => [.l 6 (([] : List Coin).map zw), I 0, .l 6 (st.2.map zw), .l 6 (st.1.map zw), I k]) (fun (st : List Coin × List Coin) _ (xs : List In) => z25 ht z2r (fun r s => z2c nm ht (decide ((t.ins.length : Int) = 0)) z2r (z7v s) r 0 t.outs) st.1 st.2 xs) (fun st k => SpI l st k) (l, []) t.ins ?_ ?_ ?_ ?_ ?_; rfl; exact ⟨ok.sorted, Nat.le_refl _, ok.good, rfl, fun c hc => by cases hc⟩; omega)
   ·rintro ⟨r, s⟩ k x xs hx hd hk hI again hag
    rename_i h0 _
    omega
   ·rintro ⟨r, s⟩ hI again
    rw [z25]
    repeat' (first | refine dq1 ?_ | refine dqc ?_ | refine dqm ?_ | exact z4 rfl rfl | ((first | refine tR ?_ ?_ | refine tB ?_ ?_ | refine tC ?_ ?_ | refine tN ?_ ?_ | refine tF ?_ ?_ | refine tG ?_ ?_ | refine tP ?_ ?_ | refine tQ ?_ ?_ | refine tA ?_ ?_ | refine tO ?_ ?_ | refine tU ?_ ?_ | refine tV ?_ ?_) <;> intro h) | refine dqT ?_ | refine dqF ?_ | refine z7 rfl ?_ | refine z6 rfl ?_ | refine zg ?_ | refine zh ?_)
    (refine z0q (fun (r : List Coin) k => [.l 6 (([] : List Coin).map zw), I 0, .l 6 (r.map zw), I k]) (fun (r : List Coin) k (os : List Out) => z2c nm ht (decide ((t.ins.length : Int) = 0)) z2r (z7v s) r k os) (fun r k => z03 r ∧ r.length ≤ l.length + k) r t.outs ?_ ?_ ?_ ?_ ?_; rfl; exact ⟨hI.sorted, hI.len⟩; omega)
    ·rintro r k o os hx hd hk ⟨hs, hrl⟩ again' hag
     rw [z2c]
     have hol := z6h (okt.good o (List.mem_of_getElem? hx)).2.2
     have hpl := zfd r ⟨nm, k⟩
     have e1 : ((zj r ⟨nm, k⟩ : Int)).toNat = zj r ⟨nm, k⟩ := by omega
     repeat' (first | refine dq1 ?_ | refine dqc ?_ | refine dqm ?_ | refine dqK rfl (z7p r ⟨nm, k⟩ hs (by omega)) ?_ | refine dqK rfl (zbm _ (by omega)) ?_ | exact z4 rfl rfl | ((first | refine tR ?_ ?_ | refine tB ?_ ?_ | refine tC ?_ ?_ | refine tN ?_ ?_ | refine tF ?_ ?_ | refine tG ?_ ?_ | refine tP ?_ ?_ | refine tQ ?_ ?_ | refine tA ?_ ?_ | refine tO ?_ ?_ | refine tU ?_ ?_ | refine tV ?_ ?_) <;> intro h) | refine dqT ?_ | refine dqF ?_ | refine z7 rfl ?_ | refine z6 rfl ?_ | refine zg ?_ | refine zh ?_)
     have hno := h
     refine z5 (z4l (r := [(⟨⟨nm, k⟩, o, ht, decide ((t.ins.length : Int) = 0)⟩ : Coin)].map zw) rfl rfl (by simp)) ?_
     refine z5 (z1t rfl (zcb _ _ _ ⟨by omega, by omega, by omega⟩) rfl) ?_
     refine z5 (z6w rfl rfl (by omega)) ?_
     rw [e1]
     exact ze rfl rfl (hag _ ⟨z8e hs (c := ⟨⟨nm, k⟩, o, ht, decide ((t.ins.length : Int) = 0)⟩) hno, by simp only [List.length_append, List.length_take, List.length_drop, List.length_singleton]; omega⟩)
    ·rintro r hr again'
     rw [z2c]
     unfold z7v
     repeat' (first | refine dq1 ?_ | refine dqc ?_ | refine dqm ?_ | refine dqK rfl (z5g _) ?_ | exact z4 rfl rfl | ((first | refine tR ?_ ?_ | refine tB ?_ ?_ | refine tC ?_ ?_ | refine tN ?_ ?_ | refine tF ?_ ?_ | refine tG ?_ ?_ | refine tP ?_ ?_ | refine tQ ?_ ?_ | refine tA ?_ ?_ | refine tO ?_ ?_ | refine tU ?_ ?_ | refine tV ?_ ?_) <;> intro h) | refine dqT ?_ | refine dqF ?_ | refine z7 rfl ?_ | refine z6 rfl ?_ | refine zg ?_ | refine zh ?_)
  ·(refine z0q (fun (st : List Coin × List Coin) k => [.l 6 (([] : List Coin).map zw), I 0, .l 6 (st.2.map zw), .l 6 (st.1.map zw), I k]) (fun (st : List Coin × List Coin) _ (xs : List In) => z25 ht z2r (fun r s => if z1z t s < 0 then z2r 9 else z2c nm ht (decide ((t.ins.length : Int) = 0)) z2r (z7v s) r 0 t.outs) st.1 st.2 xs) (fun st k => SpI l st k) (l, []) t.ins ?_ ?_ ?_ ?_ ?_; rfl; exact ⟨ok.sorted, Nat.le_refl _, ok.good, rfl, fun c hc => by cases hc⟩; omega)
   ·rintro ⟨r, s⟩ k x xs hx hd hk hI again hag
    rw [z25]
    simp only
    have hs := hI.sorted
    have hrl := hI.len
    simp only at hs hrl
    repeat' (first | refine dq1 ?_ | refine dqc ?_ | refine dqm ?_ | refine dqK rfl (z7p _ _ hs (by omega)) ?_ | exact z4 rfl rfl | ((first | refine tR ?_ ?_ | refine tB ?_ ?_ | refine tC ?_ ?_ | refine tN ?_ ?_ | refine tF ?_ ?_ | refine tG ?_ ?_ | refine tP ?_ ?_ | refine tQ ?_ ?_ | refine tA ?_ ?_ | refine tO ?_ ?_ | refine tU ?_ ?_ | refine tV ?_ ?_) <;> intro h) | refine dqT ?_ | refine dqF ?_ | refine z7 rfl ?_ | refine z6 rfl ?_ | refine zg ?_ | refine zh ?_)
    obtain ⟨hlt, hp⟩ := (zfe hs x.p).1 h
    have hc : r[zj r x.p]? = some r[zj r x.p] := List.getElem?_eq_getElem hlt
    rw [hc]
    generalize r[zj r x.p] = c at *
    have hcb := z2y (hI.good c (List.mem_of_getElem? hc))
    have e1 : ((zj r x.p : Int)).toNat = zj r x.p := by omega
    have e2 : ((zj r x.p : Int) + 1).toNat = zj r x.p + 1 := by omega
    simp only [Option.getD_some]
    have hxo := hx
    have hx := hc
    repeat' (first | refine dq1 ?_ | refine dqc ?_ | refine dqm ?_ | refine dqK rfl (zgr _ _ _) ?_ | exact z4 rfl rfl | ((first | refine tR ?_ ?_ | refine tB ?_ ?_ | refine tC ?_ ?_ | refine tN ?_ ?_ | refine tF ?_ ?_ | refine tG ?_ ?_ | refine tP ?_ ?_ | refine tQ ?_ ?_ | refine tA ?_ ?_ | refine tO ?_ ?_ | refine tU ?_ ?_ | refine tV ?_ ?_) <;> intro h) | refine dqT ?_ | refine dqF ?_ | refine z7 rfl ?_ | refine z6 rfl ?_ | refine zg ?_ | refine zh ?_)
    all_goals (refine z5 (z4l (r := [c].map zw) rfl rfl (by simp)) ?_; refine z5 (znc (l := s) (l' := [c]) rfl rfl (by have := hI.cnt; simp only at this ⊢; simp only [List.length_singleton]; omega)) ?_; refine z5 (z6w rfl rfl (by omega)) ?_; refine z5 (z1t rfl (zlt _ _ _ ⟨by omega, by omega, by omega⟩) rfl) ?_; refine z5 (z6w rfl rfl (by omega)) ?_; rw [e1, e2]; exact ze rfl rfl (hag (r.take (zj r x.p) ++ r.drop (zj r x.p + 1), s ++ [c]) (hI.cut hc)))
   ·rintro ⟨r, s⟩ hI again
    rw [z25]
    repeat' (first | refine dq1 ?_ | refine dqc ?_ | refine dqm ?_ | refine dqK rfl (zac t s (hI.fee okt)) ?_ | exact z4 rfl rfl | ((first | refine tR ?_ ?_ | refine tB ?_ ?_ | refine tC ?_ ?_ | refine tN ?_ ?_ | refine tF ?_ ?_ | refine tG ?_ ?_ | refine tP ?_ ?_ | refine tQ ?_ ?_ | refine tA ?_ ?_ | refine tO ?_ ?_ | refine tU ?_ ?_ | refine tV ?_ ?_) <;> intro h) | refine dqT ?_ | refine dqF ?_ | refine z7 rfl ?_ | refine z6 rfl ?_ | refine zg ?_ | refine zh ?_)
    (refine z0q (fun (r : List Coin) k => [.l 6 (([] : List Coin).map zw), I 0, .l 6 (r.map zw), I k]) (fun (r : List Coin) k (os : List Out) => z2c nm ht (decide ((t.ins.length : Int) = 0)) z2r (z7v s) r k os) (fun r k => z03 r ∧ r.length ≤ l.length + k) r t.outs ?_ ?_ ?_ ?_ ?_; rfl; exact ⟨hI.sorted, hI.len⟩; omega)
    ·rintro r k o os hx hd hk ⟨hs, hrl⟩ again' hag
     rw [z2c]
     have hol := z6h (okt.good o (List.mem_of_getElem? hx)).2.2
     have hpl := zfd r ⟨nm, k⟩
     have e1 : ((zj r ⟨nm, k⟩ : Int)).toNat = zj r ⟨nm, k⟩ := by omega
     repeat' (first | refine dq1 ?_ | refine dqc ?_ | refine dqm ?_ | refine dqK rfl (z7p r ⟨nm, k⟩ hs (by omega)) ?_ | refine dqK rfl (zbm _ (by omega)) ?_ | exact z4 rfl rfl | ((first | refine tR ?_ ?_ | refine tB ?_ ?_ | refine tC ?_ ?_ | refine tN ?_ ?_ | refine tF ?_ ?_ | refine tG ?_ ?_ | refine tP ?_ ?_ | refine tQ ?_ ?_ | refine tA ?_ ?_ | refine tO ?_ ?_ | refine tU ?_ ?_ | refine tV ?_ ?_) <;> intro h) | refine dqT ?_ | refine dqF ?_ | refine z7 rfl ?_ | refine z6 rfl ?_ | refine zg ?_ | refine zh ?_)
     have hno := h
     refine z5 (z4l (r := [(⟨⟨nm, k⟩, o, ht, decide ((t.ins.length : Int) = 0)⟩ : Coin)].map zw) rfl rfl (by simp)) ?_
     refine z5 (z1t rfl (zcb _ _ _ ⟨by omega, by omega, by omega⟩) rfl) ?_
     refine z5 (z6w rfl rfl (by omega)) ?_
     rw [e1]
     exact ze rfl rfl (hag _ ⟨z8e hs (c := ⟨⟨nm, k⟩, o, ht, decide ((t.ins.length : Int) = 0)⟩) hno, by simp only [List.length_append, List.length_take, List.length_drop, List.length_singleton]; omega⟩)
    ·rintro r hr again'
     rw [z2c]
     unfold z7v
     repeat' (first | refine dq1 ?_ | refine dqc ?_ | refine dqm ?_ | refine dqK rfl (z5g _) ?_ | exact z4 rfl rfl | ((first | refine tR ?_ ?_ | refine tB ?_ ?_ | refine tC ?_ ?_ | refine tN ?_ ?_ | refine tF ?_ ?_ | refine tG ?_ ?_ | refine tP ?_ ?_ | refine tQ ?_ ?_ | refine tA ?_ ?_ | refine tO ?_ ?_ | refine tU ?_ ?_ | refine tV ?_ ?_) <;> intro h) | refine dqT ?_ | refine dqF ?_ | refine z7 rfl ?_ | refine z6 rfl ?_ | refine zg ?_ | refine zh ?_)
end
section
open Go.RowKit
set_option maxRecDepth 100000
set_option maxHeartbeats 4000000
attribute [local irreducible] z0h spD z1c zr zi z8
end
section
open Go.RowKit
theorem hasP_mem {l : List Coin} {p : Point} : z1p l p = true ↔ ∃ c ∈ l, c.p = p := by
 unfold z1p
 rw [List.any_eq_true]
 constructor
 ·rintro ⟨c, hc, h⟩; exact ⟨c, hc, of_decide_eq_true h⟩
 ·rintro ⟨c, hc, h⟩; exact ⟨c, hc, decide_eq_true h⟩
theorem hasP_not {l : List Coin} {p : Point} : z1p l p = false ↔ ∀ c ∈ l, c.p ≠ p := by
 rw [← Bool.not_eq_true, hasP_mem]
 constructor
 ·intro h c hc he; exact h ⟨c, hc, he⟩
 ·rintro h ⟨c, hc, he⟩; exact h c hc he
theorem zex {l : List Coin} (h : z03 l) {c d : Coin} (hc : c ∈ l) (hd : d ∈ l) (hp : c.p = d.p) : c = d := by
 obtain ⟨i, hi, rfl⟩ := List.getElem_of_mem hc
 obtain ⟨j, hj, rfl⟩ := List.getElem_of_mem hd
 rcases Nat.lt_trichotomy i j with hij | rfl | hij
 ·have := z5u h hij hj; rw [hp] at this; exact absurd this (z6d _)
 ·rfl
 ·have := z5u h hij hi; rw [hp] at this; exact absurd this (z6d _)
theorem zz5 {l : List Coin} (h : z03 l) {c : Coin} (hc : c ∈ l) : l[zj l c.p]? = some c := by
 obtain ⟨hlt, hp⟩ := (zfe h c.p).1 (hasP_mem.2 ⟨c, hc, rfl⟩)
 rw [List.getElem?_eq_getElem hlt]
 exact congrArg some (zex h (List.getElem_mem hlt) hc hp)
theorem z040 {l : List Coin} (h : z03 l) {p : Point} (hp : z1p l p = true) : ∃ c, l[zj l p]? = some c ∧ c ∈ l ∧ c.p = p := by
 obtain ⟨c, hc, rfl⟩ := hasP_mem.1 hp
 exact ⟨c, zz5 h hc, hc, rfl⟩
theorem zug {l : List Coin} (h : z03 l) {c : Coin} {k : Nat} (hk : l[k]? = some c) {d : Coin} : d ∈ l.take k ++ l.drop (k + 1) ↔ d ∈ l ∧ d.p ≠ c.p := by
 obtain ⟨hlt, rfl⟩ := List.getElem?_eq_some_iff.1 hk
 have hsplit : l = l.take k ++ l[k] :: l.drop (k + 1) := by rw [List.getElem_cons_drop, List.take_append_drop]
 have hs : z03 (l.take k ++ l[k] :: l.drop (k + 1)) := by rw [← hsplit]; exact h
 obtain ⟨_, h2, h3⟩ := List.pairwise_append.1 hs
 have h2' := List.pairwise_cons.1 h2
 constructor
 ·intro hd
  refine ⟨?_, ?_⟩
  ·rcases List.mem_append.1 hd with hd | hd
   ·exact List.mem_of_mem_take hd
   ·exact List.mem_of_mem_drop hd
  ·rcases List.mem_append.1 hd with hd | hd
   ·intro e; have := h3 d hd l[k] (List.mem_cons_self ..); rw [e] at this; exact z6d _ this
   ·intro e; have := h2'.1 d hd; rw [e] at this; exact z6d _ this
 ·rintro ⟨hd, hne⟩
  rw [hsplit] at hd
  rcases List.mem_append.1 hd with hd | hd
  ·exact List.mem_append_left _ hd
  ·rcases List.mem_cons.1 hd with rfl | hd
   ·exact absurd rfl hne
   ·exact List.mem_append_right _ hd
theorem put_mem {l : List Coin} {c d : Coin} {k : Nat} : d ∈ l.take k ++ [c] ++ l.drop k ↔ d = c ∨ d ∈ l := by
 have : d ∈ l ↔ d ∈ l.take k ∨ d ∈ l.drop k := by rw [← List.mem_append, List.take_append_drop]
 rw [List.mem_append, List.mem_append, List.mem_singleton, this]
 constructor
 ·rintro ((h | h) | h)
  ·exact .inr (.inl h)
  ·exact .inl h
  ·exact .inr (.inr h)
 ·rintro (h | h | h)
  ·exact .inl (.inr h)
  ·exact .inl (.inl h)
  ·exact .inr h
theorem zz6 {l : List Coin} {c : Coin} {k : Nat} (hk : l[k]? = some c) : zd l = zd (l.take k ++ l.drop (k + 1)) + c.o.coin := by
 obtain ⟨hlt, rfl⟩ := List.getElem?_eq_some_iff.1 hk
 have hsplit : l = l.take k ++ l[k] :: l.drop (k + 1) := by rw [List.getElem_cons_drop, List.take_append_drop]
 have e : zd l = zd (l.take k ++ l[k] :: l.drop (k + 1)) := by rw [← hsplit]
 rw [e, z2l, z2l, zd]
 omega
theorem zz7 {l : List Coin} {c : Coin} {k : Nat} : zd (l.take k ++ [c] ++ l.drop k) = zd l + c.o.coin := by
 have e : zd l = zd (l.take k ++ l.drop k) := by rw [List.take_append_drop]
 rw [e, z2l, z2l, z2l, zd, zd]
 omega
structure Fine (h : Int) (x : In) (c : Coin) : Prop where
 p : c.p = x.p
 ripe : c.reward = true → c.height + 2 ≤ h
 opens : (z30 c.o.lock x.key h).1 = true
inductive Spent (h : Int) : List Coin → List Coin → List In → List Coin → List Coin → Prop
 | nil (r s) : Spent h r s [] r s
 | cons {r s x xs r' s' c} : c ∈ r → r[zj r x.p]? = some c → Fine h x c → Spent h (r.take (zj r x.p) ++ r.drop (zj r x.p + 1)) (s ++ [c]) xs r' s' → Spent h r s (x :: xs) r' s'
theorem zh6 {ρ : Type} {h : Int} {bad : Int → ρ} {K : List Coin → List Coin → ρ} {r s : List Coin} {x : In} {xs : List In} {c : Coin} (hm : c ∈ r) (hc : r[zj r x.p]? = some c) (hf : Fine h x c) : z25 h bad K r s (x :: xs) = z25 h bad K (r.take (zj r x.p) ++ r.drop (zj r x.p + 1)) (s ++ [c]) xs := by
 have hp : z1p r x.p = true := hasP_mem.2 ⟨c, hm, hf.p⟩
 rw [z25, if_pos hp, hc]
 simp only [Option.getD_some]
 rw [if_pos hf.opens]
 by_cases hr : c.reward = true
 ·rw [if_pos hr, if_neg (by have := hf.ripe hr; omega)]
 ·rw [if_neg hr]
theorem Spent.run {ρ : Type} {h : Int} {bad : Int → ρ} {K : List Coin → List Coin → ρ} {r s r' s' : List Coin} {xs : List In} (hs : Spent h r s xs r' s') : z25 h bad K r s xs = K r' s' := by
 induction hs with
 | nil r s => rfl
 | cons hm hc hf _ ih => rw [zh6 hm hc hf, ih]
theorem zfl {h : Int} {K : List Coin → List Coin → List Coin × List Coin × Int} : ∀ {xs : List In} {r s : List Coin}, z03 r → (z25 h z2r K r s xs).2.2 = 0 → ∃ r' s', Spent h r s xs r' s' ∧ z25 h z2r K r s xs = K r' s'
 | [], r, s, _, _ => ⟨r, s, .nil r s, rfl⟩
 | x :: xs, r, s, hr, h0 => by
  by_cases hp : z1p r x.p = true
  ·obtain ⟨c, hc, hm, hcp⟩ := z040 hr hp
   have hf : Fine h x c := by
    rw [z25, if_pos hp, hc] at h0
    simp only [Option.getD_some] at h0
    by_cases hrw : c.reward = true
    ·rw [if_pos hrw] at h0
     by_cases hh : h < c.height + 2
     ·rw [if_pos hh] at h0; cases h0
     ·rw [if_neg hh] at h0
      by_cases ho : (z30 c.o.lock x.key h).1 = true
      ·exact ⟨hcp, fun _ => by omega, ho⟩
      ·rw [if_neg ho] at h0; cases h0
    ·rw [if_neg hrw] at h0
     by_cases ho : (z30 c.o.lock x.key h).1 = true
     ·exact ⟨hcp, fun h => absurd h hrw, ho⟩
     ·rw [if_neg ho] at h0; cases h0
   have e := zh6 (bad := z2r) (K := K) (s := s) (xs := xs) hm hc hf
   rw [e] at h0 ⊢
   obtain ⟨r', s', h1, h2⟩ := zfl (z8d hr _) h0
   exact ⟨r', s', .cons hm hc hf h1, h2⟩
  ·rw [z25, if_neg hp] at h0
   cases h0
structure SpentAs (h : Int) (r : List Coin) (xs : List In) (r' cs : List Coin) : Prop where
 sorted : z03 r'
 mem : ∀ c, c ∈ r' ↔ c ∈ r ∧ ∀ x ∈ xs, x.p ≠ c.p
 len : cs.length = xs.length
 fine : ∀ (i : Nat) (x : In), xs[i]? = some x → ∃ c, cs[i]? = some c ∧ c ∈ r ∧ Fine h x c
 apart : xs.Pairwise fun x y => x.p ≠ y.p
 total : zd r = zd r' + zd cs
theorem Spent.as {h : Int} {r s r' s' : List Coin} {xs : List In} (hs : Spent h r s xs r' s') : z03 r → ∃ cs, s' = s ++ cs ∧ SpentAs h r xs r' cs := by
 induction hs with
 | nil r s => exact fun hr => ⟨[], (List.append_nil s).symm, hr, fun c => by simp, rfl, fun i x hx => by simp at hx, .nil, by simp [zd]⟩
 | @cons r s x xs r' s' c hm hc hf hs ih =>
  intro hr
  obtain ⟨cs, rfl, H⟩ := ih (z8d hr _)
  have hcm := fun d => zug hr hc (d := d)
  refine ⟨c :: cs, by simp, H.sorted, fun d => ?_, by simp [H.len], fun i y hy => ?_, ?_, ?_⟩
  ·rw [H.mem, hcm]
   constructor
   ·rintro ⟨⟨h1, h2⟩, h3⟩
    refine ⟨h1, fun y hy => ?_⟩
    rcases List.mem_cons.1 hy with rfl | hy
    ·rw [← hf.p]; exact fun e => h2 e.symm
    ·exact h3 y hy
   ·rintro ⟨h1, h2⟩
    exact ⟨⟨h1, fun e => h2 x (List.mem_cons_self ..) (by rw [← hf.p, e])⟩, fun y hy => h2 y (List.mem_cons_of_mem _ hy)⟩
  ·cases i with
   | zero =>
    simp only [List.getElem?_cons_zero, Option.some.injEq] at hy
    subst hy
    exact ⟨c, rfl, hm, hf⟩
   | succ i =>
    obtain ⟨d, h1, h2, h3⟩ := H.fine i y (by simpa using hy)
    exact ⟨d, by simpa using h1, (hcm d).1 h2 |>.1, h3⟩
  ·refine List.pairwise_cons.2 ⟨fun y hy => ?_, H.apart⟩
   obtain ⟨i, hi⟩ := List.getElem?_of_mem hy
   obtain ⟨d, _, h2, h3⟩ := H.fine i y hi
   have := ((hcm d).1 h2).2
   rw [h3.p, hf.p] at this
   exact fun e => this e.symm
  ·rw [zz6 hc, H.total, zd]; omega
theorem Spent.of {h : Int} : ∀ {xs : List In} {r s cs : List Coin}, z03 r → xs.Pairwise (fun x y => x.p ≠ y.p) → cs.length = xs.length → (∀ (i : Nat) (x : In), xs[i]? = some x → ∃ c, cs[i]? = some c ∧ c ∈ r ∧ Fine h x c) → ∃ r', Spent h r s xs r' (s ++ cs)
 | [], r, s, cs, hr, ha, hl, hf => by
  have : cs = [] := List.eq_nil_of_length_eq_zero hl
  subst this
  exact ⟨r, by rw [List.append_nil]; exact .nil r s⟩
 | x :: xs, r, s, [], hr, ha, hl, hf => by cases hl
 | x :: xs, r, s, c :: cs, hr, ha, hl, hf => by
  obtain ⟨c', h1, hm, hfx⟩ := hf 0 x rfl
  simp only [List.getElem?_cons_zero, Option.some.injEq] at h1
  subst h1
  have hc : r[zj r x.p]? = some c := by rw [← hfx.p]; exact zz5 hr hm
  have ha' := List.pairwise_cons.1 ha
  obtain ⟨r', hs⟩ := Spent.of (s := s ++ [c]) (cs := cs) (z8d hr (zj r x.p)) ha'.2 (by simpa using hl) fun i y hy => by
   obtain ⟨d, k1, k2, k3⟩ := hf (i + 1) y (by simpa using hy)
   refine ⟨d, by simpa using k1, (zug hr hc).2 ⟨k2, ?_⟩, k3⟩
   rw [k3.p, hfx.p]
   exact fun e => ha'.1 y (List.mem_of_getElem? hy) e.symm
  exact ⟨r', .cons hm hc hfx (by rw [List.append_assoc] at hs; exact hs)⟩
def z8n (nm h : Int) (rw : Bool) (i : Nat) (o : Out) : Coin := ⟨⟨nm, i⟩, o, h, rw⟩
inductive Brought (nm h : Int) (rw : Bool) : List Coin → Nat → List Out → List Coin → Prop
 | nil (r i) : Brought nm h rw r i [] r
 | cons {r : List Coin} {i : Nat} {o : Out} {os : List Out} {m : List Coin} : z1p r ⟨nm, i⟩ = false → Brought nm h rw (r.take (zj r ⟨nm, i⟩) ++ [z8n nm h rw i o] ++ r.drop (zj r ⟨nm, i⟩)) (i + 1) os m → Brought nm h rw r i (o :: os) m
theorem Brought.run {ρ : Type} {nm h : Int} {rw : Bool} {bad : Int → ρ} {K : List Coin → ρ} {r m : List Coin} {i : Nat} {os : List Out} (hb : Brought nm h rw r i os m) : z2c nm h rw bad K r i os = K m := by
 induction hb with
 | nil r i => rfl
 | cons hn _ ih => rw [z2c, if_neg (by simp [hn])]; exact ih
theorem zfm {nm h : Int} {rw : Bool} {K : List Coin → List Coin × List Coin × Int} : ∀ {os : List Out} {r : List Coin} {i : Nat}, (z2c nm h rw z2r K r i os).2.2 = 0 → ∃ m, Brought nm h rw r i os m ∧ z2c nm h rw z2r K r i os = K m
 | [], r, i, _ => ⟨r, .nil r i, rfl⟩
 | o :: os, r, i, h0 => by
  rw [z2c] at h0 ⊢
  cases hp : z1p r ⟨nm, i⟩ with
  | true => rw [hp, if_pos rfl] at h0; cases h0
  | false =>
   rw [hp, if_neg (by simp)] at h0
   rw [if_neg (by simp)]
   obtain ⟨m, h1, h2⟩ := zfm h0
   exact ⟨m, .cons hp h1, h2⟩
def z14 (os : List Out) : Int := (os.map Out.coin).sum
structure BroughtAs (nm h : Int) (rw : Bool) (r : List Coin) (i : Nat) (os : List Out) (m : List Coin) : Prop where
 sorted : z03 m
 mem : ∀ c, c ∈ m ↔ c ∈ r ∨ ∃ (j : Nat) (o : Out), os[j]? = some o ∧ c = z8n nm h rw (i + j) o
 free : ∀ c ∈ r, ∀ j, j < os.length → c.p ≠ ⟨nm, ((i + j : Nat) : Int)⟩
 total : zd m = zd r + z14 os
 len : m.length = r.length + os.length
theorem Brought.as {nm h : Int} {rw : Bool} {r m : List Coin} {i : Nat} {os : List Out} (hb : Brought nm h rw r i os m) : z03 r → BroughtAs nm h rw r i os m := by
 induction hb with
 | nil r i => exact fun hr => ⟨hr, fun c => by simp, fun c _ j hj => by simp at hj, by simp [z14], by simp⟩
 | @cons r i o os m hn hb ih =>
  intro hr
  have H := ih (z8e hr (c := z8n nm h rw i o) hn)
  refine ⟨H.sorted, fun c => ?_, fun c hc j hj => ?_, ?_, ?_⟩
  ·rw [H.mem, put_mem]
   constructor
   ·rintro ((rfl | h1) | ⟨j, q, h1, h2⟩)
    ·exact .inr ⟨0, o, rfl, rfl⟩
    ·exact .inl h1
    ·exact .inr ⟨j + 1, q, by simpa using h1, by rw [h2, show i + 1 + j = i + (j + 1) by omega]⟩
   ·rintro (h1 | ⟨j, q, h1, h2⟩)
    ·exact .inl (.inr h1)
    ·cases j with
     | zero =>
      simp only [List.getElem?_cons_zero, Option.some.injEq] at h1
      subst h1
      exact .inl (.inl h2)
     | succ j => exact .inr ⟨j, q, by simpa using h1, by rw [h2, show i + 1 + j = i + (j + 1) by omega]⟩
  ·cases j with
   | zero => exact hasP_not.1 hn c hc
   | succ j =>
    have := H.free c (put_mem.2 (.inr hc)) j (by simpa using hj)
    rwa [show i + 1 + j = i + (j + 1) by omega] at this
  ·rw [H.total, zz7]
   simp only [z14, List.map_cons, List.sum_cons, z8n]
   omega
  ·rw [H.len]
   simp only [List.length_append, List.length_take, List.length_drop, List.length_cons, List.length_nil]
   omega
theorem Brought.of {nm h : Int} {rw : Bool} : ∀ {os : List Out} {r : List Coin} {i : Nat}, z03 r → (∀ c ∈ r, ∀ j, j < os.length → c.p ≠ ⟨nm, ((i + j : Nat) : Int)⟩) → ∃ m, Brought nm h rw r i os m
 | [], r, i, _, _ => ⟨r, .nil r i⟩
 | o :: os, r, i, hr, hf => by
  have hn : z1p r ⟨nm, i⟩ = false := hasP_not.2 fun c hc => hf c hc 0 (by simp)
  obtain ⟨m, hb⟩ := Brought.of (os := os) (i := i + 1) (z8e hr (c := z8n nm h rw i o) hn) fun c hc j hj => by
   rcases put_mem.1 hc with rfl | hc
   ·simp only [z8n, ne_eq, Point.mk.injEq, not_and]
    intro _
    omega
   ·have := hf c hc (j + 1) (by simpa using hj)
    rwa [show i + (j + 1) = i + 1 + j by omega] at this
  exact ⟨m, .cons hn hb⟩
theorem zz8 (os : List Out) : ∀ s : Int, os.foldl (fun s o => s - o.coin) s = s - z14 os := by
 induction os with
 | nil => intro s; simp [z14]
 | cons o os ih => intro s; rw [List.foldl_cons, ih]; simp only [z14, List.map_cons, List.sum_cons]; omega
theorem zrg (t : Tx) (s : List Coin) : z1z t s = zd s - z14 t.outs := by
 unfold z1z
 rw [zz8, zt0]
 omega
structure Done (l : List Coin) (t : Tx) (nm h : Int) (r s m : List Coin) : Prop where
 ok : CoinsOK l
 tx : zi t = 0
 nm1 : 1 ≤ nm
 nm2 : nm ≤ 120
 h1 : 1 ≤ h
 h2 : h ≤ 1000
 height : t.ins.length = 0 → t.height = h
 spent : Spent h l [] t.ins r s
 fee : t.ins.length ≠ 0 → 0 ≤ z1z t s
 brought : Brought nm h (decide ((t.ins.length : Int) = 0)) r 0 t.outs m
 end_ : CoinsOK m
theorem Done.run {l : List Coin} {t : Tx} {nm h : Int} {r s m : List Coin} (d : Done l t nm h r s m) : z09 l t nm h = (m, s, 0) := by
 unfold z09
 have hE : z7v s m = (m, s, 0) := by
  unfold z7v
  rw [if_neg (by rw [(z1u m).2 d.end_]; decide)]
 have a := d.nm1; have b := d.nm2; have c := d.h1; have e := d.h2
 rw [if_neg (by rw [(z1u l).2 d.ok]; decide), if_neg (by rw [d.tx]; decide), if_neg (by omega)]
 by_cases h0 : (t.ins.length : Int) = 0
 ·rw [if_pos h0, if_neg (by rw [d.height (by omega)]; simp), d.spent.run, d.brought.run, hE]
 ·rw [if_neg h0, d.spent.run, if_neg (by have := d.fee (by omega); omega), d.brought.run, hE]
theorem zwa {l : List Coin} {t : Tx} {nm h : Int} (h0 : (z09 l t nm h).2.2 = 0) : ∃ r, Done l t nm h r (z09 l t nm h).2.1 (z09 l t nm h).1 := by
 have key : ∃ r s m, Done l t nm h r s m := by
  unfold z09 at h0
  by_cases k1 : zr l = 0
  ·rw [if_neg (by rw [k1]; decide)] at h0
   have ok := (z1u l).1 k1
   by_cases k2 : zi t = 0
   ·rw [if_neg (by rw [k2]; decide)] at h0
    by_cases k3 : nm < 1 ∨ 120 < nm ∨ h < 1 ∨ 1000 < h
    ·rw [if_pos k3] at h0; cases h0
    ·rw [if_neg k3] at h0
     by_cases k4 : (t.ins.length : Int) = 0
     ·rw [if_pos k4] at h0
      by_cases k5 : t.height ≠ h
      ·rw [if_pos k5] at h0; cases h0
      ·rw [if_neg k5] at h0
       obtain ⟨r, s, q1, q2⟩ := zfl ok.sorted h0
       rw [q2] at h0
       obtain ⟨m, q3, q4⟩ := zfm h0
       rw [q4] at h0
       unfold z7v at h0
       by_cases k6 : zr m = 0
       ·exact ⟨r, s, m, ok, k2, by omega, by omega, by omega, by omega, fun _ => Decidable.not_not.1 k5, q1, fun h => absurd (by omega) h, q3, (z1u m).1 k6⟩
       ·rw [if_pos k6] at h0; exact absurd h0 k6
     ·rw [if_neg k4] at h0
      obtain ⟨r, s, q1, q2⟩ := zfl ok.sorted h0
      rw [q2] at h0
      by_cases k5 : z1z t s < 0
      ·simp only [if_pos k5] at h0; cases h0
      ·simp only [if_neg k5] at h0
       obtain ⟨m, q3, q4⟩ := zfm h0
       rw [q4] at h0
       unfold z7v at h0
       by_cases k6 : zr m = 0
       ·exact ⟨r, s, m, ok, k2, by omega, by omega, by omega, by omega, fun h => absurd (by omega) k4, q1, fun _ => by omega, q3, (z1u m).1 k6⟩
       ·rw [if_pos k6] at h0; exact absurd h0 k6
   ·rw [if_pos k2] at h0; exact absurd h0 k2
  ·rw [if_pos k1] at h0; exact absurd h0 k1
 obtain ⟨r, s, m, d⟩ := key
 refine ⟨r, ?_⟩
 rw [d.run]
 exact d
end
section
open Go.RowKit
theorem SpentAs.from {h : Int} {l : List Coin} {xs : List In} {r cs : List Coin} (S : SpentAs h l xs r cs) {c : Coin} (hc : c ∈ cs) : c ∈ l ∧ ∃ x ∈ xs, x.p = c.p := by
 obtain ⟨i, hi, rfl⟩ := List.getElem_of_mem hc
 have hl := S.len
 obtain ⟨c, h1, h2, h3⟩ := S.fine i xs[i] (List.getElem?_eq_getElem (by omega))
 rw [List.getElem?_eq_getElem hi] at h1
 injection h1 with h1
 rw [h1]
 exact ⟨h2, _, List.getElem_mem _, h3.p.symm⟩
theorem SpentAs.all {h : Int} {l : List Coin} {xs : List In} {r cs : List Coin} (S : SpentAs h l xs r cs) (hs : z03 l) {c : Coin} : c ∈ l ↔ c ∈ r ∨ c ∈ cs := by
 constructor
 ·intro hc
  by_cases hx : ∃ x ∈ xs, x.p = c.p
  ·obtain ⟨x, hx, he⟩ := hx
   obtain ⟨i, hi⟩ := List.getElem?_of_mem hx
   obtain ⟨d, h1, h2, h3⟩ := S.fine i x hi
   have : d = c := zex hs h2 hc (h3.p.trans he)
   subst this
   exact .inr (List.mem_of_getElem? h1)
  ·exact .inl ((S.mem c).2 ⟨hc, fun x hx' he => hx ⟨x, hx', he⟩⟩)
 ·rintro (hc | hc)
  ·exact ((S.mem c).1 hc).1
  ·exact (S.from hc).1
theorem Done.spentAs {l : List Coin} {t : Tx} {nm h : Int} {r s m : List Coin} (d : Done l t nm h r s m) : SpentAs h l t.ins r s := by
 obtain ⟨cs, e, S⟩ := d.spent.as d.ok.sorted
 rw [List.nil_append] at e
 exact e ▸ S
theorem Done.broughtAs {l : List Coin} {t : Tx} {nm h : Int} {r s m : List Coin} (d : Done l t nm h r s m) : BroughtAs nm h (decide ((t.ins.length : Int) = 0)) r 0 t.outs m := d.brought.as d.spentAs.sorted
theorem Done.short {l : List Coin} {t : Tx} {nm h : Int} {r s m : List Coin} (d : Done l t nm h r s m) : z6l s := by
 have S := d.spentAs
 exact ⟨by have := S.len; have := (z2e d.tx).ins; omega, fun c hc => d.ok.short.2 c (S.from hc).1⟩
theorem zrh {t : Tx} (ok : TxOK t) : 0 < z14 t.outs := by
 have key : ∀ os : List Out, (∀ o ∈ os, 1 ≤ o.coin) → (os.length : Int) ≤ z14 os := by
  intro os
  induction os with
  | nil => intro _; simp [z14]
  | cons o os ih =>
   intro h
   have h1 := h o (List.mem_cons_self ..)
   have h2 := ih fun x hx => h x (List.mem_cons_of_mem _ hx)
   simp only [z14, List.map_cons, List.sum_cons, List.length_cons] at h2 ⊢
   omega
 have := key t.outs fun o ho => (ok.good o ho).1
 have := ok.some
 omega
theorem zz9 {m : List Coin} {p : Point} (ok : CoinsOK m) (h : z1p m p = false) : zqf m p = (z5j, 7) := by
 unfold zqf
 rw [if_neg (by rw [(z1u m).2 ok]; decide), if_neg (by simp [h])]
theorem Done.gone {l : List Coin} {t : Tx} {nm h : Int} {r s m : List Coin} (d : Done l t nm h r s m) {x : In} (hx : x ∈ t.ins) (hn : x.p.tx ≠ nm) : zqf m x.p = (z5j, 7) := by
 have S := d.spentAs
 have B := d.broughtAs
 refine zz9 d.end_ (hasP_not.2 fun c hc e => ?_)
 rcases (B.mem c).1 hc with hc | ⟨j, o, _, rfl⟩
 ·exact ((S.mem c).1 hc).2 x hx e.symm
 ·exact hn (by rw [← e]; rfl)
end
section
open Go.RowKit
open Go.Lib (itoa)
set_option maxRecDepth 100000
set_option maxHeartbeats 4000000
def zis (b : Block) (ns : List Int) (l : List Coin) (us : List Undo) (most : Int) : List Coin × List Undo × Int :=
 if most < -z1z (b.txs.getD 0 zTx) [] then ([], [], 9) else
 if (z09 l (b.txs.getD 0 zTx) (ns.getD 0 0) b.height).2.2 ≠ 0 then ([], [], (z09 l (b.txs.getD 0 zTx) (ns.getD 0 0) b.height).2.2) else
 ((z09 l (b.txs.getD 0 zTx) (ns.getD 0 0) b.height).1, us.set 0 ⟨(z09 l (b.txs.getD 0 zTx) (ns.getD 0 0) b.height).2.1⟩, 0)
def zb3 (b : Block) (ns : List Int) (l : List Coin) (us : List Undo) (most : Int) (i : Nat) : List Tx → List Coin × List Undo × Int
 | [] => zis b ns l us most
 | t :: r => if (z09 l t (ns.getD i 0) b.height).2.2 ≠ 0 then ([], [], (z09 l t (ns.getD i 0) b.height).2.2) else
  zb3 b ns (z09 l t (ns.getD i 0) b.height).1 (us.set i ⟨(z09 l t (ns.getD i 0) b.height).2.1⟩) (most + z1z t (z09 l t (ns.getD i 0) b.height).2.1) (i + 1) r
def z5d (k : Book) (l : List Coin) (b : Block) : List Coin × List Undo × Int :=
 if zr l ≠ 0 then ([], [], zr l) else
 if (zu k b).2.2.2 ≠ 0 then ([], [], (zu k b).2.2.2) else
 zb3 b (zu k b).2.2.1 l (List.replicate b.txs.length ⟨[]⟩) (z17 b.height) 1 (b.txs.drop 1)
theorem zwb {k : Book} {b : Block} (h : (zu k b).2.2.2 = 0) : zq b = 0 ∧ (zu k b).2.2.1.length = b.txs.length := by
 unfold zu at h ⊢
 by_cases hp : (z05 b).2 = 0
 ·rw [if_neg (fun k => k hp)] at h ⊢
  refine ⟨z7u hp, ?_⟩
  unfold z6z at h ⊢
  by_cases ha : (z00 k (z1v b ++ [(z05 b).1])).2.2 = 0
  ·rw [if_neg (fun k => k ha)]
   have := zeu ha
   have h1 : (z1v b).length = b.txs.length := by simp [z1v]
   show (List.take _ _).length = _
   rw [List.length_take, this, List.length_append, h1, List.length_singleton]
   omega
  ·rw [if_pos ha] at h; exact absurd h ha
 ·rw [if_pos hp] at h; exact absurd h hp
theorem z01n {t : Tx} (h : zi t = 0) : zaz (t, []) := by
 have ok := z2e h
 exact ⟨by simp, by simp, by have := ok.outs; simp only; omega, fun o ho => by have := ok.good o ho; omega⟩
theorem z041 {t : Tx} (ok : TxOK t) : z14 t.outs ≤ 1000000000 * t.outs.length := by
 have key : ∀ os : List Out, (∀ o ∈ os, o.coin ≤ 1000000000) → z14 os ≤ 1000000000 * os.length := by
  intro os
  induction os with
  | nil => intro _; simp [z14]
  | cons o os ih =>
   intro h
   have h1 := h o (List.mem_cons_self ..)
   have h2 := ih fun x hx => h x (List.mem_cons_of_mem _ hx)
   simp only [z14, List.map_cons, List.sum_cons, List.length_cons] at h2 ⊢
   omega
 exact key t.outs fun o ho => (ok.good o ho).2.1
theorem z042 {t : Tx} (h : zi t = 0) : -10000000000 ≤ z1z t [] ∧ z1z t [] < 0 := by
 have ok := z2e h
 have h1 := zrh ok
 have h2 := z041 ok
 have h3 := ok.outs
 rw [zrg]
 simp only [zd]
 omega
theorem zza {l : List Coin} {t : Tx} {nm h : Int} (h0 : (z09 l t nm h).2.2 = 0) : zaz (t, (z09 l t nm h).2.1) ∧ -10000000000 ≤ z1z t (z09 l t nm h).2.1 ∧ z1z t (z09 l t nm h).2.1 ≤ 10000000000 := by
 obtain ⟨r, d⟩ := zwa h0
 generalize (z09 l t nm h).2.1 = s at *
 generalize (z09 l t nm h).1 = m at *
 have ok := z2e d.tx
 have S := d.spentAs
 have B := d.broughtAs
 have h1 := S.total
 have h2 := B.total
 have hl := d.ok.total
 have hm := d.end_.total
 have hr : 0 ≤ zd r := zd5 fun c hc => d.ok.good c ((S.mem c).1 hc).1
 have hs : 0 ≤ zd s := zd5 fun c hc => d.ok.good c (S.from hc).1
 have ho := zrh ok
 have hsl := S.len
 have := ok.ins
 have := ok.outs
 refine ⟨⟨by simp only; omega, fun c hc => by have := z2y (d.ok.good c (S.from hc).1); omega, by simp only; omega, fun o ho => by have := ok.good o ho; omega⟩, ?_⟩
 rw [zrg]
 omega
section
variable {sp : Nat → z9} {N : Nat} {E E' : Env} {ks : List (List Dt → Option (List Dt))} {res : Option (List Dt)} {k : T}
theorem z01o {a : Atom} {n : Nat} (ha : a.val E = some (I n)) (h : n ≤ 1000) : denX sp E (.mkz 1 [.nil 6] a) = some (.l 1 ((List.replicate n (⟨[]⟩ : Undo)).map z82)) := by
 rw [z05h (sz := 1) (z := [.nil 6]) ha (by omega) (by omega) rfl, Int.toNat_natCast, List.map_replicate]
 rfl
theorem zit {α : Type} {f : α → List Dt} {l : List α} {x y : α} {sz j n : Nat} {m : Int} {a b : Atom} {vs : List Atom} {ds : List Dt} (hm : m.toNat = n) (ha : a.val E = some (.l sz (l.map f))) (hb : b.val E = some (I m)) (hv : vals E vs = some ds) (h0 : 0 ≤ m) (hs : j + ds.length ≤ sz) (hx : l[n]? = some x) (hy : z49 (f x) j ds = f y) : denX sp E (.set a b j vs) = some (.l sz ((l.set n y).map f)) := by
 subst hm
 exact zy1 ha hb hv h0 hs hx hy
end
theorem z9d {α : Type} {l : List α} {i : Nat} (d : α) (h : i < l.length) : l[i]? = some (l.getD i d) := by
 rw [List.getD_eq_getElem?_getD, List.getElem?_eq_getElem h]
 rfl
def z02c (b : Block) (ns : List Int) (us : List Undo) (l : List Coin) : Nat → List Coin × Int
 | 0 => (l, 0)
 | i + 1 => if (z5o l (b.txs.getD (i + 1) zTx) (ns.getD (i + 1) 0) (us.getD (i + 1) ⟨[]⟩).spent).2 ≠ 0 then ([], (z5o l (b.txs.getD (i + 1) zTx) (ns.getD (i + 1) 0) (us.getD (i + 1) ⟨[]⟩).spent).2) else
  z02c b ns us (z5o l (b.txs.getD (i + 1) zTx) (ns.getD (i + 1) 0) (us.getD (i + 1) ⟨[]⟩).spent).1 i
def z06s (k : Book) (l : List Coin) (b : Block) (us : List Undo) : List Coin × Int :=
 if zr l ≠ 0 then ([], zr l) else
 if (zu k b).2.2.2 ≠ 0 then ([], (zu k b).2.2.2) else
 if (us.length : Int) ≠ b.txs.length then ([], 4) else
 if (z5o l (b.txs.getD 0 zTx) ((zu k b).2.2.1.getD 0 0) (us.getD 0 ⟨[]⟩).spent).2 ≠ 0 then ([], (z5o l (b.txs.getD 0 zTx) ((zu k b).2.2.1.getD 0 0) (us.getD 0 ⟨[]⟩).spent).2) else
 z02c b (zu k b).2.2.1 us (z5o l (b.txs.getD 0 zTx) ((zu k b).2.2.1.getD 0 0) (us.getD 0 ⟨[]⟩).spent).1 (b.txs.length - 1)
noncomputable def z3x : z9 := spD (fun _ : Book × List Coin × Block => True) fun x => z5d x.1 x.2.1 x.2.2
theorem zfn (k : Book) (l : List Coin) (b : Block) : z3x [.l 1 (k.texts.map z1m), .l 6 (l.map zw), I b.parent, I b.height, I b.work, I b.nonce, .l 3 (b.txs.map eTx)] = some [.l 6 ((z5d k l b).1.map zw), .l 1 ((z5d k l b).2.1.map z82), I (z5d k l b).2.2] := z01 (f := fun x : Book × List Coin × Block => z5d x.1 x.2.1 x.2.2) (k, l, b) trivial
theorem zri (n : Int) : 0 ≤ z17 n ∧ z17 n ≤ 1000 := by
 have h := zkj n
 exact h
attribute [local irreducible] den denX z0s z1h
attribute [local irreducible] z0h spD z09 z5o z1z zu zr z17
def ziu : T :=
 .lets [.call 12 [.v 35, .v 36, .v 37, .v 38] 0] [] (.lets [.bin .add (.v 22) (.v 39)] [] (.lets [.bin .add (.v 23) (.c (.i .i64 1))] [] (.again 0 [.v 30, .v 19, .v 33, .v 32, .v 40,
 .v 41])))
def ziv : T :=
 .lets [.idx (.v 6) (.v 23) 0, .idx (.v 6) (.v 23) 1, .idx (.v 6) (.v 23) 2] [] (.lets [] [.inr 1 (.v 33) (.v 23)] (.lets [.idx (.v 33) (.v 23) 0] [] ziu))
def ziw : T :=
 .lets [.set (.v 20) (.v 23) 0 [.v 31]] [] (.lets [.bin .neq (.v 32) (.c (.i .i64 0))] [] (.ite (.v 34) (.ret [.c (.nil 6), .c (.nil 1), .v 32]) (.lets [] [.inr 3 (.v 6) (.v 23)]
 ziv)))
def zix : T :=
 .lets [.call 17 [.v 18, .v 26, .v 27, .v 28, .v 29, .v 3] 0, .call 17 [.v 18, .v 26, .v 27, .v 28, .v 29, .v 3] 1, .call 17 [.v 18, .v 26, .v 27, .v 28, .v 29, .v 3] 2] [] (.lets []
 [.inr 1 (.v 20) (.v 23)] ziw)
def ziy : T :=
 .lets [.idx (.v 6) (.v 23) 0, .idx (.v 6) (.v 23) 1, .idx (.v 6) (.v 23) 2] [] (.lets [] [.inr 1 (.v 11) (.v 23)] (.lets [.idx (.v 11) (.v 23) 0] [] zix))
def ziz : T :=
 .lets [.set (.v 20) (.c (.i .i64 0)) 0 [.v 37]] [] (.lets [.bin .neq (.v 38) (.c (.i .i64 0))] [] (.ite (.v 40) (.ret [.c (.nil 6), .c (.nil 1), .v 38]) (.ret [.v 36, .v 39, .c (.i
 .i64 0)])))
def zj0 : T :=
 .lets [.call 17 [.v 18, .v 32, .v 33, .v 34, .v 35, .v 3] 0, .call 17 [.v 18, .v 32, .v 33, .v 34, .v 35, .v 3] 1, .call 17 [.v 18, .v 32, .v 33, .v 34, .v 35, .v 3] 2] [] (.lets []
 [.inr 1 (.v 20) (.c (.i .i64 0))] ziz)
def zj1 : T :=
 .lets [.idx (.v 6) (.c (.i .i64 0)) 0, .idx (.v 6) (.c (.i .i64 0)) 1, .idx (.v 6) (.c (.i .i64 0)) 2] [] (.lets [] [.inr 1 (.v 11) (.c (.i .i64 0))] (.lets [.idx (.v 11) (.c (.i
 .i64 0)) 0] [] zj0))
def zj2 : T :=
 .lets [.neg (.v 29)] [] (.lets [.bin .gtr (.v 30) (.v 22)] [] (.ite (.v 31) (.ret [.c (.nil 6), .c (.nil 1), .c (.i .i64 9)]) (.lets [] [.inr 3 (.v 6) (.c (.i .i64 0))]
 zj1)))
def zj3 : T :=
 .lets [.idx (.v 6) (.c (.i .i64 0)) 0, .idx (.v 6) (.c (.i .i64 0)) 1, .idx (.v 6) (.c (.i .i64 0)) 2] [] (.lets [.call 12 [.v 26, .v 27, .v 28, .c (.nil 6)] 0] [] zj2)
def zh7 : T :=
 .lets [.len (.v 6)] [] (.lets [.bin .lss (.v 23) (.v 24)] [] (.ite (.v 25) (.lets [] [.inr 3 (.v 6) (.v 23)] ziy) (.lets [] [.inr 3 (.v 6) (.c (.i .i64 0))]
 zj3)))
def zh8 : T :=
 .lets [.call 46 [.v 3] 0, .call 46 [.v 3] 1] [] (.lets [.len (.v 6)] [] (.lets [.mkz 1 [.nil 6] (.v 16)] [] (.loop [.v 1, .c (.nil 6), .v 17, .v 12, .v 14, .c (.i .i64 1)]
 zh7)))
def zh9 : T :=
 .lets [.call 45 [.v 0, .v 2, .v 3, .v 4, .v 5, .v 6] 0, .call 45 [.v 0, .v 2, .v 3, .v 4, .v 5, .v 6] 1, .call 45 [.v 0, .v 2, .v 3, .v 4, .v 5, .v 6] 2, .call 45 [.v 0, .v 2, .v 3,
 .v 4, .v 5, .v 6] 3] [] (.lets [.bin .neq (.v 12) (.c (.i .i64 0))] [] (.ite (.v 13) (.ret [.c (.nil 6), .c (.nil 1), .v 12]) zh8))
def z9e : T :=
 .lets [.call 8 [.v 1] 0] [] (.lets [.bin .neq (.v 7) (.c (.i .i64 0))] [] (.ite (.v 8) (.ret [.c (.nil 6), .c (.nil 1), .v 7]) zh9))
attribute [local irreducible] z1e z3w z6m z3s z5n
theorem zrj : Meets Tryd.prog z3x 18 ⟨[.agg 1, .one, .agg 5], [(false, [.pure]), (false, [.pure]), (false, [.scal])], false⟩ := by
 refine zy (sp := (z0v [(8, z3s), (12, z5n), (17, z6m), (45, z1e), (46, z3w)])) (sigs := z11) (cut := []) (hints := [⟨10, [.t 1, .r 6 63 6, .r 7 102 1, .t 8, .t 13, .t 15, .z 41]⟩]) (fn := Tryd.f18) (t := z9e) (by kernel_rfl) (by kernel_rfl) (by kernel_rfl) ?_ ?_
 ·exact (z0m (L := [(8, z3s), (12, z5n), (17, z6m), (45, z1e), (46, z3w)]) ⟨zl rfl zk0, zl rfl zud, zl rfl zz4, zl rfl zc2, zl rfl zqk, trivial⟩)
 ·rintro ds rs hok h
  obtain ⟨⟨k, l, b⟩, -, rfl, rfl⟩ := z02 h
  clear h
  refine ⟨⟨100, ?_⟩, zkf ⟨rfl, trivial⟩⟩
  show den _ _ z9e [.l 1 (k.texts.map z1m), .l 6 (l.map zw), I b.parent, I b.height, I b.work, I b.nonce, .l 3 (b.txs.map eTx)] [] = ret (z5d k l b)
  have a1 := z5g l
  have a2 := z3j k b
  have a3 := zfk b.height
  have hnm := zwb (k := k) (b := b)
  have hrw : 0 ≤ z17 b.height ∧ z17 b.height ≤ 1000 := zri b.height
  unfold z9e z5d
  generalize zu k b = nm at *
  obtain ⟨tx, n0, ns, e⟩ := nm
  generalize z17 b.height = rw0 at *
  simp only at *
  by_cases hc : zr l = 0
  rotate_left
  ·repeat' (first | refine dq1 ?_ | refine dqc ?_ | refine dqm ?_ | refine dqK rfl (a1) ?_ | exact z4 rfl rfl | ((first | refine tR ?_ ?_ | refine tB ?_ ?_ | refine tC ?_ ?_ | refine tN ?_ ?_ | refine tF ?_ ?_ | refine tG ?_ ?_ | refine tP ?_ ?_ | refine tQ ?_ ?_ | refine tA ?_ ?_ | refine tO ?_ ?_ | refine tU ?_ ?_ | refine tV ?_ ?_) <;> intro h) | refine dqT ?_ | refine dqF ?_ | refine z7 rfl ?_ | refine z6 rfl ?_ | refine zg ?_ | refine zh ?_)
   all_goals (exfalso; omega)
  by_cases he : e = 0
  rotate_left
  ·repeat' (first | refine dq1 ?_ | refine dqc ?_ | refine dqm ?_ | refine dqK rfl (a1) ?_ | refine dqK rfl (a2) ?_ | exact z4 rfl rfl | ((first | refine tR ?_ ?_ | refine tB ?_ ?_ | refine tC ?_ ?_ | refine tN ?_ ?_ | refine tF ?_ ?_ | refine tG ?_ ?_ | refine tP ?_ ?_ | refine tQ ?_ ?_ | refine tA ?_ ?_ | refine tO ?_ ?_ | refine tU ?_ ?_ | refine tV ?_ ?_) <;> intro h) | refine dqT ?_ | refine dqF ?_ | refine z7 rfl ?_ | refine z6 rfl ?_ | refine zg ?_ | refine zh ?_)
   all_goals (exfalso; omega)
  obtain ⟨hb, hnl⟩ := hnm he
  have ok := z45 hb
  have hl4 := ok.len
  have hl1 := ok.some
  subst he
  repeat' (first | refine dq1 ?_ | refine dqc ?_ | refine dqm ?_ | refine dqK rfl (a1) ?_ | refine dqK rfl (a2) ?_ | refine dqK rfl (a3) ?_ | refine z5 (z01o rfl (by omega)) ?_ | exact z4 rfl rfl | ((first | refine tR ?_ ?_ | refine tB ?_ ?_ | refine tC ?_ ?_ | refine tN ?_ ?_ | refine tF ?_ ?_ | refine tG ?_ ?_ | refine tP ?_ ?_ | refine tQ ?_ ?_ | refine tA ?_ ?_ | refine tO ?_ ?_ | refine tU ?_ ?_ | refine tV ?_ ?_) <;> intro h) | refine dqT ?_ | refine dqF ?_ | refine z7 rfl ?_ | refine z6 rfl ?_ | refine zg ?_ | refine zh ?_)
  have hdl : (b.txs.drop 1).length = b.txs.length - 1 := by simp
  (refine z0q (fun (a : List Coin × List Undo × Int) k => [.l 6 (a.1.map zw), .l 6 [], .l 1 (a.2.1.map z82), I 0, I a.2.2, I (k + 1)]) (fun (a : List Coin × List Undo × Int) k (r : List Tx) => zb3 b ns a.1 a.2.1 a.2.2 (k + 1) r) (fun a k => a.2.1.length = b.txs.length ∧ -(10000000000 * ((k : Int) + 1)) ≤ a.2.2 ∧ a.2.2 ≤ 10000000000 * ((k : Int) + 1)) (l, List.replicate b.txs.length ⟨[]⟩, rw0) (b.txs.drop 1) ?_ ?_ ?_ ?_ ?_; rfl; exact ⟨by simp, by simp only; omega, by simp only; omega⟩; omega)
  ·rintro ⟨l, us, most⟩ i x r hx hd hk ⟨hu, m1, m2⟩ again hag
   simp only at hu m1 m2 hag ⊢
   have hx' : b.txs[((i : Int) + 1).toNat]? = some x := by
    rw [show ((i : Int) + 1).toNat = 1 + i by omega, ← List.getElem?_drop]; exact hx
   have hn' : ns[((i : Int) + 1).toNat]? = some (ns.getD (i + 1) 0) := by
    rw [show ((i : Int) + 1).toNat = i + 1 by omega]; exact z9d 0 (by omega)
   have hu' : us[i + 1]? = some (us.getD (i + 1) ⟨[]⟩) := z9d _ (by omega)
   rw [zb3]
   have a4 := zcc l x (ns.getD (i + 1) 0) b.height
   have hfee := zza (l := l) (t := x) (nm := ns.getD (i + 1) 0) (h := b.height)
   generalize ns.getD (i + 1) 0 = nm at *
   generalize us.getD (i + 1) ⟨[]⟩ = u0 at *
   generalize z09 l x nm b.height = q at *
   obtain ⟨l2, sp, f⟩ := q
   simp only at a4 hfee ⊢
   by_cases hf : f = 0
   ·obtain ⟨hd1, hd2, hd3⟩ := hfee hf
    subst hf
    rw [if_neg (fun h => h rfl)]
    have a5 := zac x sp hd1
    have hs1 : (us.set (i + 1) (⟨sp⟩ : Undo))[((i : Int) + 1).toNat]? = some ⟨sp⟩ := by
     rw [show ((i : Int) + 1).toNat = i + 1 by omega]; exact List.getElem?_set_self (by omega)
    have hsl : (us.set (i + 1) (⟨sp⟩ : Undo)).length = us.length := List.length_set ..
    generalize z1z x sp = fe at *
    repeat' (first | refine dq1 ?_ | refine dqc ?_ | refine dqm ?_ | refine dqK rfl (a4) ?_ | refine dqK rfl (a5) ?_ | refine z5 (zit (n := i + 1) (x := u0) (y := ⟨sp⟩) (by omega) rfl rfl rfl (by omega) (Nat.le_refl _) hu' rfl) ?_ | exact z4 rfl rfl | ((first | refine tR ?_ ?_ | refine tB ?_ ?_ | refine tC ?_ ?_ | refine tN ?_ ?_ | refine tF ?_ ?_ | refine tG ?_ ?_ | refine tP ?_ ?_ | refine tQ ?_ ?_ | refine tA ?_ ?_ | refine tO ?_ ?_ | refine tU ?_ ?_ | refine tV ?_ ?_) <;> intro h) | refine dqT ?_ | refine dqF ?_ | refine z7 rfl ?_ | refine z6 rfl ?_ | refine zg ?_ | refine zh ?_)
    exact ze rfl rfl (hag (l2, us.set (i + 1) ⟨sp⟩, most + fe) ⟨by simpa using hu, by simp only; omega, by simp only; omega⟩)
   ·rw [if_pos hf]
    repeat' (first | refine dq1 ?_ | refine dqc ?_ | refine dqm ?_ | refine dqK rfl (a4) ?_ | refine z5 (zit (n := i + 1) (x := u0) (y := ⟨sp⟩) (by omega) rfl rfl rfl (by omega) (Nat.le_refl _) hu' rfl) ?_ | exact z4 rfl rfl | ((first | refine tR ?_ ?_ | refine tB ?_ ?_ | refine tC ?_ ?_ | refine tN ?_ ?_ | refine tF ?_ ?_ | refine tG ?_ ?_ | refine tP ?_ ?_ | refine tQ ?_ ?_ | refine tA ?_ ?_ | refine tO ?_ ?_ | refine tU ?_ ?_ | refine tV ?_ ?_) <;> intro h) | refine dqT ?_ | refine dqF ?_ | refine z7 rfl ?_ | refine z6 rfl ?_ | refine zg ?_ | refine zh ?_)
  ·rintro ⟨l, us, most⟩ ⟨hu, m1, m2⟩ again
   simp only at hu m1 m2 ⊢
   have ht0 : b.txs[(0 : Int).toNat]? = some (b.txs.getD 0 zTx) := z9d _ hl1
   have hn0 : ns[(0 : Int).toNat]? = some (ns.getD 0 0) := z9d _ (by omega)
   have hu0 : us[0]? = some (us.getD 0 ⟨[]⟩) := z9d _ (by omega)
   have e0 : zb3 b ns l us most ((b.txs.drop 1).length + 1) [] = zis b ns l us most := by rw [zb3]
   rw [e0]
   unfold zis
   have hct := ok.each (b.txs.getD 0 zTx) (List.mem_of_getElem? ht0)
   obtain ⟨f1, f2⟩ := z042 hct
   have a5 := zac (b.txs.getD 0 zTx) [] (z01n hct)
   have a4 := zcc l (b.txs.getD 0 zTx) (ns.getD 0 0) b.height
   generalize b.txs.getD 0 zTx = t0 at *
   generalize ns.getD 0 0 = nm at *
   generalize us.getD 0 ⟨[]⟩ = u0 at *
   generalize z1z t0 [] = fe at *
   generalize z09 l t0 nm b.height = q at *
   obtain ⟨l2, sp, f⟩ := q
   simp only at a4 ⊢
   repeat' (first | refine dq1 ?_ | refine dqc ?_ | refine dqm ?_ | refine dqK rfl (a4) ?_ | refine dqK rfl (a5) ?_ | refine z5 (zit (n := 0) (x := u0) (y := ⟨sp⟩) rfl rfl rfl rfl (by omega) (Nat.le_refl _) hu0 rfl) ?_ | exact z4 rfl rfl | ((first | refine tR ?_ ?_ | refine tB ?_ ?_ | refine tC ?_ ?_ | refine tN ?_ ?_ | refine tF ?_ ?_ | refine tG ?_ ?_ | refine tP ?_ ?_ | refine tQ ?_ ?_ | refine tA ?_ ?_ | refine tO ?_ ?_ | refine tU ?_ ?_ | refine tV ?_ ?_) <;> intro h) | refine dqT ?_ | refine dqF ?_ | refine z7 rfl ?_ | refine z6 rfl ?_ | refine zg ?_ | refine zh ?_)
end
section
open Go.RowKit
open Go.Lib (itoa)
set_option maxRecDepth 100000
set_option maxHeartbeats 4000000
def z02d : List Int → List Int → Nat
 | a :: x, b :: y => if a = b then z02d x y + 1 else 0
 | _, _ => 0
section
variable {α : Type} {f : α → List Dt} {sp : Nat → z9} {E : Env}
end
attribute [local irreducible] den denX z0s z1h
attribute [local irreducible] z0h spD z5d z06s z060 z06r z0n z02d
end
section
open Go.RowKit
open Go.Lib (itoa)
set_option maxRecDepth 100000
set_option maxHeartbeats 4000000
attribute [local irreducible] den denX z0s z1h
theorem z062 (a b : Block) : (if a.parent = b.parent then if a.height = b.height then if a.work = b.work then if a.nonce = b.nonce then decide (a.txs = b.txs) else false else false else false else false) = decide (a = b) := by
 cases a; cases b
 simp only [Block.mk.injEq, Bool.decide_and]
 split <;> rename_i h1 <;> simp only [h1, decide_true, decide_false, Bool.true_and, Bool.false_and]
 split <;> rename_i h2 <;> simp only [h2, decide_true, decide_false, Bool.true_and, Bool.false_and]
 split <;> rename_i h3 <;> simp only [h3, decide_true, decide_false, Bool.true_and, Bool.false_and]
 split <;> rename_i h4 <;> simp only [h4, decide_true, decide_false, Bool.true_and, Bool.false_and]
noncomputable def zec : z9 := spD (fun _ : List Tx × List Tx => True) fun x => decide (x.1 = x.2)
theorem zwc (l m : List Tx) : zec [.l 3 (l.map eTx), .l 3 (m.map eTx)] = some [.b (decide (l = m))] := z01 (f := fun x : List Tx × List Tx => decide (x.1 = x.2)) (l, m) trivial
noncomputable def z6n : z9 := spD (fun _ : Block × Block => True) fun x => decide (x.1 = x.2)
theorem zlv (a b : Block) : z6n [I a.parent, I a.height, I a.work, I a.nonce, .l 3 (a.txs.map eTx), I b.parent, I b.height, I b.work, I b.nonce, .l 3 (b.txs.map eTx)] = some [.b (decide (a = b))] := z01 (f := fun x : Block × Block => decide (x.1 = x.2)) (a, b) trivial
theorem zlw (x y : Tx) : z62 [I x.height, .l 3 (x.ins.map eIn), .l 2 (x.outs.map z2a), I y.height, .l 3 (y.ins.map eIn), .l 2 (y.outs.map z2a)] = some [.b (decide (x = y))] := zqg x y
attribute [local irreducible] z0h spD
def z01p : T :=
 .lets [.call 41 [.v 9, .v 10, .v 11, .v 12, .v 13, .v 14] 0] [] (.lets [.not (.v 15)] [] (.ite (.v 16) (.ret [.c (.b false)]) (.lets [.bin .add (.v 7) (.c (.i .i64 1))] [] (.again 0
 [.v 6, .v 17]))))
def z01q : T :=
 .lets [.idx (.v 0) (.v 7) 0, .idx (.v 0) (.v 7) 1, .idx (.v 0) (.v 7) 2] [] (.lets [] [.inr 3 (.v 1) (.v 7)] (.lets [.idx (.v 1) (.v 7) 0, .idx (.v 1) (.v 7) 1, .idx (.v 1) (.v 7)
 2] [] z01p))
def z01r : T :=
 .lets [.len (.v 0)] [] (.loop [.c (.b false), .c (.i .i64 0)] (.lets [.bin .lss (.v 7) (.v 5)] [] (.ite (.v 8) (.lets [] [.inr 3 (.v 0) (.v 7)] z01q) (.ret [.c (.b true)]))))
def zrk : T :=
 .lets [.len (.v 0)] [] (.lets [.len (.v 1)] [] (.lets [.bin .neq (.v 2) (.v 3)] [] (.ite (.v 4) (.ret [.c (.b false)]) z01r)))
def zte : T :=
 .ite (.v 12) (.lets [.bin .eql (.v 3) (.v 8)] [] (.ite (.v 13) (.lets [.call 48 [.v 4, .v 9] 0] [] (.ret [.v 14])) (.ret [.c (.b false)]))) (.ret [.c (.b false)])
def zds : T :=
 .lets [.bin .eql (.v 0) (.v 5)] [] (.ite (.v 10) (.lets [.bin .eql (.v 1) (.v 6)] [] (.ite (.v 11) (.lets [.bin .eql (.v 2) (.v 7)] [] zte) (.ret [.c (.b false)]))) (.ret
 [.c (.b false)]))
attribute [local irreducible] z62
theorem z063 : Meets Tryd.prog zec 14 ⟨[.one, .one, .clos 15 []], [(false, [.scal])], true⟩ := by
 refine zy (sp := (z0v [(41, z62)])) (sigs := z11) (cut := []) (hints := [⟨4, [.t 6, .t 17]⟩]) (fn := Tryd.f14) (t := zrk) (by kernel_rfl) (by kernel_rfl) (by kernel_rfl) ?_ ?_
 ·exact (z0m (L := [(41, z62)]) ⟨zl rfl z01c, trivial⟩)
 ·rintro ds rs hok h
  obtain ⟨⟨l, m⟩, -, rfl, rfl⟩ := z02 h
  clear h
  have hll := zw3 (hok (.l 3 (l.map eTx)) (List.mem_cons_self ..))
  refine ⟨⟨l.length + 1, ?_⟩, z0c rfl⟩
  show den _ _ zrk [.l 3 (l.map eTx), .l 3 (m.map eTx)] [] = ret (decide (l = m))
  rw [z9t]
  unfold zrk
  repeat' (first | refine dq1 ?_ | refine dqc ?_ | refine dqm ?_ | exact z4 rfl rfl | ((first | refine tR ?_ ?_ | refine tB ?_ ?_ | refine tC ?_ ?_ | refine tN ?_ ?_ | refine tF ?_ ?_ | refine tG ?_ ?_ | refine tP ?_ ?_ | refine tQ ?_ ?_ | refine tA ?_ ?_ | refine tO ?_ ?_ | refine tU ?_ ?_ | refine tV ?_ ?_) <;> intro h) | refine dqT ?_ | refine dqF ?_ | refine z7 rfl ?_ | refine z6 rfl ?_ | refine zg ?_ | refine zh ?_)
  have hlm : l.length = m.length := by omega
  (refine z0q (fun (_ : Unit) k => [.b false, I k]) (fun (_ : Unit) k (r : List Tx) => decide (r = m.drop k)) (fun _ _ => True) () l ?_ ?_ ?_ ?_ ?_; rfl; exact trivial; first | exact Nat.lt_succ_self _ | omega)
  ·rintro _ k x r hx hd hk - again hag
   have hy : m[k]? = some (m[k]'(by omega)) := List.getElem?_eq_getElem (by omega)
   have hdy : m.drop k = m[k]'(by omega) :: m.drop (k + 1) := List.drop_eq_getElem_cons (by omega)
   rw [hdy]
   generalize m[k]'(by omega) = y at *
   have e : decide (x :: r = y :: m.drop (k + 1)) = if decide (x = y) = true then decide (r = m.drop (k + 1)) else false := by
    by_cases h : x = y
    ·simp [h]
    ·simp [h]
   rw [e]
   have hkm : k < m.length := by omega
   repeat' (first | refine dq1 ?_ | refine dqc ?_ | refine dqm ?_ | refine dqK rfl (zlw x y) ?_ | exact z4 rfl rfl | exact ze rfl rfl (hag () trivial) | exact ze rfl rfl (hag _ trivial) | exact ze rfl rfl (hag _ (by omega)) | exact ze rfl rfl (hag _ (by assumption)) | ((first | refine tR ?_ ?_ | refine tB ?_ ?_ | refine tC ?_ ?_ | refine tN ?_ ?_ | refine tF ?_ ?_ | refine tG ?_ ?_ | refine tP ?_ ?_ | refine tQ ?_ ?_ | refine tA ?_ ?_ | refine tO ?_ ?_ | refine tU ?_ ?_ | refine tV ?_ ?_) <;> intro h) | refine dqT ?_ | refine dqF ?_ | refine z7 rfl ?_ | refine z6 rfl ?_ | refine zg ?_ | refine zh ?_)
  ·rintro _ - again
   rw [hlm, List.drop_length]
   repeat' (first | refine dq1 ?_ | refine dqc ?_ | refine dqm ?_ | exact z4 rfl rfl | ((first | refine tR ?_ ?_ | refine tB ?_ ?_ | refine tC ?_ ?_ | refine tN ?_ ?_ | refine tF ?_ ?_ | refine tG ?_ ?_ | refine tP ?_ ?_ | refine tQ ?_ ?_ | refine tA ?_ ?_ | refine tO ?_ ?_ | refine tU ?_ ?_ | refine tV ?_ ?_) <;> intro h) | refine dqT ?_ | refine dqF ?_ | refine z7 rfl ?_ | refine z6 rfl ?_ | refine zg ?_ | refine zh ?_)
theorem zzb : Meets Tryd.prog z6n 10 ⟨[.agg 5, .agg 5], [(false, [.scal])], true⟩ := by
 refine zy (sp := (z0v [(48, zec)])) (sigs := z11) (cut := []) (hints := []) (fn := Tryd.f10) (t := zds) (by kernel_rfl) (by kernel_rfl) (by kernel_rfl) ?_ ?_
 ·exact (z0m (L := [(48, zec)]) ⟨zl rfl z063, trivial⟩)
 ·rintro ds rs - h
  obtain ⟨⟨a, b⟩, -, rfl, rfl⟩ := z02 h
  clear h
  refine ⟨⟨1, ?_⟩, z0c rfl⟩
  show den _ _ zds [I a.parent, I a.height, I a.work, I a.nonce, .l 3 (a.txs.map eTx), I b.parent, I b.height, I b.work, I b.nonce, .l 3 (b.txs.map eTx)] [] = ret (decide (a = b))
  rw [← z062]
  unfold zds
  repeat' (first | refine dq1 ?_ | refine dqc ?_ | refine dqm ?_ | refine dqK rfl (zwc _ _) ?_ | exact z4 rfl rfl | ((first | refine tR ?_ ?_ | refine tB ?_ ?_ | refine tC ?_ ?_ | refine tN ?_ ?_ | refine tF ?_ ?_ | refine tG ?_ ?_ | refine tP ?_ ?_ | refine tQ ?_ ?_ | refine tA ?_ ?_ | refine tO ?_ ?_ | refine tU ?_ ?_ | refine tV ?_ ?_) <;> intro h) | refine dqT ?_ | refine dqF ?_ | refine z7 rfl ?_ | refine z6 rfl ?_ | refine zg ?_ | refine zh ?_)
def lb0 : Block := ⟨0, 1, 2, 0, [⟨1, [], [⟨64, []⟩]⟩]⟩
def lbT : List UInt8 := [98, 108, 111, 99, 107, 32, 48, 32, 49, 32, 50, 32, 48, 10, 116, 120, 32, 49, 10, 111, 117, 116, 32, 54, 52, 58, 10]
def lbX : List UInt8 := [116, 120, 32, 49, 10, 111, 117, 116, 32, 54, 52, 58, 10]
deriving instance DecidableEq for Undo
theorem zzc : z05 lb0 = (lbT, 0) := by with_unfolding_all decide +kernel
theorem zzd : zu ⟨[]⟩ lb0 = ([lbX, lbT], 2, [1], 0) := by with_unfolding_all decide +kernel
theorem z01s : z5d ⟨[]⟩ [] lb0 = ([⟨⟨1, 0⟩, ⟨64, []⟩, 1, true⟩], [⟨[]⟩], 0) := by with_unfolding_all decide +kernel
noncomputable def z9f : z9 := spD (fun _ : Unit => True) fun _ => true
theorem ztf : z9f [] = some [.b true] := z01 (f := fun _ : Unit => true) () trivial
attribute [local irreducible] z05 zu z5d z1y z1e z3x
def zze : T :=
 .lets [.bin .eql (.v 22) (.c (.i .i64 1))] [] (.ite (.v 23) (.lets [] [.inr 6 (.v 8) (.c (.i .i64 0))] (.lets [.idx (.v 8) (.c (.i .i64 0)) 5] [] (.ret [.v 24]))) (.ret [.c (.b
 false)]))
def zzf : T :=
 .ite (.v 19) (.lets [.len (.v 8)] [] (.lets [.bin .eql (.v 20) (.c (.i .i64 1))] [] (.ite (.v 21) (.lets [.len (.v 9)] [] zze) (.ret [.c (.b false)])))) (.ret [.c (.b false)])
def zzg : T :=
 .lets [.mk 1 [[.c (.i .i64 1)]]] [] (.lets [.call 34 [.v 6, .v 16] 0] [] (.ite (.v 17) (.lets [.len (.v 4)] [] (.lets [.bin .eql (.v 18) (.c (.i .i64 2))] [] zzf)) (.ret [.c
 (.b false)])))
def zzh : T :=
 .lets [.bin .eql (.v 2) (.c (.s [98, 108, 111, 99, 107, 32, 48, 32, 49, 32, 50, 32, 48, 10, 116, 120, 32, 49, 10, 111, 117, 116, 32, 54, 52, 58, 10]))] [] (.ite (.v 14) (.lets [.bin
 .eql (.v 5) (.c (.i .i64 2))] [] (.ite (.v 15) zzg (.ret [.c (.b false)]))) (.ret [.c (.b false)]))
def zzi : T :=
 .lets [.bin .eql (.v 7) (.c (.i .i64 0))] [] (.ite (.v 12) (.lets [.bin .eql (.v 10) (.c (.i .i64 0))] [] (.ite (.v 13) zzh (.ret [.c (.b false)]))) (.ret [.c (.b false)]))
def zzj : T :=
 .lets [.call 47 [.c (.nil 1), .c (.nil 6), .c (.i .i64 0), .c (.i .i64 1), .c (.i .i64 2), .c (.i .i64 0), .v 1] 0, .call 47 [.c (.nil 1), .c (.nil 6), .c (.i .i64 0), .c (.i .i64
 1), .c (.i .i64 2), .c (.i .i64 0), .v 1] 1, .call 47 [.c (.nil 1), .c (.nil 6), .c (.i .i64 0), .c (.i .i64 1), .c (.i .i64 2), .c (.i .i64 0), .v 1] 2] [] (.lets [.bin .eql (.v 3)
 (.c (.i .i64 0))] [] (.ite (.v 11) zzi (.ret [.c (.b false)])))
def zzk : T :=
 .lets [.call 45 [.c (.nil 1), .c (.i .i64 0), .c (.i .i64 1), .c (.i .i64 2), .c (.i .i64 0), .v 1] 0, .call 45 [.c (.nil 1), .c (.i .i64 0), .c (.i .i64 1), .c (.i .i64 2), .c (.i
 .i64 0), .v 1] 1, .call 45 [.c (.nil 1), .c (.i .i64 0), .c (.i .i64 1), .c (.i .i64 2), .c (.i .i64 0), .v 1] 2, .call 45 [.c (.nil 1), .c (.i .i64 0), .c (.i .i64 1), .c (.i .i64
 2), .c (.i .i64 0), .v 1] 3] [] zzj
def zzl : T :=
 .lets [.call 37 [.c (.i .i64 0), .c (.i .i64 1), .c (.i .i64 2), .c (.i .i64 0), .v 1] 0, .call 37 [.c (.i .i64 0), .c (.i .i64 1), .c (.i .i64 2), .c (.i .i64 0), .v 1] 1] []
 zzk
def zj4 : T :=
 .lets [.mk 2 [[.c (.i .i64 64), .c (.nil 2)]]] [] (.lets [.mk 3 [[.c (.i .i64 1), .c (.nil 3), .v 0]]] [] zzl)
attribute [local irreducible] z3p
theorem z043 : Meets Tryd.prog z9f 6 ⟨[], [(false, [.scal])], true⟩ := by
 refine zy (sp := (z0v [(34, z3p), (37, z1y), (45, z1e), (47, z3x)])) (sigs := z11) (cut := []) (hints := []) (fn := Tryd.f6) (t := zj4) (by kernel_rfl) (by kernel_rfl) (by kernel_rfl) ?_ ?_
 ·exact (z0m (L := [(34, z3p), (37, z1y), (45, z1e), (47, z3x)]) ⟨zl rfl zqd, zl rfl zh1, zl rfl zc2, zl rfl zrj, trivial⟩)
 ·rintro ds rs - h
  obtain ⟨⟨⟩, -, rfl, rfl⟩ := z02 h
  clear h
  refine ⟨⟨1, ?_⟩, z0c rfl⟩
  show den _ _ zj4 [] [] = ret true
  have a1 := z9v lb0
  rw [zzc] at a1
  have a2 := z3j ⟨[]⟩ lb0
  rw [zzd] at a2
  have a3 := zfn ⟨[]⟩ [] lb0
  rw [z01s] at a3
  have a4 := zdo [1] [1]
  rw [decide_eq_true rfl] at a4
  have x0 : ([⟨⟨1, 0⟩, ⟨64, []⟩, 1, true⟩] : List Coin)[(0 : Int).toNat]? = some ⟨⟨1, 0⟩, ⟨64, []⟩, 1, true⟩ := rfl
  have x1 : ([⟨⟨1, 0⟩, ⟨64, []⟩, 1, true⟩] : List Coin).length = 1 := rfl
  unfold zj4
  repeat' (first | refine dq1 ?_ | refine dqc ?_ | refine dqm ?_ | refine dqK rfl (a1) ?_ | refine dqK rfl (a2) ?_ | refine dqK rfl (a3) ?_ | refine dqK rfl (a4) ?_ | refine z5 (z4l rfl rfl (by simp)) ?_ | exact z4 rfl rfl | ((first | refine tR ?_ ?_ | refine tB ?_ ?_ | refine tC ?_ ?_ | refine tN ?_ ?_ | refine tF ?_ ?_ | refine tG ?_ ?_ | refine tP ?_ ?_ | refine tQ ?_ ?_ | refine tA ?_ ?_ | refine tO ?_ ?_ | refine tU ?_ ?_ | refine tV ?_ ?_) <;> intro h) | refine dqT ?_ | refine dqF ?_ | refine z7 rfl ?_ | refine z6 rfl ?_ | refine zg ?_ | refine zh ?_)
end
end Go.Proofs.YtnklncinjahckaaDoor
